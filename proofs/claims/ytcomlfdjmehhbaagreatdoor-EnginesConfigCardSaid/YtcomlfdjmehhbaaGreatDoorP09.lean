/- An evaluator of the program, and contracts over it: EcJ to MsG. -/
import Derived.Below
import Derived.Test.YtcomlfdjmehhbaaGreatDoorP03
import Derived.Test.YtcomlfdjmehhbaaGreatDoorP06
import Derived.Test.YtcomlfdjmehhbaaGreatDoorP08
set_option linter.unusedSimpArgs false
set_option linter.unusedVariables false
set_option linter.constructorNameAsVariable false
set_option linter.unnecessarySimpa false
namespace Go.Ev.Lay
set_option maxRecDepth 4000
theorem fP {p : Knd → Bool} (hp : ∀ q r : Knd, q.same r → p q = p r) : ∀ {a b : List Knd}, bY a b → a.all p = b.all p
  | [], [], _ => rfl
  | q :: _, r :: _, h => by rw [List.all_cons, List.all_cons, hp q r h.1, fP hp h.2]
  | [], _ :: _, h => h.elim
  | _ :: _, [], h => h.elim
theorem qG {c : Cfg} {v : V} {K : List Knd} (s : bY c.Ks K) : cfB (c.put v K) = cfB c := by
  unfold cfB jM Cfg.put
  simp only
  rw [jt s, fP (p := okP) (fun q r x => by unfold okP; rw [x.2.2.2.2.2.2.2.1]) s, fP (p := okL c.least) (fun q r x => by unfold okL; rw [x.2.2.2.2.2.1]) s]
theorem gH {h : Heap} {g : Nat} {c : Cfg} (a : Eng h g c) : au go 29 [.ptr g 0] h fun u h' => u = .bool false ∧ h = h' := by
  obtain ⟨t, s, bg, bK, K, v1, v2, v3, v4, o1, _⟩ := a.ex
  have l7 : ab h g 7 = some (.ptr t 0) := o1.ld1 7
  have q : aP (.nil 0 false) [.ptr t 0, .nilp] = some (.bool false) := rfl
  have q' : aP (.nil 0 false) [.ptr g 0, .nilp] = some (.bool false) := rfl
  refine af ?_
  simp (maxSteps := 1000000) (disch := omega) only [evs, ↓reduceIte, Nat.reduceEqDiff, Nat.reduceAdd, Nat.reduceMul, Nat.reduceLeDiff, Nat.reduceLT, Int.reduceNeg, DF, eff, Nat.reduceSub, aa, l7, q, q']
theorem t9 {h : Heap} {g : Nat} {c : Cfg} (a : Eng h g c) : au go 9 [.ptr g 0] h fun u h' => u = .int .i64 c.view ∧ h = h' := by
  refine af ?_
  simp (maxSteps := 1000000) (disch := omega) only [evs, ↓reduceIte, Nat.reduceEqDiff, Nat.reduceAdd, Nat.reduceMul, Nat.reduceLeDiff, Nat.reduceLT, Int.reduceNeg, DF, eff, Nat.reduceSub, aa]
  refine ae (gH a) ?_
  rintro _ _ ⟨rfl, rfl⟩
  obtain ⟨t, s, bg, bK, K, v1, v2, v3, v4, o1, _⟩ := a.ex
  have l9 : ab h g 9 = some (.int .i64 c.view) := o1.ld1 9
  simp (maxSteps := 1000000) (disch := omega) only [evs, ↓reduceIte, Nat.reduceEqDiff, Nat.reduceAdd, Nat.reduceMul, Nat.reduceLeDiff, Nat.reduceLT, Int.reduceNeg, DF, eff, Nat.reduceSub, aa, l9]
theorem we {h : Heap} {g : Nat} {c : Cfg} (a : Eng h g c) : au go 10 [.ptr g 0] h fun u h' => u = .int .i64 0 ∧ h = h' := by
  refine af ?_
  simp (maxSteps := 1000000) (disch := omega) only [evs, ↓reduceIte, Nat.reduceEqDiff, Nat.reduceAdd, Nat.reduceMul, Nat.reduceLeDiff, Nat.reduceLT, Int.reduceNeg, DF, eff, Nat.reduceSub, aa]
  refine ae (gH a) ?_
  rintro _ _ ⟨rfl, rfl⟩
  obtain ⟨t, s, bg, bK, K, v1, v2, v3, v4, o1, _⟩ := a.ex
  have l9 : ab h g 10 = some (.int .i64 0) := o1.ld1 10
  simp (maxSteps := 1000000) (disch := omega) only [evs, ↓reduceIte, Nat.reduceEqDiff, Nat.reduceAdd, Nat.reduceMul, Nat.reduceLeDiff, Nat.reduceLT, Int.reduceNeg, DF, eff, Nat.reduceSub, aa, l9]
theorem rJ {h : Heap} {s bg : Nat} {v1 v2 v3 v4 : V} (w : WF h) (o2 : Own h s [v1, v2, .ptr bg 0, v3, v4]) (o3 : Own h bg [.nils, .int .i64 0, .int .i64 0]) : au go 30 [.ptr s 0] h fun u h' => u = .agg [.nils] ∧ Fr [] h h' := by
  obtain ⟨h1, e_h1⟩ : ∃ h1, h1 = halloc h [.nils] := ⟨_, rfl⟩
  have F_h1 : Fr [] h h1 := e_h1 ▸ Fr.halloc w _
  have o_h1 : Own h1 h.next [.nils] := e_h1 ▸ Own.new w _
  obtain ⟨h2, e_h2⟩ : ∃ h2, h2 = halloc h1 [.nils] := ⟨_, rfl⟩
  have F_h2 : Fr [] h1 h2 := e_h2 ▸ Fr.halloc F_h1.wf _
  have o_h2 : Own h2 h1.next [.nils] := e_h2 ▸ Own.new F_h1.wf _
  refine af ?_
  simp (maxSteps := 1000000) (disch := omega) only [evs, ↓reduceIte, Nat.reduceEqDiff, Nat.reduceAdd, Nat.reduceMul, Nat.reduceLeDiff, Nat.reduceLT, Int.reduceNeg, DF, eff, Nat.reduceSub, aa, ← e_h1, ← e_h2]
  refine sts (c' := [.nils]) F_h2.wf o_h2 ?_
  rintro h3 o3' F3 n3
  have n1 : h1.next = h.next + 1 := by rw [e_h1]; rfl
  have F03 : Fr [] h h3 := (F_h1.then F_h2).fresh F3 w (by omega)
  have l2 : ab h3 s 2 = some (.ptr bg 0) := (F03.get o2).ld1 2
  have k : GpT h3 bg (bg + 1) .nils [] [] [] 0 0 0 := ⟨F03.get o3, ⟨rfl, .inl ⟨rfl, rfl⟩⟩, rfl, rfl, rfl, rfl, rfl, by omega, by omega, by omega, fun x m => by simp at m⟩
  have q : aP (.nil 0 false) [.ptr bg 0, .nilp] = some (.bool false) := rfl
  have q' : aP (.nil 0 false) [.ptr s 0, .nilp] = some (.bool false) := rfl
  simp (maxSteps := 1000000) (disch := omega) only [evs, ↓reduceIte, Nat.reduceEqDiff, Nat.reduceAdd, Nat.reduceMul, Nat.reduceLeDiff, Nat.reduceLT, Int.reduceNeg, DF, eff, Nat.reduceSub, aa]
  refine ae (?_ : au go 63 [.ptr s 0] h3 fun u h' => u = .int .i64 0 ∧ h3 = h') ?_
  · refine af ?_
    simp (maxSteps := 1000000) (disch := omega) only [evs, ↓reduceIte, Nat.reduceEqDiff, Nat.reduceAdd, Nat.reduceMul, Nat.reduceLeDiff, Nat.reduceLT, Int.reduceNeg, DF, eff, Nat.reduceSub, aa]
    refine ae (?_ : au go 74 [.ptr s 0] h3 fun u h' => u = .bool false ∧ h3 = h') ?_
    · refine af ?_
      simp (maxSteps := 1000000) (disch := omega) only [evs, ↓reduceIte, Nat.reduceEqDiff, Nat.reduceAdd, Nat.reduceMul, Nat.reduceLeDiff, Nat.reduceLT, Int.reduceNeg, DF, eff, Nat.reduceSub, aa, l2, q, q']
    · rintro _ _ ⟨rfl, rfl⟩
      simp (maxSteps := 1000000) (disch := omega) only [evs, ↓reduceIte, Nat.reduceEqDiff, Nat.reduceAdd, Nat.reduceMul, Nat.reduceLeDiff, Nat.reduceLT, Int.reduceNeg, DF, eff, Nat.reduceSub, aa, l2]
      refine ae (dZ k) ?_
      rintro _ _ ⟨rfl, rfl⟩
      simp (maxSteps := 1000000) (disch := omega) only [evs, ↓reduceIte, Nat.reduceEqDiff, Nat.reduceAdd, Nat.reduceMul, Nat.reduceLeDiff, Nat.reduceLT, Int.reduceNeg, DF, eff, Nat.reduceSub, aa]
      rfl
  rintro _ _ ⟨rfl, rfl⟩
  have l3 : ak h3 h1.next 0 1 = some [.nils] := by rw [o3'.ld]; rfl
  simp (maxSteps := 1000000) (disch := omega) only [evs, ↓reduceIte, Nat.reduceEqDiff, Nat.reduceAdd, Nat.reduceMul, Nat.reduceLeDiff, Nat.reduceLT, Int.reduceNeg, DF, eff, Nat.reduceSub, aa, l3]
  refine sts (c' := [.nils]) F3.wf (F3.own _ _ (by simp; omega) (F_h2.get o_h1)) ?_
  rintro h4 o4 F4 n4
  have l4 : ak h4 h.next 0 1 = some [.nils] := by rw [o4.ld]; rfl
  simp (maxSteps := 1000000) (disch := omega) only [evs, ↓reduceIte, Nat.reduceEqDiff, Nat.reduceAdd, Nat.reduceMul, Nat.reduceLeDiff, Nat.reduceLT, Int.reduceNeg, DF, eff, Nat.reduceSub, aa, l4]
  exact F03.fresh F4 w (Nat.le_refl _)
theorem ua {h : Heap} {g : Nat} {c : Cfg} (w : WF h) (a : Eng h g c) : au go 11 [.ptr g 0] h fun u h' => u = .agg [.nils] ∧ Fr [] h h' := by
  obtain ⟨h1, e_h1⟩ : ∃ h1, h1 = halloc h [.nils] := ⟨_, rfl⟩
  have F_h1 : Fr [] h h1 := e_h1 ▸ Fr.halloc w _
  have o_h1 : Own h1 h.next [.nils] := e_h1 ▸ Own.new w _
  refine af ?_
  simp (maxSteps := 1000000) (disch := omega) only [evs, ↓reduceIte, Nat.reduceEqDiff, Nat.reduceAdd, Nat.reduceMul, Nat.reduceLeDiff, Nat.reduceLT, Int.reduceNeg, DF, eff, Nat.reduceSub, aa, ← e_h1]
  refine ae (gH (a.fr w (by simp) F_h1)) ?_
  rintro _ _ ⟨rfl, rfl⟩
  obtain ⟨t, s, bg, bK, K, v1, v2, v3, v4, o1, o2, o3, _⟩ := (a.fr w (by simp) F_h1).ex
  have l8 : ab h1 g 8 = some (.ptr s 0) := o1.ld1 8
  simp (maxSteps := 1000000) (disch := omega) only [evs, ↓reduceIte, Nat.reduceEqDiff, Nat.reduceAdd, Nat.reduceMul, Nat.reduceLeDiff, Nat.reduceLT, Int.reduceNeg, DF, eff, Nat.reduceSub, aa, l8]
  refine ae (rJ F_h1.wf o2 o3) ?_
  rintro _ h2 ⟨rfl, F2⟩
  simp (maxSteps := 1000000) (disch := omega) only [evs, ↓reduceIte, Nat.reduceEqDiff, Nat.reduceAdd, Nat.reduceMul, Nat.reduceLeDiff, Nat.reduceLT, Int.reduceNeg, DF, eff, Nat.reduceSub, aa]
  refine sts (c' := [.nils]) F2.wf (F2.get o_h1) ?_
  rintro h3 o3' F3 n3
  have l3 : ak h3 h.next 0 1 = some [.nils] := by rw [o3'.ld]; rfl
  simp (maxSteps := 1000000) (disch := omega) only [evs, ↓reduceIte, Nat.reduceEqDiff, Nat.reduceAdd, Nat.reduceMul, Nat.reduceLeDiff, Nat.reduceLT, Int.reduceNeg, DF, eff, Nat.reduceSub, aa, l3]
  exact (F_h1.then F2).fresh F3 w (Nat.le_refl _)
theorem qD {h : Heap} {g : Nat} {c : Cfg} (w : WF h) (a : Eng h g c) (ok : okR c.Ks c.cap = true) : au go 8 [.ptr g 0] h fun u h' => ∃ (bK : Nat) (K : List Knd), u = .agg (c.put (.slice bK 0 K.length K.length) K).cells ∧ cfB (c.put (.slice bK 0 K.length K.length) K) = cfB c ∧ K.length = c.Ks.length ∧ Fr [] h h' ∧ h.next ≤ bK ∧
    Own h' bK (K.flatMap Knd.cells) ∧ (∀ q ∈ K, PO h.next bK h' q) ∧ CfH h' (c.put (.slice bK 0 K.length K.length) K) := by
  obtain ⟨h1, e_h1⟩ : ∃ h1, h1 = halloc h [.int .i64 0, .int .i64 0, .int .i64 0, .nils, .int .i64 0, .int .i64 0, .int .u8 0] := ⟨_, rfl⟩
  have F_h1 : Fr [] h h1 := e_h1 ▸ Fr.halloc w _
  have o_h1 : Own h1 h.next [.int .i64 0, .int .i64 0, .int .i64 0, .nils, .int .i64 0, .int .i64 0, .int .u8 0] := e_h1 ▸ Own.new w _
  refine af ?_
  simp (maxSteps := 1000000) (disch := omega) only [evs, ↓reduceIte, Nat.reduceEqDiff, Nat.reduceAdd, Nat.reduceMul, Nat.reduceLeDiff, Nat.reduceLT, Int.reduceNeg, DF, eff, Nat.reduceSub, aa, ← e_h1]
  have a1 := a.fr w (by simp) F_h1
  refine ae (gH a1) ?_
  rintro _ _ ⟨rfl, rfl⟩
  obtain ⟨t, s, bg, bK, K, v1, v2, v3, v4, o1, o2, o3, sk, st⟩ := a1.ex
  have l7 : ak h1 g 0 7 = some (c.put (.slice bK 0 K.length K.length) K).cells := by rw [o1.ld]; rfl
  simp (maxSteps := 1000000) (disch := omega) only [evs, ↓reduceIte, Nat.reduceEqDiff, Nat.reduceAdd, Nat.reduceMul, Nat.reduceLeDiff, Nat.reduceLT, Int.reduceNeg, DF, eff, Nat.reduceSub, aa, l7]
  have cf := st [] h1 (by simp) (Fr.refl F_h1.wf)
  refine ae (jT F_h1.wf cf (by rw [← ok]; exact (jt sk c.cap).symm)) ?_
  rintro _ h2 ⟨bK2, K2, rfl, sk2, F2, hb, oK, pK, st2⟩
  have n1 : h1.next = h.next + 1 := by rw [e_h1]; rfl
  have e7 : ((c.put (.slice bK 0 K.length K.length) K).put (.slice bK2 0 K2.length K2.length) K2) = c.put (.slice bK2 0 K2.length K2.length) K2 := rfl
  rw [e7] at st2 ⊢
  have bk2 := oK.lt F2.wf
  simp (maxSteps := 1000000) (disch := omega) only [evs, ↓reduceIte, Nat.reduceEqDiff, Nat.reduceAdd, Nat.reduceMul, Nat.reduceLeDiff, Nat.reduceLT, Int.reduceNeg, DF, eff, Nat.reduceSub, aa]
  refine sts (c' := (c.put (.slice bK2 0 K2.length K2.length) K2).cells) F2.wf (F2.get o_h1) ?_
  rintro h3 o3' F3 n3
  have l3 : ak h3 h.next 0 7 = some (c.put (.slice bK2 0 K2.length K2.length) K2).cells := by rw [o3'.ld]; rfl
  simp (maxSteps := 1000000) (disch := omega) only [evs, ↓reduceIte, Nat.reduceEqDiff, Nat.reduceAdd, Nat.reduceMul, Nat.reduceLeDiff, Nat.reduceLT, Int.reduceNeg, DF, eff, Nat.reduceSub, aa, l3]
  refine ⟨bK2, K2, rfl, ?_, (dU sk2).symm.trans (dU sk).symm, (F_h1.then F2).fresh F3 w (Nat.le_refl _), by omega, F3.own _ _ (by simp; omega) oK, ?_, st2 _ h3 (by simp; omega) F3⟩
  · rw [← e7, qG sk2, qG sk]
  · intro q hq
    rcases pK q hq with z | ⟨b, x1, x2, x3, C, x4, x5⟩
    · exact .inl z
    · exact .inr ⟨b, by omega, x2, x3, C, F3.own _ _ (by simp; omega) x4, x5⟩
/-- no engine: nil, or the zero one -/
def wb : List V := [.int .i64 0, .int .i64 0, .int .i64 0, .nils, .int .i64 0, .int .i64 0, .int .u8 0, .nilp, .nilp, .int .i64 0, .int .i64 0, .int .i64 0, .int .i64 0, .int .i64 0, .int .i64 0, .int .u64 0, .int .i64 0]
def NoE (h : Heap) (p : V) : Prop := p = .nilp ∨ ∃ b, p = .ptr b 0 ∧ Own h b wb
theorem NoE.fr {h h' : Heap} {p : V} (a : NoE h p) (f : Fr [] h h') : NoE h' p := a.imp_right fun ⟨b, e, o⟩ => ⟨b, e, f.get o⟩
theorem NoE.one {h : Heap} {p : V} (a : NoE h p) : p.one = true := by
  rcases a with rfl | ⟨b, rfl, _⟩ <;> rfl
theorem bM {h : Heap} {p : V} (a : NoE h p) : au go 29 [p] h fun u h' => u = .bool true ∧ h = h' := by
  rcases a with rfl | ⟨b, rfl, o⟩
  · have q' : aP (.nil 0 false) [.nilp, .nilp] = some (.bool true) := rfl
    refine af ?_
    simp (maxSteps := 1000000) (disch := omega) only [evs, ↓reduceIte, Nat.reduceEqDiff, Nat.reduceAdd, Nat.reduceMul, Nat.reduceLeDiff, Nat.reduceLT, Int.reduceNeg, DF, eff, Nat.reduceSub, aa, q']
  · have l7 : ab h b 7 = some .nilp := o.ld1 7
    have q : aP (.nil 0 false) [.nilp, .nilp] = some (.bool true) := rfl
    have q' : aP (.nil 0 false) [.ptr b 0, .nilp] = some (.bool false) := rfl
    refine af ?_
    simp (maxSteps := 1000000) (disch := omega) only [evs, ↓reduceIte, Nat.reduceEqDiff, Nat.reduceAdd, Nat.reduceMul, Nat.reduceLeDiff, Nat.reduceLT, Int.reduceNeg, DF, eff, Nat.reduceSub, aa, l7, q, q']
theorem sL {h : Heap} {p : V} (a : NoE h p) : au go 9 [p] h fun u h' => u = .int .i64 0 ∧ h = h' := by
  refine af ?_
  simp (maxSteps := 1000000) (disch := omega) only [evs, ↓reduceIte, Nat.reduceEqDiff, Nat.reduceAdd, Nat.reduceMul, Nat.reduceLeDiff, Nat.reduceLT, Int.reduceNeg, DF, eff, Nat.reduceSub, aa]
  refine ae (bM a) ?_
  rintro _ _ ⟨rfl, rfl⟩
  simp (maxSteps := 1000000) (disch := omega) only [evs, ↓reduceIte, Nat.reduceEqDiff, Nat.reduceAdd, Nat.reduceMul, Nat.reduceLeDiff, Nat.reduceLT, Int.reduceNeg, DF, eff, Nat.reduceSub, aa]
theorem vw {h : Heap} {p : V} (a : NoE h p) : au go 10 [p] h fun u h' => u = .int .i64 0 ∧ h = h' := by
  refine af ?_
  simp (maxSteps := 1000000) (disch := omega) only [evs, ↓reduceIte, Nat.reduceEqDiff, Nat.reduceAdd, Nat.reduceMul, Nat.reduceLeDiff, Nat.reduceLT, Int.reduceNeg, DF, eff, Nat.reduceSub, aa]
  refine ae (bM a) ?_
  rintro _ _ ⟨rfl, rfl⟩
  simp (maxSteps := 1000000) (disch := omega) only [evs, ↓reduceIte, Nat.reduceEqDiff, Nat.reduceAdd, Nat.reduceMul, Nat.reduceLeDiff, Nat.reduceLT, Int.reduceNeg, DF, eff, Nat.reduceSub, aa]
theorem vx {h : Heap} {p : V} (a : NoE h p) : au go 15 [p] h fun u h' => u = .nilp ∧ h = h' := by
  refine af ?_
  simp (maxSteps := 1000000) (disch := omega) only [evs, ↓reduceIte, Nat.reduceEqDiff, Nat.reduceAdd, Nat.reduceMul, Nat.reduceLeDiff, Nat.reduceLT, Int.reduceNeg, DF, eff, Nat.reduceSub, aa]
  refine ae (bM a) ?_
  rintro _ _ ⟨rfl, rfl⟩
  simp (maxSteps := 1000000) (disch := omega) only [evs, ↓reduceIte, Nat.reduceEqDiff, Nat.reduceAdd, Nat.reduceMul, Nat.reduceLeDiff, Nat.reduceLT, Int.reduceNeg, DF, eff, Nat.reduceSub, aa]
theorem sM {h : Heap} {p : V} (a : NoE h p) : au go 17 [p] h fun u h' => u = .nils ∧ h = h' := by
  refine af ?_
  simp (maxSteps := 1000000) (disch := omega) only [evs, ↓reduceIte, Nat.reduceEqDiff, Nat.reduceAdd, Nat.reduceMul, Nat.reduceLeDiff, Nat.reduceLT, Int.reduceNeg, DF, eff, Nat.reduceSub, aa]
  refine ae (bM a) ?_
  rintro _ _ ⟨rfl, rfl⟩
  simp (maxSteps := 1000000) (disch := omega) only [evs, ↓reduceIte, Nat.reduceEqDiff, Nat.reduceAdd, Nat.reduceMul, Nat.reduceLeDiff, Nat.reduceLT, Int.reduceNeg, DF, eff, Nat.reduceSub, aa]
theorem vA {h : Heap} {p : V} (w : WF h) (a : NoE h p) : au go 8 [p] h fun u h' => u = .agg [.int .i64 0, .int .i64 0, .int .i64 0, .nils, .int .i64 0, .int .i64 0, .int .u8 0] ∧ Fr [] h h' := by
  obtain ⟨h1, e_h1⟩ : ∃ h1, h1 = halloc h [.int .i64 0, .int .i64 0, .int .i64 0, .nils, .int .i64 0, .int .i64 0, .int .u8 0] := ⟨_, rfl⟩
  have F_h1 : Fr [] h h1 := e_h1 ▸ Fr.halloc w _
  have o_h1 : Own h1 h.next [.int .i64 0, .int .i64 0, .int .i64 0, .nils, .int .i64 0, .int .i64 0, .int .u8 0] := e_h1 ▸ Own.new w _
  refine af ?_
  simp (maxSteps := 1000000) (disch := omega) only [evs, ↓reduceIte, Nat.reduceEqDiff, Nat.reduceAdd, Nat.reduceMul, Nat.reduceLeDiff, Nat.reduceLT, Int.reduceNeg, DF, eff, Nat.reduceSub, aa, ← e_h1]
  refine ae (bM (a.fr F_h1)) ?_
  rintro _ _ ⟨rfl, rfl⟩
  simp (maxSteps := 1000000) (disch := omega) only [evs, ↓reduceIte, Nat.reduceEqDiff, Nat.reduceAdd, Nat.reduceMul, Nat.reduceLeDiff, Nat.reduceLT, Int.reduceNeg, DF, eff, Nat.reduceSub, aa]
  refine sts (c' := [.int .i64 0, .int .i64 0, .int .i64 0, .nils, .int .i64 0, .int .i64 0, .int .u8 0]) F_h1.wf o_h1 ?_
  rintro h2 o2 F2 n2
  have l2 : ak h2 h.next 0 7 = some [.int .i64 0, .int .i64 0, .int .i64 0, .nils, .int .i64 0, .int .i64 0, .int .u8 0] := by rw [o2.ld]; rfl
  simp (maxSteps := 1000000) (disch := omega) only [evs, ↓reduceIte, Nat.reduceEqDiff, Nat.reduceAdd, Nat.reduceMul, Nat.reduceLeDiff, Nat.reduceLT, Int.reduceNeg, DF, eff, Nat.reduceSub, aa, l2]
  exact F_h1.fresh F2 w (Nat.le_refl _)
theorem vy {h : Heap} {p : V} (w : WF h) (a : NoE h p) : au go 14 [p] h fun u h' => u = .agg [.int .i64 0, .int .i64 0, .int .i64 0, .int .i64 0] ∧ Fr [] h h' := by
  obtain ⟨h1, e_h1⟩ : ∃ h1, h1 = halloc h [.int .i64 0, .int .i64 0, .int .i64 0, .int .i64 0] := ⟨_, rfl⟩
  have F_h1 : Fr [] h h1 := e_h1 ▸ Fr.halloc w _
  have o_h1 : Own h1 h.next [.int .i64 0, .int .i64 0, .int .i64 0, .int .i64 0] := e_h1 ▸ Own.new w _
  refine af ?_
  simp (maxSteps := 1000000) (disch := omega) only [evs, ↓reduceIte, Nat.reduceEqDiff, Nat.reduceAdd, Nat.reduceMul, Nat.reduceLeDiff, Nat.reduceLT, Int.reduceNeg, DF, eff, Nat.reduceSub, aa, ← e_h1]
  refine ae (bM (a.fr F_h1)) ?_
  rintro _ _ ⟨rfl, rfl⟩
  simp (maxSteps := 1000000) (disch := omega) only [evs, ↓reduceIte, Nat.reduceEqDiff, Nat.reduceAdd, Nat.reduceMul, Nat.reduceLeDiff, Nat.reduceLT, Int.reduceNeg, DF, eff, Nat.reduceSub, aa]
  refine sts (c' := [.int .i64 0, .int .i64 0, .int .i64 0, .int .i64 0]) F_h1.wf o_h1 ?_
  rintro h2 o2 F2 n2
  have l2 : ak h2 h.next 0 4 = some [.int .i64 0, .int .i64 0, .int .i64 0, .int .i64 0] := by rw [o2.ld]; rfl
  simp (maxSteps := 1000000) (disch := omega) only [evs, ↓reduceIte, Nat.reduceEqDiff, Nat.reduceAdd, Nat.reduceMul, Nat.reduceLeDiff, Nat.reduceLT, Int.reduceNeg, DF, eff, Nat.reduceSub, aa, l2]
  exact F_h1.fresh F2 w (Nat.le_refl _)
theorem sO {h : Heap} {p : V} (w : WF h) (a : NoE h p) : au go 11 [p] h fun u h' => u = .agg [.nils] ∧ Fr [] h h' := by
  obtain ⟨h1, e_h1⟩ : ∃ h1, h1 = halloc h [.nils] := ⟨_, rfl⟩
  have F_h1 : Fr [] h h1 := e_h1 ▸ Fr.halloc w _
  have o_h1 : Own h1 h.next [.nils] := e_h1 ▸ Own.new w _
  refine af ?_
  simp (maxSteps := 1000000) (disch := omega) only [evs, ↓reduceIte, Nat.reduceEqDiff, Nat.reduceAdd, Nat.reduceMul, Nat.reduceLeDiff, Nat.reduceLT, Int.reduceNeg, DF, eff, Nat.reduceSub, aa, ← e_h1]
  refine ae (bM (a.fr F_h1)) ?_
  rintro _ _ ⟨rfl, rfl⟩
  simp (maxSteps := 1000000) (disch := omega) only [evs, ↓reduceIte, Nat.reduceEqDiff, Nat.reduceAdd, Nat.reduceMul, Nat.reduceLeDiff, Nat.reduceLT, Int.reduceNeg, DF, eff, Nat.reduceSub, aa]
  refine sts (c' := [.nils]) F_h1.wf o_h1 ?_
  rintro h2 o2 F2 n2
  have l2 : ak h2 h.next 0 1 = some [.nils] := by rw [o2.ld]; rfl
  simp (maxSteps := 1000000) (disch := omega) only [evs, ↓reduceIte, Nat.reduceEqDiff, Nat.reduceAdd, Nat.reduceMul, Nat.reduceLeDiff, Nat.reduceLT, Int.reduceNeg, DF, eff, Nat.reduceSub, aa, l2]
  exact F_h1.fresh F2 w (Nat.le_refl _)
theorem sN {h : Heap} {p : V} (w : WF h) (a : NoE h p) : au go 16 [p] h fun u h' => u = .agg [.int .u32 0, .int .u32 0] ∧ Fr [] h h' := by
  obtain ⟨h1, e_h1⟩ : ∃ h1, h1 = halloc h [.int .u32 0, .int .u32 0] := ⟨_, rfl⟩
  have F_h1 : Fr [] h h1 := e_h1 ▸ Fr.halloc w _
  have o_h1 : Own h1 h.next [.int .u32 0, .int .u32 0] := e_h1 ▸ Own.new w _
  refine af ?_
  simp (maxSteps := 1000000) (disch := omega) only [evs, ↓reduceIte, Nat.reduceEqDiff, Nat.reduceAdd, Nat.reduceMul, Nat.reduceLeDiff, Nat.reduceLT, Int.reduceNeg, DF, eff, Nat.reduceSub, aa, ← e_h1]
  refine ae (bM (a.fr F_h1)) ?_
  rintro _ _ ⟨rfl, rfl⟩
  simp (maxSteps := 1000000) (disch := omega) only [evs, ↓reduceIte, Nat.reduceEqDiff, Nat.reduceAdd, Nat.reduceMul, Nat.reduceLeDiff, Nat.reduceLT, Int.reduceNeg, DF, eff, Nat.reduceSub, aa]
  refine sts (c' := [.int .u32 0, .int .u32 0]) F_h1.wf o_h1 ?_
  rintro h2 o2 F2 n2
  have l2 : ak h2 h.next 0 2 = some [.int .u32 0, .int .u32 0] := by rw [o2.ld]; rfl
  simp (maxSteps := 1000000) (disch := omega) only [evs, ↓reduceIte, Nat.reduceEqDiff, Nat.reduceAdd, Nat.reduceMul, Nat.reduceLeDiff, Nat.reduceLT, Int.reduceNeg, DF, eff, Nat.reduceSub, aa, l2]
  exact F_h1.fresh F2 w (Nat.le_refl _)
theorem rE {h : Heap} {p : V} (w : WF h) (a : NoE h p) : au go 12 [p] h fun u h' => u = .agg [.nils, .nils] ∧ Fr [] h h' := by
  obtain ⟨h1, e_h1⟩ : ∃ h1, h1 = halloc h [.nils, .nils] := ⟨_, rfl⟩
  have F_h1 : Fr [] h h1 := e_h1 ▸ Fr.halloc w _
  have o_h1 : Own h1 h.next [.nils, .nils] := e_h1 ▸ Own.new w _
  refine af ?_
  simp (maxSteps := 1000000) (disch := omega) only [evs, ↓reduceIte, Nat.reduceEqDiff, Nat.reduceAdd, Nat.reduceMul, Nat.reduceLeDiff, Nat.reduceLT, Int.reduceNeg, DF, eff, Nat.reduceSub, aa, ← e_h1]
  refine ae (bM (a.fr F_h1)) ?_
  rintro _ _ ⟨rfl, rfl⟩
  simp (maxSteps := 1000000) (disch := omega) only [evs, ↓reduceIte, Nat.reduceEqDiff, Nat.reduceAdd, Nat.reduceMul, Nat.reduceLeDiff, Nat.reduceLT, Int.reduceNeg, DF, eff, Nat.reduceSub, aa]
  refine sts (c' := [.nils, .nils]) F_h1.wf o_h1 ?_
  rintro h2 o2 F2 n2
  have l2 : ak h2 h.next 0 2 = some [.nils, .nils] := by rw [o2.ld]; rfl
  simp (maxSteps := 1000000) (disch := omega) only [evs, ↓reduceIte, Nat.reduceEqDiff, Nat.reduceAdd, Nat.reduceMul, Nat.reduceLeDiff, Nat.reduceLT, Int.reduceNeg, DF, eff, Nat.reduceSub, aa, l2]
  exact F_h1.fresh F2 w (Nat.le_refl _)
theorem yR {call : ai} {c : IC} {env : T V} {h : Heap} {Q : Ex → T V → Heap → Prop} (hw : W call c env h (fun e en h' => en.get DSL = none ∧ (e = .norm ∨ e = .ret) ∧ Q e en h')) : W call (.wd c) env h Q := by
  obtain ⟨e, en, h', x, hd, he, q⟩ := hw
  refine ⟨e, en, h', ?_, q⟩
  have eq : evC call (.wd c) env h = match evC call c env h with
      | .ok .norm env h => bC call .norm env h
      | .ok .ret env h => bC call .ret env h
      | _ => .fail := rfl
  rw [eq, x]
  rcases he with rfl | rfl
  · simp only [bC, hd]
  · simp only [bC, hd]
theorem xc {h : Heap} {p x : V} (w : WF h) (a : NoE h p) : au go 13 [p, x] h fun u h' => u = .int .i64 2 ∧ Fr [] h h' := by
  have p1 := a.one
  obtain ⟨h1, e_h1⟩ : ∃ h1, h1 = halloc h [p] := ⟨_, rfl⟩
  have F_h1 : Fr [] h h1 := e_h1 ▸ Fr.halloc w _
  have o_h1 : Own h1 h.next [p] := e_h1 ▸ Own.new w _
  obtain ⟨h2, e_h2⟩ : ∃ h2, h2 = halloc h1 x.cells := ⟨_, rfl⟩
  have F_h2 : Fr [] h1 h2 := e_h2 ▸ Fr.halloc F_h1.wf _
  have o_h2 : Own h2 h1.next x.cells := e_h2 ▸ Own.new F_h1.wf _
  obtain ⟨h3, e_h3⟩ : ∃ h3, h3 = halloc h2 [.int .i64 0] := ⟨_, rfl⟩
  have F_h3 : Fr [] h2 h3 := e_h3 ▸ Fr.halloc F_h2.wf _
  have o_h3 : Own h3 h2.next [.int .i64 0] := e_h3 ▸ Own.new F_h2.wf _
  have n1 : h1.next = h.next + 1 := by rw [e_h1]; rfl
  have n2 : h2.next = h1.next + 1 := by rw [e_h2]; rfl
  have F03 := (F_h1.then F_h2).then F_h3
  have l0 : ab h3 h.next 0 = some p := (F_h3.get (F_h2.get o_h1)).ld1 0
  refine af ?_
  refine yR ?_
  simp (maxSteps := 1000000) (disch := omega) only [evs, ↓reduceIte, Nat.reduceEqDiff, Nat.reduceAdd, Nat.reduceMul, Nat.reduceLeDiff, Nat.reduceLT, Int.reduceNeg, DF, eff, Nat.reduceSub, aa, ay p1, ← e_h1, ← e_h2, ← e_h3, l0]
  refine ae (bM (a.fr F03)) ?_
  rintro _ _ ⟨rfl, rfl⟩
  simp (maxSteps := 1000000) (disch := omega) only [evs, ↓reduceIte, Nat.reduceEqDiff, Nat.reduceAdd, Nat.reduceMul, Nat.reduceLeDiff, Nat.reduceLT, Int.reduceNeg, DF, eff, Nat.reduceSub, aa]
  refine sts (c' := [.int .i64 2]) F03.wf o_h3 ?_
  rintro h4 o4 F4 n4
  have l4 : ab h4 h2.next 0 = some (.int .i64 2) := o4.ld1 0
  simp (maxSteps := 1000000) (disch := omega) only [evs, ↓reduceIte, Nat.reduceEqDiff, Nat.reduceAdd, Nat.reduceMul, Nat.reduceLeDiff, Nat.reduceLT, Int.reduceNeg, DF, eff, Nat.reduceSub, aa, l4]
  refine ⟨by simp [T.get_set, DSL], .inr trivial, ?_⟩
  try simp (maxSteps := 1000000) (disch := omega) only [evs, ↓reduceIte, Nat.reduceEqDiff, Nat.reduceAdd, Nat.reduceMul, Nat.reduceLeDiff, Nat.reduceLT, Int.reduceNeg, DF, eff, Nat.reduceSub, aa, fn13, l4]
  exact F03.fresh F4 w (by omega)
set_option maxRecDepth 4000
theorem qu{h:Heap}:au go 5 [] h fun u h'=>u=.bool true∧h=h':=
  ⟨.bool true,h,yO vF rfl (by unfold lov;rw[if_pos ⟨rfl,rfl⟩]),rfl,rfl⟩
section
variable {h h0 : Heap} {env : T V} {p3 : Nat} {x0 x1 x2 x3 x4 : V}
theorem xD{R:V→Heap→Prop}(K:∀h',Fr [] h h'→R (.bool true) h')(w:WF h)(o3:Own h p3 [x0,x1,x2,x3,x4])(g3:env.get 3=some (.ptr p3 0)):
    W go ecT env h (mV [.t 4] R):=by
  obtain⟨h1,e_h1⟩:∃h1,h1=halloc h wb:=⟨_,rfl⟩;have F_h1:Fr [] h h1:=e_h1▸Fr.halloc w _;have o_h1:Own h1 h.next wb:=e_h1▸Own.new w _;obtain⟨h2,e_h2⟩:∃h2,h2=halloc h1 [.nilp,.ptr h.next 0]:=⟨_,rfl⟩;have F_h2:Fr [] h1 h2:=e_h2▸Fr.halloc F_h1.wf _;have o_h2:Own h2 h1.next [.nilp,.ptr h.next 0]:=e_h2▸Own.new F_h1.wf _;have e1:halloc h [.int .i64 0,.int .i64 0,.int .i64 0,.nils,.int .i64 0,.int .i64 0,.int .u8 0,.nilp,.nilp,.int .i64 0,.int .i64 0,.int .i64 0,.int .i64 0,.int .i64 0,.int .i64 0,.int .u64 0,.int .i64 0]=h1:=e_h1.symm;have n1:h1.next=h.next+1:=by rw[e_h1];rfl
  have n2:h2.next=h1.next+1:=by rw[e_h2];rfl
  have F02:=F_h1.then F_h2;simp(maxSteps:=1000000) (disch:=omega) only[evs,↓reduceIte,Nat.reduceEqDiff,Nat.reduceAdd,Nat.reduceMul,Nat.reduceLeDiff,Nat.reduceLT,Int.reduceNeg,DF,eff,Nat.reduceSub,aa,ecT,e1,←e_h2,g3];refine aQ (fun n env hh=>Fr [] h2 hh∧∃i:Nat,env.get 179=some (.int .i64 i)∧env.get 178=some (.int .i64 2)∧env.get 177=some (.slice h1.next 0 2 2)∧env.get 3=some (.ptr p3 0)∧i≤2∧n=2-i) 2 (by omega) ?_ ?_
  ·exact⟨Fr.refl F02.wf,0,(by simp[T.get_set]),(by simp[T.get_set]),(by simp[T.get_set]),(by simp[T.get_set,g3]),by omega,rfl⟩
  clear g3;rintro n env hh ⟨F,i,g179,g178,g177,g3,hi,rfl⟩;have o113:Own hh h1.next [.nilp,.ptr h.next 0]:=F.get o_h2;have oz:Own hh h.next wb:=F.get (F_h2.get o_h1);by_cases c:(i:Int)<2
  ·obtain⟨v,nv,e2,l1⟩:∃v,NoE hh v∧aP (.ixs 1) [.slice h1.next 0 2 2,.int .i64 i]=some (.ptr h1.next i)∧ab hh h1.next i=some v:=by
     rcases(by omega:i=0∨i=1)with rfl|rfl
     ·exact⟨.nilp,.inl rfl,rfl,o113.ld1 0⟩
     ·exact⟨.ptr h.next 0,.inr ⟨_,rfl,oz⟩,rfl,o113.ld1 1⟩
   have q5:∀{H},Fr [] hh H→ak H p3 0 5=some [x0,x1,x2,x3,x4]:=fun f=>by
     have:=((F02.then F).then f).get o3;rw[this.ld];rfl
   simp(maxSteps:=1000000) (disch:=omega) only[evs,↓reduceIte,Nat.reduceEqDiff,Nat.reduceAdd,Nat.reduceMul,Nat.reduceLeDiff,Nat.reduceLT,Int.reduceNeg,DF,eff,Nat.reduceSub,aa,g179,g178,g177,g3,c,e2,l1];refine ae (rE F.wf nv) ?_;rintro _ h3 ⟨rfl,F3⟩;obtain⟨h4,e_h4⟩:∃h4,h4=halloc h3 [.nils,.nils]:=⟨_,rfl⟩;have F_h4:Fr [] h3 h4:=e_h4▸Fr.halloc F3.wf _;have o_h4:Own h4 h3.next [.nils,.nils]:=e_h4▸Own.new F3.wf _;simp(maxSteps:=1000000) (disch:=omega) only[evs,↓reduceIte,Nat.reduceEqDiff,Nat.reduceAdd,Nat.reduceMul,Nat.reduceLeDiff,Nat.reduceLT,Int.reduceNeg,DF,eff,Nat.reduceSub,aa,←e_h4];refine sts (c':=[.nils,.nils]) F_h4.wf o_h4 ?_;rintro h5 o5 F5 n5;have G5:Fr [] hh h5:=F3.then (F_h4.fresh F5 F3.wf (Nat.le_refl _));simp(maxSteps:=1000000) (disch:=omega) only[evs,↓reduceIte,Nat.reduceEqDiff,Nat.reduceAdd,Nat.reduceMul,Nat.reduceLeDiff,Nat.reduceLT,Int.reduceNeg,DF,eff,Nat.reduceSub,aa,g3,q5 G5];refine ae (xc G5.wf (nv.fr G5)) ?_;rintro _ h6 ⟨rfl,F6⟩;have G6:=G5.then F6;simp(maxSteps:=1000000) (disch:=omega) only[evs,↓reduceIte,Nat.reduceEqDiff,Nat.reduceAdd,Nat.reduceMul,Nat.reduceLeDiff,Nat.reduceLT,Int.reduceNeg,DF,eff,Nat.reduceSub,aa];refine ae (vA G6.wf (nv.fr G6)) ?_;rintro _ h7 ⟨rfl,F7⟩;have G7:=G6.then F7;simp(maxSteps:=1000000) (disch:=omega) only[evs,↓reduceIte,Nat.reduceEqDiff,Nat.reduceAdd,Nat.reduceMul,Nat.reduceLeDiff,Nat.reduceLT,Int.reduceNeg,DF,eff,Nat.reduceSub,aa];refine ae (sL (nv.fr G7)) ?_;rintro _ _ ⟨rfl,rfl⟩;simp(maxSteps:=1000000) (disch:=omega) only[evs,↓reduceIte,Nat.reduceEqDiff,Nat.reduceAdd,Nat.reduceMul,Nat.reduceLeDiff,Nat.reduceLT,Int.reduceNeg,DF,eff,Nat.reduceSub,aa];refine ae (vw (nv.fr G7)) ?_;rintro _ _ ⟨rfl,rfl⟩;simp(maxSteps:=1000000) (disch:=omega) only[evs,↓reduceIte,Nat.reduceEqDiff,Nat.reduceAdd,Nat.reduceMul,Nat.reduceLeDiff,Nat.reduceLT,Int.reduceNeg,DF,eff,Nat.reduceSub,aa];refine ae (vy G7.wf (nv.fr G7)) ?_;rintro _ h8 ⟨rfl,F8⟩;have G8:=G7.then F8;have s4:aP (.seq true [0,0,0,0]) [.agg [.int .i64 0,.int .i64 0,.int .i64 0,.int .i64 0],.agg [.int .i64 0,.int .i64 0,.int .i64 0,.int .i64 0]]=some (.bool false):=rfl;have s2:aP (.seq true [0,0]) [.agg [.int .u32 0,.int .u32 0],.agg [.int .u32 0,.int .u32 0]]=some (.bool false):=rfl;have sn:aP (.nil 0 true) [.nilp,.nilp]=some (.bool false):=rfl;simp(maxSteps:=1000000) (disch:=omega) only[evs,↓reduceIte,Nat.reduceEqDiff,Nat.reduceAdd,Nat.reduceMul,Nat.reduceLeDiff,Nat.reduceLT,Int.reduceNeg,DF,eff,Nat.reduceSub,aa,s4];refine ae (sO G8.wf (nv.fr G8)) ?_;rintro _ h9 ⟨rfl,F9⟩;have G9:=G8.then F9;simp(maxSteps:=1000000) (disch:=omega) only[evs,↓reduceIte,Nat.reduceEqDiff,Nat.reduceAdd,Nat.reduceMul,Nat.reduceLeDiff,Nat.reduceLT,Int.reduceNeg,DF,eff,Nat.reduceSub,aa];refine ae (vx (nv.fr G9)) ?_;rintro _ _ ⟨rfl,rfl⟩;simp(maxSteps:=1000000) (disch:=omega) only[evs,↓reduceIte,Nat.reduceEqDiff,Nat.reduceAdd,Nat.reduceMul,Nat.reduceLeDiff,Nat.reduceLT,Int.reduceNeg,DF,eff,Nat.reduceSub,aa,sn];refine ae (sN G9.wf (nv.fr G9)) ?_;rintro _ h10 ⟨rfl,F10⟩;have G10:=G9.then F10;simp(maxSteps:=1000000) (disch:=omega) only[evs,↓reduceIte,Nat.reduceEqDiff,Nat.reduceAdd,Nat.reduceMul,Nat.reduceLeDiff,Nat.reduceLT,Int.reduceNeg,DF,eff,Nat.reduceSub,aa,s2];refine ae (sM (nv.fr G10)) ?_;rintro _ _ ⟨rfl,rfl⟩;have o10:Own h10 h3.next [.nils,.nils]:=F10.get (F9.get (F8.get (F7.get (F6.get o5))));have m0:ab h10 h3.next 0=some .nils:=o10.ld1 0;have m1:ab h10 h3.next 1=some .nils:=o10.ld1 1;simp(maxSteps:=1000000) (disch:=omega) only[evs,↓reduceIte,Nat.reduceEqDiff,Nat.reduceAdd,Nat.reduceMul,Nat.reduceLeDiff,Nat.reduceLT,Int.reduceNeg,DF,eff,Nat.reduceSub,aa,m0,m1,g179,g178,g177,g3,show(0:Int)+0=0 from rfl];refine rqn ⟨2-(i+1),by omega,F.then G10,i+1,(by simp[T.get_set]),(by simp[T.get_set,g178]),(by simp[T.get_set,g177]),(by simp[T.get_set,g3]),by omega,rfl⟩
   done
  ·simp(maxSteps:=1000000) (disch:=omega) only[evs,↓reduceIte,Nat.reduceEqDiff,Nat.reduceAdd,Nat.reduceMul,Nat.reduceLeDiff,Nat.reduceLT,Int.reduceNeg,DF,eff,Nat.reduceSub,aa,g179,g178,g177,g3,c];refine ae qu ?_;rintro _ _ ⟨rfl,rfl⟩;simp(maxSteps:=1000000) (disch:=omega) only[evs,↓reduceIte,Nat.reduceEqDiff,Nat.reduceAdd,Nat.reduceMul,Nat.reduceLeDiff,Nat.reduceLT,Int.reduceNeg,DF,eff,Nat.reduceSub,aa];exact K _ (F02.then F)
end
set_option maxRecDepth 4000
theorem PO.step{h h':Heap}{N bK b:Nat}{c c':List V}{q:Knd}(a:PO N bK h q)(f:Fr [b] h h')(o:Own h b c)(o':Own h' b c')(e:c'.length=c.length):PO N bK h' q:=by
  rcases a with z|⟨b2,x1,x2,x3,C,x4,x5⟩
  ·exact .inl z
  ·by_cases k:b2=b
   ·subst k;refine .inr ⟨b2,x1,x2,x3,c',o',?_⟩;rw[e,←x5,Own.uniq o x4]
   ·exact .inr ⟨b2,x1,x2,x3,C,f.own _ _ (by simpa using k) x4,x5⟩
section
variable {h : Heap} {env : T V} {p2 p3 g : Nat} {c : Cfg}
theorem xC{Q:Ex→T V→Heap→Prop}(K:∀env' h',Fr [] h h'→env'.get 3=env.get 3→Q .norm env' h')(w:WF h)(o2:Own h p2 c.cells)(a:CfH h c)(cb:cfB c=true)(e:Eng h g c)(g2:env.get 2=some (.ptr p2 0))(g7:env.get 7=some (.ptr g 0)):
    W go ecX env h Q:=by
  have cb':=cb;simp only[cfB,jM,Bool.and_eq_true,decide_eq_true_eq]at cb';obtain⟨c0,c1,c2,c3,c4,c5,c6,⟨k0,k1,k2,k3⟩,k4⟩:=cb';have lenL:=iQ k0;simp(maxSteps:=1000000) (disch:=omega) only[evs,↓reduceIte,Nat.reduceEqDiff,Nat.reduceAdd,Nat.reduceMul,Nat.reduceLeDiff,Nat.reduceLT,Int.reduceNeg,DF,eff,Nat.reduceSub,aa,ecX,g7];refine ae (qD w e k0) ?_;rintro _ h1 ⟨bK,L,rfl,ck,eL,F1,hbK,oK,pK,_⟩;obtain⟨h2,e_h2⟩:∃h2,h2=halloc h1 [.int .i64 0,.int .i64 0,.int .i64 0,.nils,.int .i64 0,.int .i64 0,.int .u8 0]:=⟨_,rfl⟩;have F_h2:Fr [] h1 h2:=e_h2▸Fr.halloc F1.wf _;have o_h2:Own h2 h1.next [.int .i64 0,.int .i64 0,.int .i64 0,.nils,.int .i64 0,.int .i64 0,.int .u8 0]:=e_h2▸Own.new F1.wf _;have n2:h2.next=h1.next+1:=by rw[e_h2];rfl
  simp(maxSteps:=1000000) (disch:=omega) only[evs,↓reduceIte,Nat.reduceEqDiff,Nat.reduceAdd,Nat.reduceMul,Nat.reduceLeDiff,Nat.reduceLT,Int.reduceNeg,DF,eff,Nat.reduceSub,aa,←e_h2];refine sts (c':=(c.put (.slice bK 0 L.length L.length) L).cells) F_h2.wf o_h2 ?_;rintro h3 o3 F3 n3;have bK1:=oK.lt F1.wf;have hn1:=F1.next;have F03:Fr [] h h3:=(F1.then F_h2).fresh F3 w (by omega);have q2:=F03.get o2;have on:=a.ks.one;have d0:ab h3 h1.next 0=some (.int .i64 c.view):=o3.ld1 0;have d1:ab h3 h1.next 1=some (.int .i64 c.over):=o3.ld1 1;have d2:ab h3 h1.next 2=some (.int .i64 c.least):=o3.ld1 2;have d3:ab h3 h1.next 3=some (.slice bK 0 L.length L.length):=o3.ld1 3;have d4:ab h3 h1.next 4=some (.int .i64 c.cap):=o3.ld1 4;have d5:ab h3 h1.next 5=some (.int .i64 c.arena):=o3.ld1 5;have d6:ab h3 h1.next 6=some (.int .u8 (c.flaw:Int)):=o3.ld1 6;have m0:ab h3 p2 0=some (.int .i64 c.view):=q2.ld1 0;have m1:ab h3 p2 1=some (.int .i64 c.over):=q2.ld1 1;have m2:ab h3 p2 2=some (.int .i64 c.least):=q2.ld1 2;have m3:ab h3 p2 3=some c.vK:=q2.ld1 3;have m4:ab h3 p2 4=some (.int .i64 c.cap):=q2.ld1 4;have m5:ab h3 p2 5=some (.int .i64 c.arena):=q2.ld1 5;have m6:ab h3 p2 6=some (.int .u8 (c.flaw:Int)):=q2.ld1 6;have lK:aP .lenS [c.vK]=some (.int .i64 (L.length:Nat)):=by rw[eL];exact a.ks.len
  simp(maxSteps:=1000000) (disch:=omega) only[evs,↓reduceIte,Nat.reduceEqDiff,Nat.reduceAdd,Nat.reduceMul,Nat.reduceLeDiff,Nat.reduceLT,Int.reduceNeg,DF,eff,Nat.reduceSub,aa,g2,g7,d0,d1,d2,d3,d4,d5,d6,m0,m1,m2,m3,m4,m5,m6,lK];have fl:∀M:List Knd,(M.flatMap Knd.cells).length=M.length*9:=cD bQ;have oK3:Own h3 bK (L.flatMap Knd.cells):=F3.own _ _ (by simp;omega) (F_h2.get oK);have pK3:∀q∈L,PO h.next bK h3 q:=fun q hq=>by
    rcases pK q hq with z|⟨b,x1,x2,x3,C,x4,x5⟩
    ·exact .inl z
    ·have:=x4.lt F1.wf;exact .inr ⟨b,x1,x2,x3,C,F3.own _ _ (by simp;omega) (F_h2.get x4),x5⟩
  refine aQ (fun n env' hh=>Fr [] h hh∧h3.next≤hh.next∧Own hh h1.next (c.put (.slice bK 0 L.length L.length) L).cells∧∃(i:Nat)(C:List V),env'.get 10=some (.int .i64 i)∧env'.get 9=some (.ptr h1.next 0)∧env'.get 2=some (.ptr p2 0)∧env'.get 7=some (.ptr g 0)∧env'.get 3=env.get 3∧
      i≤L.length∧Own hh bK C∧C.length=L.length*9∧C.drop (i*9)=(L.drop i).flatMap Knd.cells∧(∀q∈L,PO h.next bK hh q)∧n=L.length-i) L.length (by omega) ?_ ?_
  ·exact⟨F03,Nat.le_refl _,o3,0,_,(by simp[T.get_set]),(by simp[T.get_set]),(by simp[T.get_set,g2]),(by simp[T.get_set,g7]),(by simp[T.get_set]),by omega,oK3,fl L,by simp,pK3,rfl⟩
  clear g2 g7;rintro n env' hh ⟨F,hn,od,i,C,g10,g9,g2,g7,g3,hi,ob,lC,dC,pq,rfl⟩;have x3:ab hh h1.next 3=some (.slice bK 0 L.length L.length):=od.ld1 3;by_cases hlt:i<L.length
  ·have hlt':(i:Int)<L.length:=by omega
   obtain⟨q,hq⟩:∃q,L[i]? =some q:=⟨_,List.getElem?_eq_getElem hlt⟩;rw[bq hq,List.flatMap_cons]at dC;have ix:=cZ 9 bK 0 L.length L.length .i64 (i:Int) (by omega) hlt';simp only[Int.toNat_natCast,Nat.zero_add]at ix;have u1:=bO C (i*9+6) [.int .i64 (-1)] (by simp only[List.length_cons,List.length_nil];omega);simp(maxSteps:=1000000) (disch:=omega) only[evs,↓reduceIte,Nat.reduceEqDiff,Nat.reduceAdd,Nat.reduceMul,Nat.reduceLeDiff,Nat.reduceLT,Int.reduceNeg,DF,eff,Nat.reduceSub,aa,g10,g9,g2,g7,x3,hlt',ix];refine ao F.wf ob rfl rfl u1 ?_;rintro h4 o4 F4 n4;have l4:(C.take (i*9+6)++[V.int .i64 (-1)]++C.drop (i*9+6+[V.int .i64 (-1)].length)).length=C.length:=by simp only[List.length_append,List.length_take,List.length_drop,List.length_cons,List.length_nil];omega
   have F04:Fr [] h h4:=F.fresh F4 w hbK;have od4:=F4.own _ _ (by simp;omega) od;have y3:ab h4 h1.next 3=some (.slice bK 0 L.length L.length):=od4.ld1 3;have vp4:ab h4 bK (i*9+5)=some q.vp:=by
     rw[o4.ld1,dm,List.append_assoc,List.getElem?_append_left (by rw[List.length_take];omega),List.getElem?_take,if_pos (by omega),←List.getElem?_drop,dC];rfl
   have pq4:∀q∈L,PO h.next bK h4 q:=fun q m=>(pq q m).step F4 ob o4 l4;have dC4:(C.take (i*9+6)++[V.int .i64 (-1)]++C.drop (i*9+6+[V.int .i64 (-1)].length)).drop ((i+1) *9)=(L.drop (i+1)).flatMap Knd.cells:=by
     have e1:(C.drop (i*9)).drop 9=(L.drop (i+1)).flatMap Knd.cells:=by rw[dC];rfl
     rw[List.drop_drop,show i*9+9=(i+1) *9 by omega]at e1;rw[←e1];have lt:(C.take (i*9+6)++[V.int .i64 (-1)]).length=i*9+7:=by simp only[List.length_append,List.length_take,List.length_cons,List.length_nil];omega
     rw[show(i+1) *9=(C.take (i*9+6)++[V.int .i64 (-1)]).length+2 by rw[lt];omega,List.drop_length_add_append,List.drop_drop,lt];congr 1
   have done4:q.sub.len=0∨0<q.sub.len:=by omega
   rcases pq4 q (List.mem_of_getElem? hq)with⟨z,zv⟩|⟨b,x1,x2,xv,C2,ob2,lC2⟩
   ·have lz:aP .lenS [q.vp]=some (.int .i64 0):=by rcases zv with e|⟨b,e⟩<;>rw[e]<;>rfl
    simp(maxSteps:=1000000) (disch:=omega) only[evs,↓reduceIte,Nat.reduceEqDiff,Nat.reduceAdd,Nat.reduceMul,Nat.reduceLeDiff,Nat.reduceLT,Int.reduceNeg,DF,eff,Nat.reduceSub,aa,g10,g9,g2,g7,x3,y3,ix,vp4,lz,show¬(0:Int)<0 by omega];refine rqn ⟨L.length-(i+1),by omega,F04,by omega,od4,i+1,_,(by simp[T.get_set]),(by simp[T.get_set,g9]),(by simp[T.get_set,g2]),(by simp[T.get_set,g7]),(by simp[T.get_set,g3]),by omega,o4,by rw[l4,lC],dC4,pq4,rfl⟩
    done
   ·by_cases z:q.sub.len=0
    ·have lz:aP .lenS [q.vp]=some (.int .i64 0):=by rw[xv,z];rfl
     simp(maxSteps:=1000000) (disch:=omega) only[evs,↓reduceIte,Nat.reduceEqDiff,Nat.reduceAdd,Nat.reduceMul,Nat.reduceLeDiff,Nat.reduceLT,Int.reduceNeg,DF,eff,Nat.reduceSub,aa,g10,g9,g2,g7,x3,y3,ix,vp4,lz,show¬(0:Int)<0 by omega];refine rqn ⟨L.length-(i+1),by omega,F04,by omega,od4,i+1,_,(by simp[T.get_set]),(by simp[T.get_set,g9]),(by simp[T.get_set,g2]),(by simp[T.get_set,g7]),(by simp[T.get_set,g3]),by omega,o4,by rw[l4,lC],dC4,pq4,rfl⟩
     done
    ·have lz:aP .lenS [q.vp]=some (.int .i64 (q.sub.len:Nat)):=by rw[xv];rfl
     have iz:aP (.ixs 6) [q.vp,.int .i64 0]=some (.ptr b 0):=by
       rw[xv];have:=cZ 6 b 0 q.sub.len q.sub.len .i64 (0:Int) (by omega) (by omega);simpa using this
     have u2:=bO C2 0 [.int .u8 99] (by simp only[List.length_cons,List.length_nil];omega);simp(maxSteps:=1000000) (disch:=omega) only[evs,↓reduceIte,Nat.reduceEqDiff,Nat.reduceAdd,Nat.reduceMul,Nat.reduceLeDiff,Nat.reduceLT,Int.reduceNeg,DF,eff,Nat.reduceSub,aa,g10,g9,g2,g7,x3,y3,ix,vp4,lz,iz,show(0:Int)<(q.sub.len:Nat) by omega];refine ao F4.wf ob2 rfl rfl u2 ?_;rintro h5 o5 F5 n5;have l5:(C2.take 0++[V.int .u8 99]++C2.drop (0+[V.int .u8 99].length)).length=C2.length:=by simp only[List.length_append,List.length_take,List.length_drop,List.length_cons,List.length_nil];omega
     have pq5:∀q∈L,PO h.next bK h5 q:=fun q m=>(pq4 q m).step F5 ob2 o5 l5;have nb:b≠h1.next:=by
       intro z2;subst z2;have:=Own.uniq ob2 od4;rw[this]at lC2;have l7:(c.put (.slice bK 0 L.length L.length) L).cells.length=7:=rfl;omega
     have F05:Fr [] h h5:=F04.fresh F5 w x1;have od5:=F5.own _ _ (by simpa using nb.symm) od4;have o5K:=F5.own _ _ (by simpa using x2.symm) o4;simp(maxSteps:=1000000) (disch:=omega) only[evs,↓reduceIte,Nat.reduceEqDiff,Nat.reduceAdd,Nat.reduceMul,Nat.reduceLeDiff,Nat.reduceLT,Int.reduceNeg,DF,eff,Nat.reduceSub,aa,g10,g9,g2,g7,x3,y3,ix,vp4,lz,iz];refine rqn ⟨L.length-(i+1),by omega,F05,by omega,od5,i+1,_,(by simp[T.get_set]),(by simp[T.get_set,g9]),(by simp[T.get_set,g2]),(by simp[T.get_set,g7]),(by simp[T.get_set,g3]),by omega,o5K,by rw[l4,lC],dC4,pq5,rfl⟩
     done
  ·have eh:=e.fr w (by simp) F;simp(maxSteps:=1000000) (disch:=omega) only[evs,↓reduceIte,Nat.reduceEqDiff,Nat.reduceAdd,Nat.reduceMul,Nat.reduceLeDiff,Nat.reduceLT,Int.reduceNeg,DF,eff,Nat.reduceSub,aa,g10,g9,g2,g7,x3,show¬(i:Int)<(L.length:Nat) by omega];refine ae (qD F.wf eh k0) ?_;rintro _ h4 ⟨bK2,L2,rfl,ck2,eL2,F4,_,_,_,a4⟩;have F04:=F.then F4;simp(maxSteps:=1000000) (disch:=omega) only[evs,↓reduceIte,Nat.reduceEqDiff,Nat.reduceAdd,Nat.reduceMul,Nat.reduceLeDiff,Nat.reduceLT,Int.reduceNeg,DF,eff,Nat.reduceSub,aa,g10,g9,g2,g7];refine ae (em F4.wf a4) ?_;rintro _ h5 ⟨rfl,F5⟩;rw[ck2,cb,if_pos rfl];have F05:=F04.then F5;have e5:=e.fr w (by simp) F05;have v5:ab h5 p2 0=some (.int .i64 c.view):=(F05.get o2).ld1 0;have v4:ab h4 p2 0=some (.int .i64 c.view):=(F04.get o2).ld1 0;simp(maxSteps:=1000000) (disch:=omega) only[evs,↓reduceIte,Nat.reduceEqDiff,Nat.reduceAdd,Nat.reduceMul,Nat.reduceLeDiff,Nat.reduceLT,Int.reduceNeg,DF,eff,Nat.reduceSub,aa,g10,g9,g2,g7];refine ae (t9 e5) ?_;rintro _ _ ⟨rfl,rfl⟩;simp(maxSteps:=1000000) (disch:=omega) only[evs,↓reduceIte,Nat.reduceEqDiff,Nat.reduceAdd,Nat.reduceMul,Nat.reduceLeDiff,Nat.reduceLT,Int.reduceNeg,DF,eff,Nat.reduceSub,aa,g10,g9,g2,g7,v5,v4];refine ae (we e5) ?_;rintro _ _ ⟨rfl,rfl⟩;simp(maxSteps:=1000000) (disch:=omega) only[evs,↓reduceIte,Nat.reduceEqDiff,Nat.reduceAdd,Nat.reduceMul,Nat.reduceLeDiff,Nat.reduceLT,Int.reduceNeg,DF,eff,Nat.reduceSub,aa,g10,g9,g2,g7,v5,v4];refine ae (ua F5.wf e5) ?_;rintro _ h6 ⟨rfl,F6⟩;simp(maxSteps:=1000000) (disch:=omega) only[evs,↓reduceIte,Nat.reduceEqDiff,Nat.reduceAdd,Nat.reduceMul,Nat.reduceLeDiff,Nat.reduceLT,Int.reduceNeg,DF,eff,Nat.reduceSub,aa,g10,g9,g2,g7,v5,v4];exact K _ h6 (F05.then F6) (by simp[T.get_set,g3])
end
set_option maxRecDepth 4000
theorem pI{h:Heap}{b o n m:Nat}{cs:List V}(e:ak h b o (n+m)=some cs):ak h b o n=some (cs.take n):=by
  unfold ak at e⊢;cases hc:bu h b with
  |none=>rw[hc]at e;cases e
  |some c=>
    rw[hc]at e;simp only at e⊢;obtain⟨e1,e2⟩:=eD e;rw[bL _ _ (by omega),e1,List.take_take,Nat.min_eq_left (by omega)]
def iL:List Knd→Int
  |[]=>0
  |q::l=>q.sub.pcnt 80 1+iL l
theorem kT:∀(L:List Knd)(i:Nat)(q:Knd),L[i]? =some q→iL (L.take (i+1))=iL (L.take i)+q.sub.pcnt 80 1
  |[],_,_,h=>by simp at h
  |x::l,0,q,h=>by simp at h;subst h;simp[iL]
  |x::l,i+1,q,h=>by
    have:=kT l i q (by simpa using h);simp only[List.take_succ_cons,iL,this];omega
theorem qm:∀L:List Knd,0≤iL L∧iL L≤81*L.length
  |[]=>by simp[iL]
  |q::l=>by
    have a:=PT.pcnt_le q.sub 80 1 (by omega);have b:=qm l;simp only[iL,List.length_cons];omega
theorem hH{h:Heap}{c:Cfg}{x0 x1 x2 x3 x4:V}{m:Nat}(w:WF h)(a:CfH h c)(hf:c.flaw<256)(hm:aP .lenS [x3]=some (.int .i64 (m:Int)))(mm:m<9223372036854775808):
    au go 3 [.agg c.cells,.agg [x0,x1,x2,x3,x4]] h fun u h'=>u=.bool true∧Fr [] h h':=by
  have on:=a.ks.one;obtain⟨h1,e_h1⟩:∃h1,h1=halloc h c.cells:=⟨_,rfl⟩;have F_h1:Fr [] h h1:=e_h1▸Fr.halloc w _;have o_h1:Own h1 h.next c.cells:=e_h1▸Own.new w _;obtain⟨h2,e_h2⟩:∃h2,h2=halloc h1 [x0,x1,x2,x3,x4]:=⟨_,rfl⟩;have F_h2:Fr [] h1 h2:=e_h2▸Fr.halloc F_h1.wf _;have o_h2:Own h2 h1.next [x0,x1,x2,x3,x4]:=e_h2▸Own.new F_h1.wf _;have n1:h1.next=h.next+1:=by rw[e_h1];rfl
  have n2:h2.next=h1.next+1:=by rw[e_h2];rfl
  have F02:=F_h1.then F_h2;have o2:=F_h2.get o_h1;refine af ?_;simp(maxSteps:=1000000) (disch:=omega) only[evs,↓reduceIte,Nat.reduceEqDiff,Nat.reduceAdd,Nat.reduceMul,Nat.reduceLeDiff,Nat.reduceLT,Int.reduceNeg,DF,eff,Nat.reduceSub,aa,fn3x,←e_h1,←e_h2];refine aQ (fun n env hh=>Fr [] h2 hh∧∃(i:Nat),env.get 6=some (.int .i64 i)∧env.get 5=some (.int .i64 (iL (c.Ks.take i)))∧env.get 2=some (.ptr h.next 0)∧env.get 3=some (.ptr h1.next 0)∧i≤c.Ks.length∧n=c.Ks.length-i) c.Ks.length (by have:=a.n;omega) ?_ ?_
  ·exact⟨Fr.refl F02.wf,0,(by simp[T.get_set]),(by simp[T.get_set,iL]),(by simp[T.get_set]),(by simp[T.get_set]),by omega,rfl⟩
  rintro n env hh ⟨F,i,g6,g5,g2,g3,hi,rfl⟩;have F0:=F02.then F;have oc:=F.get o2;have l3:ab hh h.next 3=some c.vK:=oc.ld1 3;have ac:=a.fr F0;have lK:=ac.ks.len;have an:=a.n;have sl:=qm (c.Ks.take i);have li:(c.Ks.take i).length=i:=by rw[List.length_take];omega
  by_cases hlt:i<c.Ks.length
  ·have hlt':(i:Int)<c.Ks.length:=by omega
   obtain⟨bi,oi,q,p1,_,p3,p4⟩:=ac.ks.ix bQ .i64 (i:Int) (by omega) hlt';rw[Int.toNat_natCast]at p4;have p6:ak hh bi oi 6=some q.part:=pI (m:=3) p3;have hq:=ac.each q (List.mem_of_getElem? p4);simp(maxSteps:=1000000) (disch:=omega) only[evs,↓reduceIte,Nat.reduceEqDiff,Nat.reduceAdd,Nat.reduceMul,Nat.reduceLeDiff,Nat.reduceLT,Int.reduceNeg,DF,eff,Nat.reduceSub,aa,g6,g5,g2,g3,l3,lK,hlt',p1,p6];refine ae (np (paa q.sub) hh 80 F.wf hq (by omega) (by omega)) ?_;rintro _ h3 ⟨rfl,F3⟩;have pl:=PT.pcnt_le q.sub 80 1 (by omega);simp(maxSteps:=1000000) (disch:=omega) only[evs,↓reduceIte,Nat.reduceEqDiff,Nat.reduceAdd,Nat.reduceMul,Nat.reduceLeDiff,Nat.reduceLT,Int.reduceNeg,DF,eff,Nat.reduceSub,aa,g6,g5,g2,g3];refine rqn ⟨c.Ks.length-(i+1),by omega,F.then F3,i+1,(by simp[T.get_set]),by rw[kT _ _ _ p4];simp[T.get_set],(by simp[T.get_set,g2]),(by simp[T.get_set,g3]),by omega,rfl⟩
   done
  have i1:c.Ks.take i=c.Ks:=List.take_of_length_le (by omega);rw[i1]at g5 sl;have fin:au go 5 [] hh fun u h'=>u=.bool true∧hh=h':=qu;have oe:Own hh h1.next [x0,x1,x2,x3,x4]:=F.get o_h2;have e3:ab hh h1.next 3=some x3:=oe.ld1 3;by_cases b1:(10:Int)<(c.Ks.length:Nat)
  ·simp(maxSteps:=1000000) (disch:=omega) only[evs,↓reduceIte,Nat.reduceEqDiff,Nat.reduceAdd,Nat.reduceMul,Nat.reduceLeDiff,Nat.reduceLT,Int.reduceNeg,DF,eff,Nat.reduceSub,aa,g6,g5,g2,g3,l3,lK,show¬(i:Int)<(c.Ks.length:Nat) by omega,b1];refine ae fin ?_;rintro _ _ ⟨rfl,rfl⟩;simp(maxSteps:=1000000) (disch:=omega) only[evs,↓reduceIte,Nat.reduceEqDiff,Nat.reduceAdd,Nat.reduceMul,Nat.reduceLeDiff,Nat.reduceLT,Int.reduceNeg,DF,eff,Nat.reduceSub,aa];exact F0
  by_cases b2:(80:Int)<iL c.Ks
  ·simp(maxSteps:=1000000) (disch:=omega) only[evs,↓reduceIte,Nat.reduceEqDiff,Nat.reduceAdd,Nat.reduceMul,Nat.reduceLeDiff,Nat.reduceLT,Int.reduceNeg,DF,eff,Nat.reduceSub,aa,g6,g5,g2,g3,l3,lK,show¬(i:Int)<(c.Ks.length:Nat) by omega,b1,b2];refine ae fin ?_;rintro _ _ ⟨rfl,rfl⟩;simp(maxSteps:=1000000) (disch:=omega) only[evs,↓reduceIte,Nat.reduceEqDiff,Nat.reduceAdd,Nat.reduceMul,Nat.reduceLeDiff,Nat.reduceLT,Int.reduceNeg,DF,eff,Nat.reduceSub,aa];exact F0
  by_cases b3:(0:Int)<(m:Nat)
  ·simp(maxSteps:=1000000) (disch:=omega) only[evs,↓reduceIte,Nat.reduceEqDiff,Nat.reduceAdd,Nat.reduceMul,Nat.reduceLeDiff,Nat.reduceLT,Int.reduceNeg,DF,eff,Nat.reduceSub,aa,g6,g5,g2,g3,l3,lK,show¬(i:Int)<(c.Ks.length:Nat) by omega,b1,b2,e3,hm,b3];refine ae fin ?_;rintro _ _ ⟨rfl,rfl⟩;simp(maxSteps:=1000000) (disch:=omega) only[evs,↓reduceIte,Nat.reduceEqDiff,Nat.reduceAdd,Nat.reduceMul,Nat.reduceLeDiff,Nat.reduceLT,Int.reduceNeg,DF,eff,Nat.reduceSub,aa];exact F0
  have l7:ak hh h.next 0 7=some c.cells:=by rw[oc.ld];rfl
  simp(maxSteps:=1000000) (disch:=omega) only[evs,↓reduceIte,Nat.reduceEqDiff,Nat.reduceAdd,Nat.reduceMul,Nat.reduceLeDiff,Nat.reduceLT,Int.reduceNeg,DF,eff,Nat.reduceSub,aa,g6,g5,g2,g3,l3,lK,show¬(i:Int)<(c.Ks.length:Nat) by omega,b1,b2,e3,hm,b3,l7];refine ae (wg F.wf ac hf) ?_;rintro _ h3 ⟨rfl,F3,eg⟩;have F03:=F0.then F3;have a3:=a.fr F03;have k7:ak h3 h.next 0 7=some c.cells:=by rw[(F3.get oc).ld];rfl
  have tail:∀(env':T V)(h4:Heap),Fr [] h h4→Fr [] hh h4→env'.get 3=some (.ptr h1.next 0)→W go ecT env' h4 (mV [.t 4] fun u h'=>u=.bool true∧Fr [] h h'):=fun env' h4 f f' g=>by
    exact xD (fun h' k=>⟨rfl,f.then k⟩) f.wf (f'.get oe) g
  cases cb:cfB c
  ·rw[if_neg (by simp)];simp(maxSteps:=1000000) (disch:=omega) only[evs,↓reduceIte,Nat.reduceEqDiff,Nat.reduceAdd,Nat.reduceMul,Nat.reduceLeDiff,Nat.reduceLT,Int.reduceNeg,DF,eff,Nat.reduceSub,aa,g6,g5,g2,g3,k7];refine ae (em F3.wf a3) ?_;rintro _ h4 ⟨rfl,F4⟩;have q1:aP (.nil 0 false) [.nilp,.nilp]=some (.bool true):=rfl;have q2:aP (.bb true) [.bool true,.bool true]=some (.bool false):=rfl;simp(maxSteps:=1000000) (disch:=omega) only[evs,↓reduceIte,Nat.reduceEqDiff,Nat.reduceAdd,Nat.reduceMul,Nat.reduceLeDiff,Nat.reduceLT,Int.reduceNeg,DF,eff,Nat.reduceSub,aa,g6,g5,g2,g3,cb,q1,q2,show¬(7:Int)=0 by omega];exact tail _ h4 (F03.then F4) (F3.then F4) (by simp[T.get_set,g3])
  ·rw[if_pos rfl];obtain⟨eg,gn⟩:=eg cb;simp(maxSteps:=1000000) (disch:=omega) only[evs,↓reduceIte,Nat.reduceEqDiff,Nat.reduceAdd,Nat.reduceMul,Nat.reduceLeDiff,Nat.reduceLT,Int.reduceNeg,DF,eff,Nat.reduceSub,aa,g6,g5,g2,g3,k7];refine ae (em F3.wf a3) ?_;rintro _ h4 ⟨rfl,F4⟩;have q1:aP (.nil 0 false) [.ptr (h3.next-1) 0,.nilp]=some (.bool false):=rfl;have q2:aP (.bb true) [.bool false,.bool false]=some (.bool false):=rfl;simp(maxSteps:=1000000) (disch:=omega) only[evs,↓reduceIte,Nat.reduceEqDiff,Nat.reduceAdd,Nat.reduceMul,Nat.reduceLeDiff,Nat.reduceLT,Int.reduceNeg,DF,eff,Nat.reduceSub,aa,g6,g5,g2,g3,cb,q1,q2];refine xC (g:=h3.next-1) (p2:=h.next) ?_ F4.wf (F4.get (F3.get oc)) (a3.fr F4) cb (eg.fr F3.wf (by simp) F4) (by simp[T.get_set,g2]) (by simp[T.get_set]);intro env' h5 F5 e3';simp(maxSteps:=1000000) (disch:=omega) only[evs,↓reduceIte,Nat.reduceEqDiff,Nat.reduceAdd,Nat.reduceMul,Nat.reduceLeDiff,Nat.reduceLT,Int.reduceNeg,DF,eff,Nat.reduceSub,aa];exact tail _ h5 ((F03.then F4).then F5) ((F3.then F4).then F5) (by rw[e3'];simp[T.get_set,g3])
end Go.Ev.Lay
namespace Go.Ev
theorem Kept.mono{m m':M}{b:Nat}{o o':Option Obj}(a:Kept m b o o')(h:∀j,Cov m b j→Cov m' b j):Kept m' b o o':=by
  intro x hx;obtain⟨x',hx',a⟩:=a x hx;refine⟨x',hx',?_⟩;cases x with
  |cells c t fr=>
    cases x' with
    |cells c' t' fr'=>exact⟨a.1,a.2.1,a.2.2.1,fun j hj=>a.2.2.2 j fun q=>hj (h j q)⟩
    |_=>simp at a
  |map es k=>
    cases x' with
    |map es' k'=>trivial
    |_=>simp at a
  |loop r=>
    cases x' with
    |loop r'=>trivial
    |_=>simp at a
  |stringIter z k=>
    cases x' with
    |stringIter z' k'=>trivial
    |_=>simp at a
  |_=>simp at a;subst a;rfl
def oB{α:Type}(f:α→Bool):Option α→Bool
  |some a=>f a
  |none=>true
/-- all entries of a map fit -/
noncomputable def T.allT{α:Type}(t:T α):(Nat→α→Bool)→Bool:=
  T.rec (motive:=fun _=>(Nat→α→Bool)→Bool) (fun _=>true)
    (fun _ v _ gl gr p=>oB (p 0) v&&gl (fun i=>p (2*i+1))&&gr (fun i=>p (2*i+2))) t
theorem T.allT_get{α:Type}:∀(t:T α)(p:Nat→α→Bool),t.allT p=true→∀i a,t.get i=some a→p i a=true
  |.e,_,_,_,_,h=>by cases h
  |.n l v r,p,ht,i,a,h=>by
    have ht':(oB (p 0) v&&l.allT (fun i=>p (2*i+1))&&r.allT (fun i=>p (2*i+2)))=true:=ht;simp only[Bool.and_eq_true]at ht';obtain⟨⟨h1,h2⟩,h3⟩:=ht';cases i with
    |zero=>rw[T.get_n0]at h;subst h;exact h1
    |succ j=>
      rw[T.get_nS]at h;by_cases c:j%2=0
      ·rw[if_pos c]at h;have:=T.allT_get l _ h2 (j/2) a h;rwa[show 2*(j/2)+1=j+1 by omega]at this
      ·rw[if_neg c]at h;have:=T.allT_get r _ h3 (j/2) a h;rwa[show 2*(j/2)+2=j+1 by omega]at this
/-- a map without an entry -/
noncomputable def T.del{α:Type}(t:T α):Nat→T α:=
  T.rec (motive:=fun _=>Nat→T α) (fun _=>.e)
    (fun l v r dl dr i=>Nat.rec (motive:=fun _=>T α) (.n l none r)
      (fun j _=>Nat.rec (motive:=fun _=>T α) (.n (dl (Nat.div j 2)) v r) (fun _ _=>.n l v (dr (Nat.div j 2))) (Nat.mod j 2)) i) t
theorem T.del_nS{α:Type}(l:T α)(v:Option α)(r:T α)(j:Nat):(T.n l v r).del (j+1)=if j%2=0 then .n (l.del (j/2)) v r else .n l v (r.del (j/2)):=by
  show Nat.rec (motive:=fun _=>T α) (.n (l.del (j/2)) v r) (fun _ _=>.n l v (r.del (j/2))) (j%2)=_;have h:j%2=0∨j%2=1:=by omega
  rcases h with h|h<;>rw[h]<;>rfl
theorem T.get_del{α:Type}:∀(t:T α)(i j:Nat),(t.del i).get j=if j=i then none else t.get j
  |.e,i,j=>by
    show none=_;split<;>rfl
  |.n l v r,0,j=>by
    show(T.n l none r).get j=_;cases j with
    |zero=>rw[if_pos rfl];rfl
    |succ j=>rw[if_neg (by omega),T.get_nS,T.get_nS]
  |.n l v r,i+1,j=>by
    rw[T.del_nS];cases j with
    |zero=>
      by_cases c:i%2=0
      ·rw[if_pos c];rfl
      ·rw[if_neg c];rfl
    |succ j=>
      by_cases c:i%2=0
      ·rw[if_pos c,T.get_nS,T.get_nS,T.get_del l];by_cases d:j%2=0
       ·rw[if_pos d,if_pos d];by_cases e:j/2=i/2
        ·rw[if_pos e,if_pos (by omega)]
        ·rw[if_neg e,if_neg (by omega)]
       ·rw[if_neg d,if_neg (by omega),if_neg d]
      ·rw[if_neg c,T.get_nS,T.get_nS,T.get_del r];by_cases d:j%2=0
       ·rw[if_pos d,if_neg (by omega),if_pos d]
       ·rw[if_neg d,if_neg d];by_cases e:j/2=i/2
        ·rw[if_pos e,if_pos (by omega)]
        ·rw[if_neg e,if_neg (by omega)]
mutual
/-- what a value leads to lies in K -/
def vIn(K:Nat→Bool):V→Bool
  |.ptr b _=>K b
  |.slice b _ _ _=>K b
  |.sliceU b _ _ _=>K b
  |.map b=>K b
  |.yld b=>K b
  |.func _ a c=>fG K a&&fG K c
  |.iface _ v=>vIn K v
  |.agg l=>fG K l
  |.tup l=>fG K l
  |_=>true
def fG(K:Nat→Bool):List V→Bool
  |[]=>true
  |v::l=>vIn K v&&fG K l
end
mutual
theorem VRel.within{K:Nat→Bool}{m m':M}(hm:∀b loc,K b=true→m b=some loc→m' b=some loc):∀(v:V)(x:Value),vIn K v=true→VRel m v x→VRel m' v x
  |.bool _,_,_,r=>r
  |.int _ _,_,_,r=>r
  |.str _,_,_,r=>r
  |.nilp,_,_,r=>r
  |.ptr _ _,_,k,⟨loc,hb,r⟩=>⟨loc,hm _ _ k hb,r⟩
  |.nils,_,_,r=>r
  |.slice _ _ _ _,_,k,⟨loc,hb,r⟩=>⟨loc,hm _ _ k hb,r⟩
  |.sliceU _ _ _ _,_,k,⟨loc,hb,r⟩=>⟨loc,hm _ _ k hb,r⟩
  |.sliceE,_,_,r=>r
  |.nilm,_,_,r=>r
  |.map _,_,k,⟨loc,hb,r⟩=>⟨loc,hm _ _ k hb,r⟩
  |.nilf,_,_,r=>r
  |.func _ first caps,_,k,⟨f',c',r,a,b⟩=>by
    simp only[vIn,Bool.and_eq_true]at k;exact⟨f',c',r,VsRel.within hm first f' k.1 a,VsRel.within hm caps c' k.2 b⟩
  |.nili,_,_,r=>r
  |.iface _ v,_,k,⟨v',r,a⟩=>⟨v',r,VRel.within hm v v' k a⟩
  |.agg l,_,k,⟨l',r,a⟩=>⟨l',r,VsRel.within hm l l' k a⟩
  |.tup l,_,k,⟨l',r,a⟩=>⟨l',r,VsRel.within hm l l' k a⟩
  |.yld _,_,k,⟨loc,hb,r⟩=>⟨loc,hm _ _ k hb,r⟩
  |.sliceZ _ _,_,_,r=>r
theorem VsRel.within{K:Nat→Bool}{m m':M}(hm:∀b loc,K b=true→m b=some loc→m' b=some loc):∀(l:List V)(x:List Value),fG K l=true→VsRel m l x→VsRel m' l x
  |[],_,_,r=>r
  |v::vs,_,k,⟨v',vs',r,a,b⟩=>by
    simp only[fG,Bool.and_eq_true]at k;exact⟨v',vs',r,VRel.within hm v v' k.1 a,VsRel.within hm vs vs' k.2 b⟩
end
theorem iV{K:Nat→Bool}:∀{l:List V}{i:Nat}{v:V},fG K l=true→l[i]? =some v→vIn K v=true
  |[],_,_,_,h=>by simp at h
  |v::l,0,u,k,h=>by simp only[fG,Bool.and_eq_true]at k;simp at h;subst h;exact k.1
  |v::l,i+1,u,k,h=>by simp only[fG,Bool.and_eq_true]at k;exact iV k.2 (by simpa using h)
/-- a row, by its number: its cells, its family, its mark -/
abbrev Rw:=Nat×List V×Nat×Nat
abbrev Fm:=Nat×Nat×Nat
noncomputable def db(q:Nat):List Rw→Option (List V×Nat×Nat)
  |[]=>none
  |r::l=>bif Nat.beq r.1 q then some r.2 else db q l
noncomputable def nj:List Rw→T Blk→T Blk
  |[],t=>t
  |r::l,t=>(nj l t).set r.1 (.row r.2.1 r.2.2.1 r.2.2.2)
noncomputable def cE(q:Nat):List Fm→Option (Nat×Nat)
  |[]=>none
  |r::l=>bif Nat.beq r.1 q then some r.2 else cE q l
noncomputable def r9:List Fm→T (Nat×Nat)→T (Nat×Nat)
  |[],t=>t
  |r::l,t=>(r9 l t).set r.1 r.2
theorem gU(q:Nat)(t:T Blk):∀l:List Rw,(nj l t).get q=match db q l with|some (c,f,k)=>some (.row c f k)|none=>t.get q
  |[]=>rfl
  |r::l=>by
    simp only[nj,db,T.get_set];by_cases c:q=r.1
    ·subst c;rw[if_pos rfl,Nat.beq_refl];rfl
    ·rw[if_neg c,gU q t l,show Nat.beq r.1 q=false from by
       cases h:Nat.beq r.1 q
       ·rfl
       ·exact absurd (Nat.eq_of_beq_eq_true h).symm c]
     rfl
theorem jP(q:Nat)(t:T (Nat×Nat)):∀l:List Fm,(r9 l t).get q=match cE q l with|some x=>some x|none=>t.get q
  |[]=>rfl
  |r::l=>by
    simp only[r9,cE,T.get_set];by_cases c:q=r.1
    ·subst c;rw[if_pos rfl,Nat.beq_refl];rfl
    ·rw[if_neg c,jP q t l,show Nat.beq r.1 q=false from by
       cases h:Nat.beq r.1 q
       ·rfl
       ·exact absurd (Nat.eq_of_beq_eq_true h).symm c]
     rfl
theorem dE{q:Nat}{x:List V×Nat×Nat}:∀{l:List Rw},db q l=some x→(q,x)∈l
  |[],h=>by cases h
  |r::l,h=>by
    simp only[db]at h;cases c:Nat.beq r.1 q
    ·rw[c]at h;exact List.mem_cons_of_mem _ (dE h)
    ·rw[c]at h;simp only[cond_true,Option.some.injEq]at h;have:=Nat.eq_of_beq_eq_true c;subst this;subst h;exact List.mem_cons_self
theorem jO{q:Nat}{x:Nat×Nat}:∀{l:List Fm},cE q l=some x→(q,x)∈l
  |[],h=>by cases h
  |r::l,h=>by
    simp only[cE]at h;cases c:Nat.beq r.1 q
    ·rw[c]at h;exact List.mem_cons_of_mem _ (jO h)
    ·rw[c]at h;simp only[cond_true,Option.some.injEq]at h;have:=Nat.eq_of_beq_eq_true c;subst this;subst h;exact List.mem_cons_self
noncomputable def key(l:List Rw)(q:Nat):Bool:=(db q l).isSome
noncomputable def isF(l:List Rw)(f:Nat):Bool:=l.any fun r=>Nat.beq r.2.2.1 f
theorem xw{l:List Rw}{q f k:Nat}{c:List V}(h:db q l=some (c,f,k)):isF l f=true:=List.any_eq_true.2 ⟨_,dE h,Nat.beq_refl _⟩
noncomputable def rEq(b:Option Blk)(r:Rw):Bool:=match b with
  |some (.row c f k)=>ez c r.2.1&&Nat.beq f r.2.2.1&&Nat.beq k r.2.2.2
  |_=>false
noncomputable def fEq(a b:Option (Nat×Nat)):Bool:=match a,b with
  |none,none=>true
  |some x,some y=>Nat.beq x.1 y.1&&Nat.beq x.2 y.2
  |_,_=>false
theorem tc{b:Option Blk}{r:Rw}(h:rEq b r=true):b=some (.row r.2.1 r.2.2.1 r.2.2.2):=by
  unfold rEq at h;split at h
  ·simp only[Bool.and_eq_true]at h;rw[de _ _ h.1.1,Nat.eq_of_beq_eq_true h.1.2,Nat.eq_of_beq_eq_true h.2]
  ·cases h
theorem pL{a b:Option (Nat×Nat)}(h:fEq a b=true):a=b:=by
  unfold fEq at h;split at h
  ·rfl
  ·simp only[Bool.and_eq_true]at h;rename_i x y;obtain⟨x1,x2⟩:=x;obtain⟨y1,y2⟩:=y;have a:=Nat.eq_of_beq_eq_true h.1;have b:=Nat.eq_of_beq_eq_true h.2;simp only at a b;subst a;subst b;rfl
  ·cases h
/-- a stage -/
structure Stg where
  f:Nat
  args:List V
  pre:List Rw
  fpre:List Fm
  next:Nat
  res:V
  post:List Rw
  fpost:List Fm
  next':Nat
namespace Stg
noncomputable def heap(s:Stg):Heap:=⟨nj s.pre .e,s.next,r9 s.fpre .e⟩
noncomputable def over(s:Stg)(h:Heap):Heap:=⟨nj s.post h.bl,s.next',r9 s.fpost h.fams⟩
/-- what is asked of the lists -/
noncomputable def fine(G:Nat)(s:Stg):Bool:=
  Nat.blt s.f YB&&fG (key s.pre) s.args&&vIn (key s.post) s.res&&(List.range G).all (key s.pre)&&
  s.pre.all (fun r=>Nat.blt r.1 s.next&&(match cE r.2.2.1 s.fpre with|none=>Nat.beq r.2.2.1 r.1|some x=>Nat.ble r.2.2.2 x.2)&&fG (key s.pre) r.2.1&&key s.post r.1)&&
  s.fpre.all (fun r=>Nat.blt r.1 s.next)&&
  s.post.all (fun r=>Nat.blt r.1 s.next'&&fG (key s.post) r.2.1&&(key s.pre r.1||Nat.ble s.next r.1)&&(isF s.pre r.2.2.1||Nat.ble s.next r.2.2.1)&&(match cE r.2.2.1 s.fpost with|none=>(cE r.2.2.1 s.fpre).isNone|some _=>true))&&
  s.fpost.all (fun r=>Nat.blt r.1 s.next'&&isF s.post r.1)
/-- what is asked of what the run leaves -/
noncomputable def left(s:Stg)(v:V)(h:Heap):Bool:=
  vEq v s.res&&Nat.beq h.next s.next'&&s.post.all (fun r=>rEq (h.bl.get r.1) r&&fEq (h.fams.get r.2.2.1) (cE r.2.2.1 s.fpost))
/-- is it the stage's turn? -/
noncomputable def turn(s:Stg)(f:Nat)(vs:List V)(h:Heap):Bool:=
  Nat.beq f s.f&&ez vs s.args&&Nat.beq h.next s.next&&s.pre.all (fun r=>rEq (h.bl.get r.1) r&&fEq (h.fams.get r.2.2.1) (cE r.2.2.1 s.fpre))&&
  h.bl.allT (fun q b=>match b with|.row _ f _=> !isF s.pre f||key s.pre q|_=>true)
noncomputable def call(s:Stg):ai:=fun f vs h=>bif s.turn f vs h then some (s.res,s.over h)else none
theorem callOK{P:Program}{G:Nat}{c0:ai}(hc0:aL P (LOK P G) G c0)(s:Stg)(hf:s.fine G=true){v1:V}{h1:Heap}(run:c0 s.f s.args s.heap=some (v1,h1))(hl:s.left v1 h1=true):
    aL P (LOK P G) G s.call:=by
  intro f vs h v h' e;unfold call at e;cases ht:s.turn f vs h
  ·rw[ht]at e;cases e
  rw[ht]at e;simp only[cond_true,Option.some.injEq,Prod.mk.injEq]at e;obtain⟨rfl,rfl⟩:=e;unfold turn at ht;simp only[Bool.and_eq_true]at ht;obtain⟨⟨⟨⟨t1,t2⟩,t3⟩,t4⟩,t5⟩:=ht;have t1:=Nat.eq_of_beq_eq_true t1;have t2:=de _ _ t2;have t3:=Nat.eq_of_beq_eq_true t3;subst t1;subst t2;unfold left at hl;simp only[Bool.and_eq_true]at hl;obtain⟨⟨l1,l2⟩,l3⟩:=hl;have l1:=fJ _ _ l1;subst l1;have l2:=Nat.eq_of_beq_eq_true l2;unfold fine at hf;simp only[Bool.and_eq_true]at hf;obtain⟨⟨⟨⟨⟨⟨⟨fy,fa⟩,fr⟩,fg⟩,fp⟩,ff⟩,fo⟩,fq⟩:=hf;have fy:s.f<YB:=by simpa[Nat.blt_eq]using fy
  -- the lists
  have P1:∀q c f k,db q s.pre=some (c,f,k)→q<s.next∧(match cE f s.fpre with|none=>f=q|some x=>k≤x.2)∧fG (key s.pre) c=true∧key s.post q=true:=by
    intro q c f k hq;have:=List.all_eq_true.1 fp _ (dE hq);simp only[Bool.and_eq_true,Nat.blt_eq]at this;obtain⟨⟨⟨a1,a2⟩,a3⟩,a4⟩:=this;refine⟨a1,?_,a3,a4⟩
    revert a2
    cases cE f s.fpre with
    |none=>exact fun a2=>Nat.eq_of_beq_eq_true a2
    |some x=>exact fun a2=>Nat.le_of_ble_eq_true a2
  have P2:∀q x,cE q s.fpre=some x→q<s.next:=by
    intro q x hq;have:=List.all_eq_true.1 ff _ (jO hq);simpa[Nat.blt_eq]using this
  have P3:∀q c f k,db q s.post=some (c,f,k)→q<s.next'∧fG (key s.post) c=true∧(key s.pre q=true∨s.next≤q)∧(isF s.pre f=true∨s.next≤f)∧(cE f s.fpost=none→cE f s.fpre=none)∧
      h1.bl.get q=some (.row c f k)∧h1.fams.get f=cE f s.fpost:=by
    intro q c f k hq;have:=List.all_eq_true.1 fo _ (dE hq);simp only[Bool.and_eq_true,Bool.or_eq_true,Nat.blt_eq]at this;obtain⟨⟨⟨⟨a1,a2⟩,a3⟩,a4⟩,a5⟩:=this;have b:=List.all_eq_true.1 l3 _ (dE hq);simp only[Bool.and_eq_true]at b;refine⟨a1,a2,a3.imp_right Nat.le_of_ble_eq_true,a4.imp_right Nat.le_of_ble_eq_true,?_,tc b.1,pL b.2⟩;intro hn;simp only[hn,Option.isNone_iff_eq_none]at a5;exact a5
  have P4:∀q x,cE q s.fpost=some x→q<s.next'∧isF s.post q=true:=by
    intro q x hq;have:=List.all_eq_true.1 fq _ (jO hq);simpa[Nat.blt_eq]using this
  have T4:∀q c f k,db q s.pre=some (c,f,k)→h.bl.get q=some (.row c f k)∧h.fams.get f=cE f s.fpre:=by
    intro q c f k hq;have b:=List.all_eq_true.1 t4 _ (dE hq);simp only[Bool.and_eq_true]at b;exact⟨tc b.1,pL b.2⟩
  have keyGet:∀(l:List Rw) q,key l q=true→∃c f k,db q l=some (c,f,k):=by
    intro l q hq;unfold key at hq;obtain⟨⟨c,f,k⟩,hx⟩:=Option.isSome_iff_exists.1 hq;exact⟨c,f,k,hx⟩
  have getKey:∀(l:List Rw) q x,db q l=some x→key l q=true:=fun l q x hq=>by unfold key;rw[hq];rfl
  have noKey:∀(l:List Rw) q,¬key l q=true→db q l=none:=fun l q hq=>by
    unfold key at hq;cases hx:db q l with
    |none=>rfl
    |some x=>rw[hx]at hq;exact absurd rfl hq
  have pk:∀q,key s.pre q=true→key s.post q=true:=fun q hq=>by
    obtain⟨c,f,k,hx⟩:=keyGet _ _ hq;exact(P1 q c f k hx).2.2.2
  have hbl:∀q,s.heap.bl.get q=match db q s.pre with|some (c,f,k)=>some (.row c f k)|none=>none:=fun q=>gU q .e s.pre
  have hfm:∀q,s.heap.fams.get q=cE q s.fpre:=fun q=>by
    show(r9 s.fpre .e).get q=_;rw[jP];cases cE q s.fpre<;>rfl
  have hbs:∀q c f k,db q s.pre=some (c,f,k)→s.heap.bl.get q=some (.row c f k):=fun q c f k hq=>by rw[hbl,hq]
  have hbr:∀q b,s.heap.bl.get q=some b→∃c f k,db q s.pre=some (c,f,k)∧b=.row c f k:=by
    intro q b hq;rw[hbl]at hq;cases hx:db q s.pre with
    |none=>rw[hx]at hq;cases hq
    |some x=>obtain⟨c,f,k⟩:=x;rw[hx]at hq;cases hq;exact⟨c,f,k,rfl,rfl⟩
  have obl:∀q,(s.over h).bl.get q=match db q s.post with|some (c,f,k)=>some (.row c f k)|none=>h.bl.get q:=fun q=>gU q h.bl s.post
  have ofm:∀q,(s.over h).fams.get q=match cE q s.fpost with|some x=>some x|none=>h.fams.get q:=fun q=>jP q h.fams s.fpost
  obtain⟨info,S⟩:=(hc0 s.f s.args s.heap s.res h1 run).1 fy;refine⟨fun _=>⟨info,fun m w args ha H hG=>?_⟩,fun q=>absurd q (by omega)⟩;have T5:∀q c f k,h.bl.get q=some (.row c f k)→isF s.pre f=true→key s.pre q=true:=by
    intro q c f k hq hi;have:=T.allT_get _ _ t5 q _ hq;simp only[Bool.or_eq_true,Bool.not_eq_true']at this;rcases this with z|z
    ·rw[hi]at z;cases z
    ·exact z
  have mlt:∀p loc,m p=some loc→p<s.next:=by
    intro p loc hp;obtain⟨b,hb,_⟩:=H.blk p loc hp;rcases Nat.lt_or_ge p s.next with c|c
    ·exact c
    ·have:=(H.wf.fresh p (by omega)).1;rw[hb]at this;cases this
  -- families of what is not of the stage
  have oth:∀q c f k,h.bl.get q=some (.row c f k)→¬key s.post q=true→isF s.post f=false∧(s.over h).fams.get f=h.fams.get f:=by
    intro q c f k hq hk;have hi:isF s.post f=false:=by
      cases hx:isF s.post f
      ·rfl
      ·obtain⟨r,hr,hr2⟩:=List.any_eq_true.1 hx;have hr2:=Nat.eq_of_beq_eq_true hr2;have a:=List.all_eq_true.1 fo _ hr;simp only[Bool.and_eq_true,Bool.or_eq_true]at a;have hflt:f<s.next:=by
         have:=H.wf.fam _ _ _ _ hq;rcases Nat.lt_or_ge f s.next with z|z
         ·exact z
         ·have z2:=(H.wf.fresh f (by omega)).2;rw[z2]at this;simp only[]at this;rcases Nat.lt_or_ge q s.next with y|y
          ·omega
          ·have:=(H.wf.fresh q (by omega)).1;rw[hq]at this;cases this
       rcases a.1.2 with z|z
       ·rw[hr2]at z;exact absurd (pk q (T5 q c f k hq z)) hk
       ·have:=Nat.le_of_ble_eq_true z;rw[hr2]at this;omega
    refine⟨hi,?_⟩;rw[ofm];cases hx:cE f s.fpost with
    |none=>rfl
    |some x=>have:=(P4 f x hx).2;rw[hi]at this;cases this
  have ours:∀q c f k,db q s.post=some (c,f,k)→(s.over h).fams.get f=h1.fams.get f:=by
    intro q c f k hq;obtain⟨_,_,_,a4,a5,_,a7⟩:=P3 q c f k hq;rw[ofm,a7];cases hx:cE f s.fpost with
    |some x=>rfl
    |none=>
      simp only[];rcases a4 with z|z
      ·obtain⟨r,hr,hr2⟩:=List.any_eq_true.1 z;have hr2:=Nat.eq_of_beq_eq_true hr2;have b:=List.all_eq_true.1 t4 _ hr;simp only[Bool.and_eq_true]at b;have b2:=pL b.2;rw[hr2]at b2;rw[b2,a5 hx]
      ·exact(H.wf.fresh f (by omega)).2
  -- the stage's own places
  obtain⟨m0,hm0⟩:∃m0:M,m0=fun p=>bif key s.pre p then m p else none:=⟨_,rfl⟩;have m0y:∀p,key s.pre p=true→m0 p=m p:=fun p hp=>by rw[hm0];simp only[hp,cond_true]
  have m0n:∀p loc,m0 p=some loc→key s.pre p=true∧m p=some loc:=fun p loc hp=>by
    rw[hm0]at hp;cases hk:key s.pre p
    ·simp only[hk,cond_false]at hp;cases hp
    ·simp only[hk,cond_true]at hp;exact⟨rfl,hp⟩
  have H0:HRel m0 s.heap w:=by
    refine⟨⟨?_,?_⟩,?_,?_,?_⟩
    ·intro p c f k hp;obtain⟨c',f',k',hq,e⟩:=hbr p _ hp;cases e;rw[hfm];have q:=(P1 p c f k hq).2.1
     revert q
     cases cE f s.fpre with
     |none=>exact id
     |some x=>obtain⟨a,b⟩:=x;exact id
    ·intro p hp;have hp:s.next≤p:=hp;constructor
     ·rw[hbl];cases hx:db p s.pre with
      |none=>rfl
      |some x=>obtain⟨c,f,k⟩:=x;have:=(P1 p c f k hx).1;omega
     ·rw[hfm];cases hx:cE p s.fpre with
      |none=>rfl
      |some x=>have:=P2 p x hx;omega
    ·intro p loc hp;obtain⟨hk,hp⟩:=m0n p loc hp;obtain⟨c,f,k,hq⟩:=keyGet _ _ hk;obtain⟨b1,b2⟩:=T4 p c f k hq;obtain⟨bk,hbk,rel⟩:=H.blk p loc hp;rw[b1]at hbk;cases hbk;refine⟨_,hbs p c f k hq,fun hrd=>?_⟩;obtain⟨C,el,fz,q1,q2,q3,q4,q5⟩:=rel (by unfold rd at hrd⊢;rw[hfm]at hrd;rw[b2];exact hrd);exact⟨C,el,fz,q1,q2,q3,fun i v hi=>by
       obtain⟨x,hx,rx⟩:=q4 i v hi;exact⟨x,hx,VRel.within (fun b loc hb hm=>by rw[m0y b hb];exact hm) v x (iV (P1 p c f k hq).2.2.1 hi) rx⟩,q5⟩
    ·intro p loc hp;exact H.inb p loc (m0n p loc hp).2
    ·intro p q lp lq hp hq hbk hne;obtain⟨kp,hp⟩:=m0n p lp hp;obtain⟨kq,hq⟩:=m0n q lq hq;obtain⟨c1,f1,k1,r1⟩:=keyGet _ _ kp;obtain⟨c2,f2,k2,r2⟩:=keyGet _ _ kq;obtain⟨cp,cq,f,kp',kq',a1,a2,a3⟩:=H.sep p q lp lq hp hq hbk hne;rw[(T4 p c1 f1 k1 r1).1]at a1;cases a1;rw[(T4 q c2 f2 k2 r2).1]at a2;cases a2;exact⟨_,_,_,_,_,hbs _ _ _ _ r1,hbs _ _ _ _ r2,fun e he=>a3 e (by rw[(T4 p c1 f1 k1 r1).2,←hfm];exact he)⟩
  have G0:Glob (LOK P G) G m0:=⟨fun g hg=>by
    obtain⟨r,hr⟩:=hG.1 g hg;exact⟨r,by rw[m0y g (List.all_eq_true.1 fg g (List.mem_range.2 hg))];exact hr⟩,fun p loc g hp hl=>hG.2 p loc g (m0n p loc hp).2 hl⟩
  have a0:VsRel m0 s.args args:=VsRel.within (fun b loc hb hm=>by rw[m0y b hb];exact hm) _ _ fa ha;have key:∀e w',eA m0 s.heap w s.res h1 e w'→eA m h w s.res (s.over h) e w':=by
    rintro e w' ⟨x,m1,he,rx,H1,E⟩;obtain⟨m2,hm2⟩:∃m2:M,m2=fun p=>bif key s.post p then m1 p else m p:=⟨_,rfl⟩;have m2y:∀p,key s.post p=true→m2 p=m1 p:=fun p hp=>by rw[hm2];simp only[hp,cond_true]
    have m2n:∀p,¬key s.post p=true→m2 p=m p:=fun p hp=>by
      rw[hm2];show(bif key s.post p then m1 p else m p)=m p;cases hk:key s.post p
      ·rfl
      ·exact absurd hk hp
    have le2:Le m m2:=by
      intro p loc hp;by_cases hk:key s.post p=true
      ·rw[m2y p hk];obtain⟨c,f,k,hq⟩:=keyGet _ _ hk;rcases(P3 p c f k hq).2.2.1 with z|z
       ·exact E.le _ _ (by rw[m0y p z];exact hp)
       ·have:=mlt p loc hp;omega
      ·rw[m2n p hk];exact hp
    -- where a block of the stage lies
    have from1:∀p loc,key s.post p=true→m1 p=some loc→m p=some loc∨(s.next≤p∧m0 p=none):=by
      intro p loc hk hp;obtain⟨c,f,k,hq⟩:=keyGet _ _ hk;cases h0:m0 p with
      |some l0=>
        have:=E.le _ _ h0;rw[hp]at this;cases this;exact .inl (m0n p loc h0).2
      |none=>exact .inr ⟨(E.new p loc hp h0).1,rfl⟩
    have apart0:∀p q lp lq,key s.pre p=true→m p=some lp→¬key s.post q=true→m q=some lq→lp.block≠lq.block:=by
      intro p q lp lq hkp hp hkq hq hbk;have hne:p≠q:=by intro z;subst z;exact hkq (pk p hkp)
      obtain⟨cp,cq,f,kp',kq',a1,a2,_⟩:=H.sep p q lp lq hp hq hbk hne;obtain⟨c1,f1,k1,r1⟩:=keyGet _ _ hkp;rw[(T4 p c1 f1 k1 r1).1]at a1;cases a1;exact hkq (pk q (T5 q _ _ _ a2 (xw r1)))
    have kB:∀p q lp lq,key s.post p=true→m1 p=some lp→¬key s.post q=true→m q=some lq→lp.block≠lq.block:=by
      intro p q lp lq hkp hp hkq hq hbk;cases h0:m0 p with
      |some l0=>
        have:=E.le _ _ h0;rw[hp]at this;cases this;obtain⟨a,b⟩:=m0n p lp h0;exact apart0 p q lp lq a b hkq hq hbk
      |none=>
        rcases(E.new p lp hp h0).2 with z|⟨r,lr,hr,hrb⟩
        ·have:=H.inb q lq hq;omega
        ·obtain⟨a,b⟩:=m0n r lr hr;exact apart0 r q lr lq a b hkq hq (hrb.trans hbk)
    have cv:∀b j,Cov m0 b j→Cov m b j:=by
      rintro b j ⟨p,loc,hp,q⟩;exact⟨p,loc,(m0n p loc hp).2,q⟩
    have keepOf:∀b,(∀p loc,m p=some loc→key s.pre p=true→loc.block≠b)→b<w.heap.size→w'.heap[b]? =w.heap[b]? :=by
      intro b hb hlt;exact E.keep b (fun p loc hp=>hb p loc (m0n p loc hp).2 (m0n p loc hp).1) hlt
    refine⟨x,m2,he,VRel.within (fun b loc hb hm=>by rw[m2y b hb];exact hm) _ _ fr rx,⟨⟨?_,?_⟩,?_,?_,?_⟩,⟨le2,?_,?_,?_,E.size,?_,E.os,E.tape,E.output,?_,?_,?_⟩⟩
    ·intro p c f k hp;by_cases hk:key s.post p=true
     ·obtain⟨c',f',k',hq⟩:=keyGet _ _ hk;rw[obl,hq]at hp;cases hp;rw[ours p _ _ _ hq];exact H1.wf.fam _ _ _ _ (P3 p _ _ _ hq).2.2.2.2.2.1
     ·rw[obl,noKey _ _ hk]at hp;rw[(oth p c f k hp hk).2];exact H.wf.fam _ _ _ _ hp
    ·intro p hp;have hp:s.next'≤p:=hp;have hnn:s.next≤s.next':=by rw[←l2];exact E.next
     constructor
     ·rw[obl];cases hx:db p s.post with
      |none=>exact(H.wf.fresh p (by omega)).1
      |some x=>obtain⟨c,f,k⟩:=x;have:=(P3 p c f k hx).1;omega
     ·rw[ofm];cases hx:cE p s.fpost with
      |none=>exact(H.wf.fresh p (by omega)).2
      |some x=>have:=(P4 p x hx).1;omega
    ·intro p loc hp;by_cases hk:key s.post p=true
     ·rw[m2y p hk]at hp;obtain⟨c,f,k,hq⟩:=keyGet _ _ hk;obtain⟨_,q2,_,_,_,q6,_⟩:=P3 p c f k hq;obtain⟨bk,hbk,rel⟩:=H1.blk p loc hp;rw[q6]at hbk;cases hbk;refine⟨.row c f k,by rw[obl,hq],fun hrd=>?_⟩;obtain⟨C,el,fz,z1,z2,z3,z4,z5⟩:=rel (by unfold rd at hrd⊢;rw[ours p c f k hq]at hrd;exact hrd);exact⟨C,el,fz,z1,z2,z3,fun i v hi=>by
        obtain⟨x,hx,rx⟩:=z4 i v hi;exact⟨x,hx,VRel.within (fun b loc hb hm=>by rw[m2y b hb];exact hm) v x (iV q2 hi) rx⟩,z5⟩
     ·rw[m2n p hk]at hp;obtain⟨b,hbb,rb⟩:=H.blk p loc hp;refine⟨b,by rw[obl,noKey _ _ hk];exact hbb,rb.mono le2 (fun c f k hb=>?_) (keepOf loc.block (fun q lq hq hkq=>apart0 q p lq loc hkq hq hk hp) (H.inb p loc hp))⟩;subst hb;unfold rd;rw[(oth p c f k hbb hk).2];exact id
    ·intro p loc hp;by_cases hk:key s.post p=true
     ·rw[m2y p hk]at hp;exact H1.inb p loc hp
     ·rw[m2n p hk]at hp;exact Nat.lt_of_lt_of_le (H.inb p loc hp) E.size
    ·intro p q lp lq hp hq hbk hne;by_cases hkp:key s.post p=true
     ·rw[m2y p hkp]at hp;by_cases hkq:key s.post q=true
      ·rw[m2y q hkq]at hq;obtain⟨cp,cq,f,kp',kq',a1,a2,a3⟩:=H1.sep p q lp lq hp hq hbk hne;obtain⟨c1,f1,k1,r1⟩:=keyGet _ _ hkp;obtain⟨c2,f2,k2,r2⟩:=keyGet _ _ hkq;rw[(P3 p _ _ _ r1).2.2.2.2.2.1]at a1;cases a1;rw[(P3 q _ _ _ r2).2.2.2.2.2.1]at a2;cases a2;exact⟨_,_,_,_,_,by rw[obl,r1],by rw[obl,r2],fun e he=>a3 e (by rw[←ours p _ _ _ r1];exact he)⟩
      ·rw[m2n q hkq]at hq;exact absurd hbk (kB p q lp lq hkp hp hkq hq)
     ·rw[m2n p hkp]at hp;by_cases hkq:key s.post q=true
      ·rw[m2y q hkq]at hq;exact absurd hbk.symm (kB q p lq lp hkq hq hkp hp)
      ·rw[m2n q hkq]at hq;obtain⟨cp,cq,f,kp',kq',a1,a2,a3⟩:=H.sep p q lp lq hp hq hbk hne;exact⟨cp,cq,f,kp',kq',by rw[obl,noKey _ _ hkp];exact a1,by rw[obl,noKey _ _ hkq];exact a2,fun e he=>a3 e (by rw[←(oth p _ _ _ a1 hkp).2];exact he)⟩
    ·intro p loc hp hn;by_cases hk:key s.post p=true
     ·rw[m2y p hk]at hp;have h0:m0 p=none:=by
        cases h0:m0 p with
        |none=>rfl
        |some l0=>have:=(m0n p l0 h0).2;rw[hn]at this;cases this
      obtain⟨a,b⟩:=E.new p loc hp h0;refine⟨by rw[t3];exact a,b.imp_right ?_⟩;rintro⟨q,lq,hq,hqb⟩;exact⟨q,lq,(m0n q lq hq).2,hqb⟩
     ·rw[m2n p hk,hn]at hp;cases hp
    ·show h.next≤s.next';rw[t3,←l2];exact E.next
    ·intro p hn hp;rw[t3]at hp;by_cases hk:key s.post p=true
     ·obtain⟨c,f,k,hq⟩:=keyGet _ _ hk;obtain⟨_,_,q3,_,_,q6,_⟩:=P3 p c f k hq;rcases q3 with z|z
      ·obtain⟨c1,f1,k1,r1⟩:=keyGet _ _ z;have h0:m0 p=none:=by rw[m0y p z];exact hn
       have:=E.phan p h0 hp;rw[q6,hbs _ _ _ _ r1]at this;rw[obl,hq,(T4 p _ _ _ r1).1];exact this
      ·omega
     ·rw[obl,noKey _ _ hk]
    ·intro b hb hlt;exact keepOf b (fun p loc hp _=>hb p loc hp) hlt
    ·rintro b i hb ⟨p,loc,hp,q⟩;by_cases hk:key s.post p=true
     ·rw[m2y p hk]at hp;exact cv b i (E.cov b i hb ⟨p,loc,hp,q⟩)
     ·rw[m2n p hk]at hp;exact⟨p,loc,hp,q⟩
    ·intro b hb;exact(E.out b hb).mono (cv b)
    ·intro p loc hp hn;by_cases hk:key s.post p=true
     ·rw[m2y p hk]at hp;refine E.lps p loc hp ?_;cases h0:m0 p with
      |none=>rfl
      |some l0=>have:=(m0n p l0 h0).2;rw[hn]at this;cases this
     ·rw[m2n p hk,hn]at hp;cases hp
  exact⟨(S m0 w args a0 H0 G0).1.mono key,fun u=>CallsDIn.mono ((S m0 w args a0 H0 G0).2 u) (fun e u' w' q=>⟨q.1,key e w' q.2⟩)⟩
end Stg
/-- one after another -/
def orC(a b:ai):ai:=fun f vs h=>match a f vs h with
  |some r=>some r
  |none=>b f vs h
theorem jz{P:Program}{K:LG→Prop}{G:Nat}{a b:ai}(ha:aL P K G a)(hb:aL P K G b):aL P K G (orC a b):=by
  intro f vs h v h' e;unfold orC at e;split at e
  ·rename_i r hr;cases e;exact ha f vs h v h' hr
  ·exact hb f vs h v h' e
/-- if there is a value -/
noncomputable def ov(o:Option V)(k:V→Out):Out:=Option.rec (motive:=fun _=>Out) .fail k o
theorem iO(v:V)(k:V→Out):ov (some v) k=k v:=rfl
noncomputable def xp(loc:List V):Nat→(V→Out)→Out:=
  List.rec (motive:=fun _=>Nat→(V→Out)→Out) (fun _ _=>.fail) (fun v _ ih i k=>Nat.rec (motive:=fun _=>Out) (k v) (fun j _=>ih j k) i) loc
theorem qq(loc:List V):∀i k,xp loc i k=ov (nth loc i) k:=by
  induction loc with
  |nil=>intro i k;rfl
  |cons v l ih=>intro i k;cases i with
    |zero=>rfl
    |succ i=>exact ih i k
noncomputable def iN(loc:List V)(env:T V)(x:Opd)(k:V→Out):Out:=
  Opd.rec (motive:=fun _=>Out) (fun i=>xp loc i k) (fun s=>ov (env.get s) k) k (fun n=>k (.ptr n 0)) x
theorem eZ(loc:List V)(env:T V)(x:Opd)(k:V→Out):iN loc env x k=ov (evO loc env x) k:=by
  cases x with
  |l i=>exact qq loc i k
  |v s=>rfl
  |c v=>rfl
  |g n=>rfl
noncomputable def asI(v:V)(k:IntKind→Int→Out):Out:=
  V.rec (motive_1:=fun _=>Out) (motive_2:=fun _=>Out) (fun _=>.fail) k (fun _=>.fail) .fail (fun _ _=>.fail) .fail (fun _ _ _ _=>.fail) (fun _ _ _ _=>.fail) .fail .fail (fun _=>.fail) .fail (fun _ _ _ _ _=>.fail) .fail (fun _ _ _=>.fail) (fun _ _=>.fail) (fun _ _=>.fail) (fun _=>.fail) (fun _ _=>.fail) .fail (fun _ _ _ _=>.fail) v
noncomputable def asB(v:V)(k:Bool→Out):Out:=
  V.rec (motive_1:=fun _=>Out) (motive_2:=fun _=>Out) k (fun _ _=>.fail) (fun _=>.fail) .fail (fun _ _=>.fail) .fail (fun _ _ _ _=>.fail) (fun _ _ _ _=>.fail) .fail .fail (fun _=>.fail) .fail (fun _ _ _ _ _=>.fail) .fail (fun _ _ _=>.fail) (fun _ _=>.fail) (fun _ _=>.fail) (fun _=>.fail) (fun _ _=>.fail) .fail (fun _ _ _ _=>.fail) v
noncomputable def asG(v:V)(k:Bool→Out)(n:Out):Out:=
  V.rec (motive_1:=fun _=>Out) (motive_2:=fun _=>Out) k (fun _ _=>.fail) (fun _=>.fail) .fail (fun _ _=>.fail) .fail (fun _ _ _ _=>.fail) (fun _ _ _ _=>.fail) .fail .fail (fun _=>.fail) .fail (fun _ _ _ _ _=>.fail) .fail (fun _ _ _=>.fail) (fun _ _=>.fail) (fun _ _=>n) (fun _=>.fail) (fun _ _=>.fail) .fail (fun _ _ _ _=>.fail) v
noncomputable def asP(v:V)(k:Nat→Nat→Out):Out:=
  V.rec (motive_1:=fun _=>Out) (motive_2:=fun _=>Out) (fun _=>.fail) (fun _ _=>.fail) (fun _=>.fail) .fail k .fail (fun _ _ _ _=>.fail) (fun _ _ _ _=>.fail) .fail .fail (fun _=>.fail) .fail (fun _ _ _ _ _=>.fail) .fail (fun _ _ _=>.fail) (fun _ _=>.fail) (fun _ _=>.fail) (fun _=>.fail) (fun _ _=>.fail) .fail (fun _ _ _ _=>.fail) v
noncomputable def asT(v:V)(k:List V→Out):Out:=
  V.rec (motive_1:=fun _=>Out) (motive_2:=fun _=>Out) (fun _=>.fail) (fun _ _=>.fail) (fun _=>.fail) .fail (fun _ _=>.fail) .fail (fun _ _ _ _=>.fail) (fun _ _ _ _=>.fail) .fail .fail (fun _=>.fail) .fail (fun _ _ _ _ _=>.fail) .fail (fun _ _ _=>.fail) (fun _ _=>.fail) (fun l _=>k l) (fun _=>.fail) (fun _ _=>.fail) .fail (fun _ _ _ _=>.fail) v
noncomputable def one(loc:List V)(env:T V)(xs:List Opd)(k:V→Out):Out:=
  List.rec (motive:=fun _=>Out) .fail (fun x xs _=>List.rec (motive:=fun _=>Out) (iN loc env x k) (fun _ _ _=>.fail) xs) xs
noncomputable def two(loc:List V)(env:T V)(xs:List Opd)(k:V→V→Out):Out:=
  List.rec (motive:=fun _=>Out) .fail (fun x xs _=>List.rec (motive:=fun _=>Out) .fail (fun y xs _=>List.rec (motive:=fun _=>Out) (iN loc env x fun a=>iN loc env y fun b=>k a b) (fun _ _ _=>.fail) xs) xs) xs
/-- what a pure operation comes to -/
noncomputable def spP(p:PK)(xs:List Opd)(loc:List V)(env:T V)(k:V→Out):Out:=
  match aN loc env xs with
  |some vs=>ov (aP p vs) k
  |none=>.fail
theorem gA{p:PK}{xs:List Opd}{loc:List V}{env:T V}{k:V→Out}{f:V→Out}(h1:∀v,f v=ov (aP p [v]) k)(h0:aP p []=none)(h2:∀a b l,aP p (a::b::l)=none):one loc env xs f=spP p xs loc env k:=by
  unfold spP;match xs with
  |[]=>show Out.fail=_;rw[show aN loc env []=some []from rfl];simp only[];rw[h0];rfl
  |[x]=>
    show iN loc env x f=_;rw[eZ,aS];cases evO loc env x with
    |none=>rfl
    |some v=>rw[show aN loc env []=some []from rfl];exact h1 v
  |x::y::l=>
    show Out.fail=_;rw[aS,aS];cases evO loc env x with
    |none=>rfl
    |some v=>
      cases evO loc env y with
      |none=>rfl
      |some u=>
        cases aN loc env l with
        |none=>rfl
        |some us=>simp only[];rw[h2];rfl
theorem sQ{p:PK}{xs:List Opd}{loc:List V}{env:T V}{k:V→Out}{f:V→V→Out}(h2:∀a b,f a b=ov (aP p [a,b]) k)(h0:aP p []=none)(h1:∀a,aP p [a]=none)(h3:∀a b c l,aP p (a::b::c::l)=none):
    two loc env xs f=spP p xs loc env k:=by
  unfold spP;match xs with
  |[]=>show Out.fail=_;rw[show aN loc env []=some []from rfl];simp only[];rw[h0];rfl
  |[x]=>
    show Out.fail=_;rw[aS];cases evO loc env x with
    |none=>rfl
    |some v=>rw[show aN loc env []=some []from rfl];simp only[];rw[h1];rfl
  |[x,y]=>
    show(iN loc env x fun a=>iN loc env y fun b=>f a b)=_;rw[eZ,aS,aS];cases evO loc env x with
    |none=>rfl
    |some v=>
      rw[iO,eZ];cases evO loc env y with
      |none=>rfl
      |some u=>rw[show aN loc env []=some []from rfl];exact h2 v u
  |x::y::z::l=>
    show Out.fail=_;rw[aS,aS,aS];cases evO loc env x with
    |none=>rfl
    |some v=>
      cases evO loc env y with
      |none=>rfl
      |some u=>
        cases evO loc env z with
        |none=>rfl
        |some t=>
          cases aN loc env l with
          |none=>rfl
          |some us=>simp only[];rw[h3];rfl
noncomputable def wr(t:IntKind)(n:Int)(k:V→Out):Out:=
  Int.rec (motive:=fun _=>Out) (fun a=>Bool.rec (motive:=fun _=>Out) (fI (t.wrap (.ofNat a)) fun n=>k (.int t n)) (fN a fun a=>k (.int t (.ofNat a))) (Nat.blt a (lim t)))
    (fun a=>Bool.rec (motive:=fun _=>Out) (fI (t.wrap (.negSucc a)) fun n=>k (.int t n)) (fN a fun a=>k (.int t (.negSucc a))) (t.signed&&Nat.blt a (lim t))) n
theorem sP(t:IntKind)(n:Int)(k:V→Out):wr t n k=k (.int t (bt t n)):=by
  cases n with
  |ofNat a=>
    show Bool.rec (motive:=fun _=>Out) (fI (t.wrap (.ofNat a)) fun n=>k (.int t n)) (fN a fun a=>k (.int t (.ofNat a))) (Nat.blt a (lim t))=k (.int t (bif Nat.blt a (lim t)then .ofNat a else t.wrap (.ofNat a)));cases Nat.blt a (lim t)<;>simp[tQ,nM]
  |negSucc a=>
    show Bool.rec (motive:=fun _=>Out) (fI (t.wrap (.negSucc a)) fun n=>k (.int t n)) (fN a fun a=>k (.int t (.negSucc a))) (t.signed&&Nat.blt a (lim t))=k (.int t (bif t.signed&&Nat.blt a (lim t)then .negSucc a else t.wrap (.negSucc a)));cases(t.signed&&Nat.blt a (lim t))<;>simp[tQ,nM]
noncomputable def kb(b:Bool)(k:V→Out):Out:=Bool.rec (motive:=fun _=>Out) (k (.bool false)) (k (.bool true)) b
theorem wO(b:Bool)(k:V→Out):kb b k=k (.bool b):=by cases b<;>rfl
noncomputable def ij(op:BinOp)(t:IntKind)(a b:Int)(k:V→Out):Out:=ov (du op t a b) fun v=>fV v k
theorem dB(op:BinOp)(t:IntKind)(a b:Int)(k:V→Out):ij op t a b k=ov (du op t a b) k:=by
  unfold ij;congr 1;funext v;rw[iv]
noncomputable def ibK(op:BinOp)(t:IntKind)(a b:Int)(k:V→Out):Out:=
  BinOp.rec (motive:=fun _=>Out) (wr t (Int.add a b) k) (wr t (Int.sub a b) k) (wr t (Int.mul a b) k)
    (ij .quo t a b k) (ij .rem t a b k) (ij .and t a b k) (ij .or t a b k) (ij .xor t a b k) .fail .fail (ij .andNot t a b k)
    (kb (ieq a b) k) (kb (!ieq a b) k) (kb (ilt a b) k) (kb (!ilt b a) k) (kb (ilt b a) k) (kb (!ilt a b) k) op
theorem xx(op:BinOp)(t:IntKind)(a b:Int)(k:V→Out):ibK op t a b k=ov (du op t a b) k:=by
  cases op;case quo=>exact dB _ _ _ _ _
  case rem=>exact dB _ _ _ _ _
  case and=>exact dB _ _ _ _ _
  case or=>exact dB _ _ _ _ _
  case xor=>exact dB _ _ _ _ _
  case andNot=>exact dB _ _ _ _ _
  case shl=>rfl
  case shr=>rfl
  case add=>exact sP _ _ _
  case sub=>exact sP _ _ _
  case mul=>exact sP _ _ _
  all_goals exact wO _ _
noncomputable def ib2(op:BinOp)(x y:V)(k:V→Out):Out:=
  asI x fun t a=>asI y fun t' b=>Bool.rec (motive:=fun _=>Out) .fail (ibK op t a b k) (dY t t')
theorem xy(op:BinOp)(x y:V)(k:V→Out):ib2 op x y k=ov (aP (.ib op) [x,y]) k:=by
  cases x<;>first|rfl|skip
  cases y<;>first|rfl|skip
  rename_i t a t' b;show Bool.rec (motive:=fun _=>Out) .fail (ibK op t a b k) (dY t t')=ov (bif dY t t' then du op t a b else none) k;cases dY t t'
  ·rfl
  ·exact xx _ _ _ _ _
noncomputable def aT(p:PK)(xs:List Opd)(loc:List V)(env:T V)(k:V→Out):Out:=
  Option.rec (motive:=fun _=>Out) .fail (fun vs=>ov (aP p vs) fun v=>fV v k) (aN loc env xs)
theorem sW(p:PK)(xs:List Opd)(loc:List V)(env:T V)(k:V→Out):aT p xs loc env k=spP p xs loc env k:=by
  unfold aT spP;cases aN loc env xs with
  |none=>rfl
  |some vs=>show(ov (aP p vs) fun v=>fV v k)=_;congr 1;funext v;rw[iv]
noncomputable def pK(p:PK)(xs:List Opd)(loc:List V)(env:T V)(k:V→Out):Out:=
  PK.rec (motive:=fun _=>Out)
    (one loc env xs k)
    (aT .pick xs loc env k)
    (aT .nilck xs loc env k)
    (fun op=>two loc env xs fun a b=>ib2 op a b k)
    (fun l=>aT (.sh l) xs loc env k)
    (one loc env xs fun v=>asB v fun b=>kb (!b) k)
    (aT .neg xs loc env k) (aT .cmpl xs loc env k)
    (fun n=>aT (.bb n) xs loc env k)
    (fun a b=>aT (.nil a b) xs loc env k)
    (fun a=>one loc env xs fun v=>asP v fun b o=>fN (Nat.add o a) fun o=>k (.ptr b o))
    (fun a b c=>aT (.field a b c) xs loc env k)
    (fun a b=>aT (.ixa a b) xs loc env k) (fun a=>aT (.ixs a) xs loc env k) (fun a b c=>aT (.ixarr a b c) xs loc env k)
    (fun i=>one loc env xs fun v=>asT v fun l=>xp l i k)
    (fun a b=>aT (.mkf a b) xs loc env k) (fun a=>aT (.mki a) xs loc env k) (fun a b=>aT (.build a b) xs loc env k)
    (fun a b c d e=>aT (.sl a b c d e) xs loc env k)
    (aT .lenS xs loc env k) (fun a=>aT (.lenArr a) xs loc env k) (aT .capS xs loc env k) (fun a=>aT (.capArr a) xs loc env k)
    (aT .mn xs loc env k) (aT .mx xs loc env k) (fun a=>aT (.conv a) xs loc env k)
    (fun a b=>aT (.seq a b) xs loc env k) (fun a=>aT (.sb a) xs loc env k) (aT .lenStr xs loc env k) (aT .ixstr xs loc env k) (fun a b=>aT (.slstr a b) xs loc env k) p
theorem yd(p:PK)(xs:List Opd)(loc:List V)(env:T V)(k:V→Out):pK p xs loc env k=spP p xs loc env k:=by
  cases p;case mv=>exact gA (fun v=>rfl) rfl (fun _ _ _=>rfl)
  case ib op=>exact sQ (fun a b=>xy op a b k) rfl (fun a=>by cases a<;>rfl) (fun a b c l=>by cases a<;>first|rfl|(cases b<;>rfl))
  case not=>exact gA (fun v=>by cases v<;>first|rfl|exact wO _ _) rfl (fun a _ _=>by cases a<;>rfl)
  case faddr a=>exact gA (fun v=>by cases v<;>first|rfl|(rename_i b o;exact nM (Nat.add o a) (fun o=>k (.ptr b o)))) rfl (fun a _ _=>by cases a<;>rfl)
  case ext i=>exact gA (fun v=>by cases v<;>first|rfl|exact qq _ _ _) rfl (fun a _ _=>by cases a<;>rfl)
  all_goals exact sW _ _ _ _ _
noncomputable def spO(call:ai)(loc:List V)(env:T V)(h:Heap)(o:IOp)(k:V→Heap→Out):Out:=
  match aq call loc env h o with
  |some (v,h)=>k v h
  |none=>.fail
noncomputable def bW(call:ai)(loc:List V)(env:T V)(h:Heap)(o:IOp)(k:V→Heap→Out):Out:=
  Option.rec (motive:=fun _=>Out) .fail (fun p=>Prod.rec (motive:=fun _=>Out) (fun v h=>fV v fun v=>k v h) p) (aq call loc env h o)
theorem jn(call:ai)(loc:List V)(env:T V)(h:Heap)(o:IOp)(k:V→Heap→Out):bW call loc env h o k=spO call loc env h o k:=by
  unfold bW spO;cases aq call loc env h o with
  |none=>rfl
  |some p=>obtain⟨v,h'⟩:=p;exact iv _ _
noncomputable def ut(call:ai)(f:Nat)(xs:List Opd)(loc:List V)(env:T V)(h:Heap)(k:V→Heap→Out):Out:=
  Option.rec (motive:=fun _=>Out) .fail (fun vs=>Option.rec (motive:=fun _=>Out) .fail (fun p=>Prod.rec (motive:=fun _=>Out) k p) (call f vs h)) (aN loc env xs)
noncomputable def ldK(n:Nat)(ia:Bool)(x:Opd)(loc:List V)(env:T V)(h:Heap)(k:V→Heap→Out):Out:=
  iN loc env x fun p=>asP p fun b o=>Bool.rec (motive:=fun _=>Out) (ov (ab h b o) fun v=>k v h) (ov (cG h n true p) fun v=>k v h) ia
noncomputable def opK(call:ai)(loc:List V)(env:T V)(h:Heap)(o:IOp)(k:V→Heap→Out):Out:=
  IOp.rec (motive:=fun _=>Out) (fun p xs=>pK p xs loc env fun v=>k v h)
    (fun a b c=>ldK a b c loc env h k) (fun a b c=>bW call loc env h (.st a b c) k) (fun a=>bW call loc env h (.al a) k) (fun a=>bW call loc env h (.bx a) k)
    (fun a b c d=>bW call loc env h (.bs a b c d) k) (fun a b c d=>bW call loc env h (.mk a b c d) k) (fun a b c d=>bW call loc env h (.ap a b c d) k) (fun a b c=>bW call loc env h (.cp a b c) k)
    (fun f xs=>ut call f xs loc env h k) (fun a b=>bW call loc env h (.cv a b) k)
    (fun a=>bW call loc env h (.mm a) k) (fun a b c d=>bW call loc env h (.lk a b c d) k) (fun a b=>bW call loc env h (.mu a b) k) (fun a b=>bW call loc env h (.clr a b) k) (fun a=>bW call loc env h (.b2s a) k) (fun a b=>bW call loc env h (.df a b) k) (fun a b=>bW call loc env h (.it a b) k) (fun a b c d=>bW call loc env h (.me a b c d) k) (fun a b=>bW call loc env h (.slu a b) k) .fail o
theorem xn(call:ai)(loc:List V)(env:T V)(h:Heap)(o:IOp)(k:V→Heap→Out):opK call loc env h o k=spO call loc env h o k:=by
  cases o;case p p xs=>
    show pK p xs loc env (fun v=>k v h)=_;rw[yd];unfold spP spO aq;simp only[];cases aN loc env xs with
    |none=>rfl
    |some vs=>simp only[];cases aP p vs<;>rfl
  case ld n ia x=>
    show ldK n ia x loc env h k=_;unfold ldK spO aq;simp only[];rw[eZ];cases evO loc env x with
    |none=>rfl
    |some p=>
      rw[iO];cases p<;>first|rfl|skip
      rename_i b o;cases ia
      ·show ov (ab h b o) (fun v=>k v h)=match(match ab h b o with|some v=>some (v,h)|none=>none)with|some (v,h)=>k v h|none=>.fail
       cases ab h b o<;>rfl
      ·show ov (cG h n true (.ptr b o)) (fun v=>k v h)=match(match cG h n true (.ptr b o)with|some v=>some (v,h)|none=>none)with|some (v,h)=>k v h|none=>.fail
       cases cG h n true (.ptr b o)<;>rfl
  case cf f xs=>
    show ut call f xs loc env h k=_;unfold ut spO aq;simp only[];cases aN loc env xs with
    |none=>rfl
    |some vs=>
      simp only[];cases call f vs h with
      |none=>rfl
      |some p=>rfl
  case al z=>exact jn call loc env h (.al z) k
  case bad=>rfl
  case bx x=>exact jn call loc env h (.bx x) k
  all_goals exact jn _ _ _ _ _ _
noncomputable def ir(ih:List V→T V→Heap→Out)(loc:List V)(env:T V)(d:Option Nat)(v:V)(h:Heap):Out:=
  Option.rec (motive:=fun _=>Out) (ih (v::loc) env h) (fun d=>ih loc (env.set d v) h) d
theorem nC(ih:List V→T V→Heap→Out)(loc:List V)(env:T V)(d:Option Nat)(v:V)(h:Heap):ir ih loc env d v h=ih (eu loc v d) (cL env v d) h:=by cases d<;>rfl
noncomputable def gdK(loc:List V)(env:T V)(g:Option (Opd×Bool))(k:Bool→Out):Out:=
  Option.rec (motive:=fun _=>Out) (k true) (fun p=>Prod.rec (motive:=fun _=>Out) (fun x want=>iN loc env x fun v=>asG v (fun b=>k (!(xor b want))) (k false)) p) g
theorem xz(loc:List V)(env:T V)(g:Option (Opd×Bool))(k:Bool→Out):gdK loc env g k=match evG loc env g with|some b=>k b|none=>.fail:=by
  cases g with
  |none=>rfl
  |some p=>
    obtain⟨x,want⟩:=p;show(iN loc env x fun v=>asG v (fun b=>k (!(xor b want))) (k false))=_;rw[eZ];unfold evG;simp only[];cases evO loc env x with
    |none=>rfl
    |some v=>rw[iO];cases v<;>rfl
noncomputable def fM(call:ai)(l:List IStep):List V→T V→Heap→Out:=
  List.rec (motive:=fun _=>List V→T V→Heap→Out) (fun _ env h=>.ok .norm env h)
    (fun s _ ih loc env h=>IStep.rec (motive:=fun _=>Out) (fun g o d=>gdK loc env g fun b=>
      Bool.rec (motive:=fun _=>Out) (ir ih loc env d (.tup []) h) (opK call loc env h o (ir ih loc env d)) b) s) l
theorem gR(call:ai):∀(l:List IStep)(loc:List V)(env:T V)(h:Heap),fM call l loc env h=bh call l loc env h
  |[],_,_,_=>rfl
  |⟨g,o,d⟩::l,loc,env,h=>by
    show(gdK loc env g fun b=>Bool.rec (motive:=fun _=>Out) (ir (fM call l) loc env d (.tup []) h) (opK call loc env h o (ir (fM call l) loc env d)) b)=_;rw[xz,aJ];simp only[];cases evG loc env g with
    |none=>rfl
    |some b=>
      cases b
      ·show ir (fM call l) loc env d (.tup []) h=_;rw[nC];exact gR call l _ _ _
      ·show opK call loc env h o (ir (fM call l) loc env d)=_;rw[xn];unfold spO;simp only[];cases aq call loc env h o with
       |none=>rfl
       |some p=>
         obtain⟨v,h'⟩:=p;show ir (fM call l) loc env d v h'=_;rw[nC];exact gR call l _ _ _
noncomputable def kR(r:Out)(k:T V→Heap→Out):Out:=Out.rec (motive:=fun _=>Out) (fun e env h=>Ex.rec (motive:=fun _=>Out) (k env h) (.ok .ret env h) (fun i=>.ok (.exit i) env h) (fun i=>.ok (.goto i) env h) e) .fail r
theorem i5(r:Out)(k:T V→Heap→Out):kR r k=match r with|.ok .norm env h=>k env h|r=>r:=by
  cases r with
  |fail=>rfl
  |ok e env h=>cases e<;>rfl
noncomputable def oh(body:T V→Heap→Out)(k:Nat):T V→Heap→Out:=
  Nat.rec (motive:=fun _=>T V→Heap→Out) body (fun _ ih env h=>kR (ih env h) ih) k
theorem iT(body:T V→Heap→Out):∀k env h,oh body k env h=dbl body k env h
  |0,_,_=>rfl
  |k+1,env,h=>by
    show kR (oh body k env h) (oh body k)=_;rw[i5,jV,iT body k env h];cases dbl body k env h with
    |fail=>rfl
    |ok e env h=>cases e<;>first|rfl|exact iT body k env h
noncomputable def uv(id:Nat)(r:Out):Out:=Out.rec (motive:=fun _=>Out) (fun e env h=>Ex.rec (motive:=fun _=>Out) (.ok .norm env h) (.ok .ret env h) (fun i=>Bool.rec (motive:=fun _=>Out) (.ok (.exit i) env h) (.ok .norm env h) (Nat.beq i id)) (fun i=>.ok (.goto i) env h) e) .fail r
noncomputable def tq(r:Out):Out:=kR r fun _ _=>.fail
noncomputable def m7(l:Nat)(r:T V→Heap→Out)(env:T V)(h:Heap):Out:=
  Out.rec (motive:=fun _=>Out) (fun e env h=>Ex.rec (motive:=fun _=>Out) (.ok (.goto l) env h) (.ok .ret env h) (fun i=>.ok (.exit i) env h) (fun i=>Bool.rec (motive:=fun _=>Out) (.ok (.goto i) env h) (.ok .norm env h) (Nat.beq i l)) e) .fail (r env h)
theorem sU(l:Nat)(r:T V→Heap→Out):m7 l r=fk l r:=by
  funext env h;unfold m7 fk;cases r env h with
  |fail=>rfl
  |ok e env h=>cases e<;>first|rfl|(rename_i i;show Bool.rec (motive:=fun _=>Out) _ _ (Nat.beq i l)=bif Nat.beq i l then _ else _;cases Nat.beq i l<;>rfl)
noncomputable def xB(l:Nat)(r:Out):Out:=
  Out.rec (motive:=fun _=>Out) (fun e env h=>Ex.rec (motive:=fun _=>Out) .fail (.ok .ret env h) (fun i=>.ok (.exit i) env h) (fun i=>Bool.rec (motive:=fun _=>Out) .fail (.ok .norm env h) (Nat.beq i l)) e) .fail r
noncomputable def sX(l:Nat)(rest:T V→Heap→Out)(r:Out):Out:=
  Out.rec (motive:=fun _=>Out) (fun e env h=>Ex.rec (motive:=fun _=>Out) (.ok .norm env h) (.ok .ret env h) (fun i=>.ok (.exit i) env h) (fun i=>Bool.rec (motive:=fun _=>Out) .fail (xB l (oh (m7 l rest) 48 env h)) (Nat.beq i l)) e) .fail r
noncomputable def zF(call:ai)(g:Opd)(ps:List Nat)(as bd:IC)(env:T V)(h:Heap):Out:=
  match evO [] env g with
  |some (.func (.func f) first caps)=>bif Nat.blt f YB then
      (match call f (first++[.yld h.next]++caps) (hnew h (.lp ps as bd env 0 none))with
        |some (_,h2)=>(match h2.bl.get h.next with
          |some (.lp _ _ _ _ st pend)=>bif Nat.beq st 1 then .fail else .ok (match pend with|some ex=>ex|none=>.norm) env (hset h2 h.next .dead)
          |_=>.fail)
        |none=>.fail)
    else .fail
  |_=>.fail
noncomputable def wdK(call:ai)(r:Out):Out:=match r with
  |.ok .norm env h=>bC call .norm env h
  |.ok .ret env h=>bC call .ret env h
  |_=>.fail
noncomputable def cx(call:ai)(c:IC):T V→Heap→Out:=
  IC.rec (motive:=fun _=>T V→Heap→Out)
    (fun env h=>.ok .norm env h)
    (fun l env h=>fM call l [] env h)
    (fun _ _ a b env h=>kR (a env h) b)
    (fun x _ _ a b env h=>iN [] env x fun v=>asB v fun t=>Bool.rec (motive:=fun _=>Out) (b env h) (a env h) t)
    (fun id _ c env h=>uv id (c env h))
    (fun _ c env h=>tq (oh c 48 env h))
    (fun id env h=>.ok (.exit id) env h)
    (fun env h=>.ok .ret env h)
    (fun _ l _ c r env h=>sX l r (c env h))
    (fun l env h=>.ok (.goto l) env h)
    (fun l late _ reads sets env h=>evD call l late reads sets env h)
    (fun _ _=>.fail)
    (fun g ps as bd _ _ env h=>zF call g ps as bd env h)
    (fun _ c env h=>wdK call (c env h)) c
theorem oj(call:ai)(c:IC):cx call c=evC call c:=by
  induction c with
  |skip=>rfl
  |ops l=>funext env h;exact gR call l [] env h
  |seq a b iha ihb=>
    funext env h;show kR (cx call a env h) (cx call b)=(match evC call a env h with|.ok .norm env h=>evC call b env h|r=>r)
    rw[i5,iha,ihb]
  |cond x a b iha ihb=>
    funext env h;show(iN [] env x fun v=>asB v fun t=>Bool.rec (motive:=fun _=>Out) (cx call b env h) (cx call a env h) t)=(match evO [] env x with|some (.bool t)=>bif t then evC call a env h else evC call b env h|_=>.fail)
    rw[eZ,iha,ihb];cases evO [] env x with
    |none=>rfl
    |some v=>rw[iO];cases v<;>first|rfl|(rename_i t;cases t<;>rfl)
  |block id c ih=>
    funext env h;show uv id (cx call c env h)=(match evC call c env h with|.ok (.exit i) env h=>bif Nat.beq i id then .ok .norm env h else .ok (.exit i) env h|r=>r)
    rw[ih];cases evC call c env h with
    |fail=>rfl
    |ok e env h=>cases e<;>first|rfl|(rename_i i;show Bool.rec (motive:=fun _=>Out) _ _ (Nat.beq i id)=bif Nat.beq i id then _ else _;cases Nat.beq i id<;>rfl)
  |loop c ih=>
    funext env h;show tq (oh (cx call c) 48 env h)=(match dbl (evC call c) 48 env h with|.ok .norm _ _=>.fail|r=>r)
    rw[ih,iT];unfold tq;rw[i5]
  |exit id=>rfl
  |ret=>rfl
  |scope c l r ihc ihr=>
    funext env h;show sX l (cx call r) (cx call c env h)=(match evC call c env h with
        |.ok (.goto i) env h=>bif Nat.beq i l then
            (match dbl (fk l (evC call r)) 48 env h with
              |.ok .norm _ _=>.fail
              |.ok (.goto i) env h=>bif Nat.beq i l then .ok .norm env h else .fail
              |r=>r)
          else .fail
        |r=>r)
    rw[ihc,ihr];cases evC call c env h with
    |fail=>rfl
    |ok e env h=>
      cases e<;>first|rfl|skip
      rename_i i;show Bool.rec (motive:=fun _=>Out) .fail (xB l (oh (m7 l (evC call r)) 48 env h)) (Nat.beq i l)=bif Nat.beq i l then _ else _;cases Nat.beq i l
      ·rfl
      ·show xB l (oh (m7 l (evC call r)) 48 env h)=(match dbl (fk l (evC call r)) 48 env h with
             |.ok .norm _ _=>.fail
             |.ok (.goto i) env h=>bif Nat.beq i l then .ok .norm env h else .fail
             |r=>r)
       rw[sU,iT];cases dbl (fk l (evC call r)) 48 env h with
       |fail=>rfl
       |ok e env h=>cases e<;>first|rfl|(rename_i j;show Bool.rec (motive:=fun _=>Out) _ _ (Nat.beq j l)=bif Nat.beq j l then _ else _;cases Nat.beq j l<;>rfl)
  |goto l=>rfl
  |dops l late R reads sets=>rfl
  |bad=>rfl
  |rf g ps as bd iha ihb=>rfl
  |wd c ih=>
    funext env h;show wdK call (cx call c env h)=(match evC call c env h with
      |.ok .norm env h=>bC call .norm env h
      |.ok .ret env h=>bC call .ret env h
      |_=>.fail)
    rw[ih];rfl
noncomputable def yK(h:Heap)(o:Option (List V)):Option (V×Heap):=
  match o with
  |some [v]=>fV v fun v=>some (v,h)
  |some vs=>some (.tup vs,h)
  |none=>none
noncomputable def vY(fn:IFn)(r:Out):Option (V×Heap):=
  Out.rec (motive:=fun _=>Option (V×Heap)) (fun e env h=>Ex.rec (motive:=fun _=>Option (V×Heap)) (yK h (bI env h fn.results)) (yK h (bI env h fn.results)) (fun _=>none) (fun _=>none) e) none r
noncomputable def t6(ov:ai)(F:T IFn)(n:Nat):ai:=
  Nat.rec (motive:=fun _=>ai) (fun _ _ _=>none)
    (fun _ ih f vs h=>Option.rec (motive:=fun _=>Option (V×Heap)) (Bool.rec (motive:=fun _=>Option (V×Heap)) (ov f vs h) (evY (cx ih) (f-YB) vs h) (Nat.ble YB f)) (fun fn=>Bool.rec (motive:=fun _=>Option (V×Heap)) none (vY fn (cx ih fn.body (bG vs 0 .e) h)) (Nat.beq vs.length fn.nargs)) (F.get f)) n
theorem mE(ov:ai)(F:T IFn):∀n,t6 ov F n=evF ov F n
  |0=>rfl
  |n+1=>by
    funext f vs h;show Option.rec (motive:=fun _=>Option (V×Heap)) (Bool.rec (motive:=fun _=>Option (V×Heap)) (ov f vs h) (evY (cx (t6 ov F n)) (f-YB) vs h) (Nat.ble YB f)) (fun fn=>Bool.rec (motive:=fun _=>Option (V×Heap)) none (vY fn (cx (t6 ov F n) fn.body (bG vs 0 .e) h)) (Nat.beq vs.length fn.nargs)) (F.get f)=
      (match F.get f with
      |some fn=>bif Nat.beq vs.length fn.nargs then
          (match evC (evF ov F n) fn.body (bG vs 0 .e) h with
            |.ok .norm env h=>(match bI env h fn.results with
              |some [v]=>fV v fun v=>some (v,h)
              |some vs=>some (.tup vs,h)
              |none=>none)
            |.ok .ret env h=>(match bI env h fn.results with
              |some [v]=>fV v fun v=>some (v,h)
              |some vs=>some (.tup vs,h)
              |none=>none)
            |_=>none)
        else none
      |none=>bif Nat.ble YB f then evY (evC (evF ov F n)) (f-YB) vs h else ov f vs h)
    rw[mE ov F n];cases F.get f with
    |none=>
      show Bool.rec (motive:=fun _=>Option (V×Heap)) (ov f vs h) (evY (cx (evF ov F n)) (f-YB) vs h) (Nat.ble YB f)=bif Nat.ble YB f then evY (evC (evF ov F n)) (f-YB) vs h else ov f vs h;rw[show cx (evF ov F n)=evC (evF ov F n)from funext fun c=>oj _ c];cases Nat.ble YB f<;>rfl
    |some fn=>
      show Bool.rec (motive:=fun _=>Option (V×Heap)) none (vY fn (cx (evF ov F n) fn.body (bG vs 0 .e) h)) (Nat.beq vs.length fn.nargs)=_;simp only[];cases Nat.beq vs.length fn.nargs
      ·rfl
      ·show vY fn (cx (evF ov F n) fn.body (bG vs 0 .e) h)=_;rw[oj];cases evC (evF ov F n) fn.body (bG vs 0 .e) h with
       |fail=>rfl
       |ok e env h=>cases e<;>rfl
end Go.Ev
open Go.RowKit
namespace Go.Ev
theorem Rdb.rd{h:Heap}{b:Nat}{c:List V}(o:Rdb h b c):∃f k,h.bl.get b=some (.row c f k)∧rd h b f k=true:=by
  rcases o with⟨f,k,e,x⟩|⟨f,k,ow,e1,e2,_⟩
  ·exact⟨f,k,e,gx (by rcases x with⟨a,_⟩|a;exact .inl a;exact .inr a)⟩
  ·refine⟨f,k,e1,?_⟩;unfold Ev.rd;rw[e2];simp
theorem HRel.cellsR{m:M}{h:Heap}{w:World}(H:HRel m h w){p:Nat}{loc:Loc}{c:List V}(hm:m p=some loc)(o:Rdb h p c):
    ∃C el fz,w.heap[loc.block]? =some (.cells C el fz)∧loc.base+loc.room≤C.size∧∀(i:Nat) v,c[i]? =some v→∃x,C[loc.base+i]? =some x∧VRel m v x:=by
  obtain⟨f,k,e,r⟩:=o.rd;obtain⟨b,hb,rel⟩:=H.blk p loc hm;rw[e]at hb;cases hb;obtain⟨C,el,fz,a1,a2,_,a4,_⟩:=rel r;exact⟨C,el,fz,a1,a2,a4⟩
/-- blocks, one after another, in a family that nobody may write -/
noncomputable def put(t:T Blk):List (List V)→Nat→T Blk
  |[],_=>t
  |c::cs,i=>put (t.set i (.row c 1 0)) cs (i+1)
theorem mB:∀(cs:List (List V))(i:Nat)(t:T Blk)(p:Nat),(put t cs i).get p=if i≤p∧p<i+cs.length then(cs[p-i]?).map (fun c=>.row c 1 0)else t.get p
  |[],i,t,p=>by rw[if_neg (by simp)];rfl
  |c::cs,i,t,p=>by
    show(put (t.set i (.row c 1 0)) cs (i+1)).get p=_;rw[mB cs (i+1),T.get_set];simp only[List.length_cons];by_cases q:p=i
    ·subst q;rw[if_neg (by omega),if_pos rfl,if_pos (by omega)];simp
    ·rw[if_neg q];by_cases r:i+1≤p∧p<i+1+cs.length
     ·rw[if_pos r,if_pos (by omega),show p-i=(p-(i+1))+1 by omega];simp
     ·rw[if_neg r,if_neg (by omega)]
noncomputable def hS(Cs:List (List V)):Heap:=⟨put T.e Cs 2,2+Cs.length,(T.e:T (Nat×Nat)).set 1 (1,0)⟩
def mS(Ms:List (Option Loc)):M:=fun p=>if 2≤p then(Ms[p-2]?).join else none
section
variable {Cs : List (List V)} {Ms : List (Option Loc)}
theorem nI{i:Nat}{c:List V}(h:Cs[i]? =some c):(hS Cs).bl.get (2+i)=some (.row c 1 0):=by
  have hi:=(List.getElem?_eq_some_iff.1 h).1;show(put _ Cs 2).get (2+i)=_;rw[mB,if_pos (by omega),show 2+i-2=i by omega,h];rfl
theorem pJ{p:Nat}(h:p<2∨2+Cs.length≤p):(hS Cs).bl.get p=none:=by
  show(put _ Cs 2).get p=_;rw[mB,if_neg (by omega)];rfl
theorem tJ:(hS Cs).fams.get 1=some (1,0):=by show((T.e:T (Nat×Nat)).set 1 (1,0)).get 1=_;exact T.get_set_self _ _ _
theorem zB{p:Nat}(h:p≠1):(hS Cs).fams.get p=none:=by show((T.e:T (Nat×Nat)).set 1 (1,0)).get p=none;rw[T.get_set_ne _ _ h];rfl
theorem wQ:WF (hS Cs):=fun p hp=>⟨pJ (.inr hp),zB (by have:2+Cs.length≤p:=hp;omega)⟩
theorem wR{i:Nat}{c:List V}(h:Cs[i]? =some c):Rs (hS Cs) (2+i) c:=⟨1,0,1,nI h,tJ,pJ (.inl (by omega)),by show 1<2+Cs.length;omega⟩
theorem eX{p:Nat}{loc:Loc}(h:mS Ms p=some loc):∃i,p=2+i∧Ms[i]? =some (some loc):=by
  unfold mS at h;by_cases d:2≤p
  ·rw[if_pos d]at h;refine⟨p-2,by omega,?_⟩;cases e:Ms[p-2]? with
   |none=>rw[e]at h;cases h
   |some o=>rw[e]at h;cases o with
     |none=>cases h
     |some l=>cases h;rfl
  ·rw[if_neg d]at h;cases h
theorem yg{i:Nat}{loc:Loc}(h:Ms[i]? =some (some loc)):mS Ms (2+i)=some loc:=by
  unfold mS;rw[if_pos (by omega),show 2+i-2=i by omega,h];rfl
/-- an array of the world that a block stands for -/
def zT(W:World)(loc:Loc)(c:List V):Prop:=loc.lp=none∧c.length=loc.room∧(∃C ty fz,W.heap[loc.block]? =some (.cells C ty fz)∧loc.base+loc.room≤C.size∧
  (∀(i:Nat) v,c[i]? =some v→∃k n,v=.int k n∧C[loc.base+i]? =some (.int k n))∧∀i:Nat,i<loc.room→¬(fz.1≤loc.base+i∧loc.base+i<fz.2))
end
abbrev wx:=IntKind×Int
def cV(c:wx):V:=.int c.1 c.2
def cX(c:wx):Value:=.int c.1 c.2
theorem flat_len'{α β:Type}{g:α→List β}{k:Nat}(gl:∀a,(g a).length=k):∀L:List α,(L.flatMap g).length=L.length*k
  |[]=>by simp
  |x::L=>by simp[List.flatMap_cons,flat_len' gl L,gl,Nat.succ_mul,Nat.add_comm]
/-- a slice of n elements of k numbers that came in -/
def zS(W:World)(x:Value)(k n:Nat)(cs:List wx):Prop:=cs.length=n*k∧
  ((x=.slice none 0 0∧n=0)∨(∃a cap,x=.slice (some a) 0 cap∧n=0)∨
  ∃b off cap C t fz,x=.slice (some ⟨b,off,none⟩) n cap∧n≤cap∧0<n∧W.heap[b]? =some (.cells C t fz)∧off+n*k≤C.size∧
    (∀i:Nat,i<n*k→¬(fz.1≤off+i∧off+i<fz.2))∧∀(i:Nat) c,cs[i]? =some c→C[off+i]? =some (cX c))
/-- how it is told to the evaluator, by block p -/
theorem pick{W:World}{x:Value}{k n:Nat}{cs:List wx}(cm:zS W x k n cs)(p:Nat):∃(v:V)(ml:Option Loc)(c:List V),
    (∀m:M,(∀loc,ml=some loc→m p=some loc)→VRel m v x)∧(∀loc,ml=some loc→zT W loc c)∧(∀h,(ml≠none→Rs h p c)→ASl h k v n (cs.map cV))∧v.one=true∧∀u∈c,∃k n,u=V.int k n:=by
  obtain⟨fl,cm⟩:=cm;have fl':(cs.map cV).length=n*k:=by simpa using fl
  rcases cm with⟨rfl,rfl⟩|⟨a,cap,rfl,rfl⟩|⟨b,off,cap,C,ty,fz,rfl,hcap,hpos,hC,hsz,hfz,hcell⟩
  ·exact⟨.nils,none,[],fun m _=>rfl,(fun loc h=>by cases h),fun h _=>⟨fl',rfl⟩,rfl,by simp⟩
  ·exact⟨.sliceZ a cap,none,[],fun m _=>rfl,(fun loc h=>by cases h),fun h _=>⟨fl',rfl⟩,rfl,by simp⟩
  ·have ci:∀(i:Nat) v,(cs.map cV)[i]? =some v→∃k n,v=.int k n∧C[off+i]? =some (.int k n):=by
     intro i v hv;rw[List.getElem?_map]at hv;cases e:cs[i]? with
     |none=>rw[e]at hv;cases hv
     |some c=>rw[e]at hv;cases hv;exact⟨_,_,rfl,hcell i c e⟩
   refine⟨.slice p 0 n cap,some ⟨b,off,n*k,none⟩,cs.map cV,fun m hm=>⟨_,hm _ rfl,hcap,by simp⟩,?_,fun h rs=>⟨fl',rfl,hcap,_,.inr (rs (by simp)),by omega,by rw[List.drop_zero,List.take_of_length_le (by omega)]⟩,rfl,?_⟩
   ·rintro loc h;cases h;exact⟨rfl,fl',C,ty,fz,hC,hsz,ci,hfz⟩
   ·intro u hu;obtain⟨c,_,rfl⟩:=List.mem_map.1 hu;exact⟨_,_,rfl⟩
end Go.Ev
