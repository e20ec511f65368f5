/- An evaluator of the program and contracts proved over it: the texts LayS LayV LayW LayX LayY LayZa LayZb LayRa LayRb EvWg LayLa LayLb LayLc LayLd LayLf LayLi LaySa. -/
import Derived.Test.YtfhplbpjpmaoiaaGreatDoorP12
import Derived.Test.YtfhplbpjpmaoiaaGreatDoorP08
set_option linter.unusedSimpArgs false
set_option linter.unusedVariables false
set_option linter.constructorNameAsVariable false
/- Flags: Insert, Rank, Select. -/
namespace Go.Ev.Lay
set_option maxRecDepth 4000
theorem rep_set' (n i : Nat) (v : Bool) (hi : i < n) : ((List.replicate i v).map V.bool ++ List.replicate (n - i) (V.bool false)).set i (V.bool v) = (List.replicate (i + 1) v).map V.bool ++ List.replicate (n - (i + 1)) (V.bool false) := by
  have hl : ((List.replicate i v).map V.bool).length = i := by simp
  rw [List.set_append, if_neg (by omega), hl, Nat.sub_self, show n - i = (n - (i + 1)) + 1 by omega, List.replicate_succ, List.set_cons_zero, List.replicate_succ']
  simp
theorem Vals.one {α : Type} {f : α → V} {h : Heap} {v : V} {l : List α} (a : Vals f h v l) : v.one = true := Sl.one a
theorem fIns_ok {h : Heap} {b : Nat} {bs : List Bool} {a n : Nat} {v : Bool} (w : WF h) (f : Fl h b bs) (ha : a ≤ bs.length) (hn : n + bs.length ≤ 4096) :
    Does go 50 [.ptr b 0, .int .i64 (a : Int), .int .i64 (n : Int), .bool v] h fun u h' => u = .int .i64 0 ∧ Fl h' b (bs.take a ++ List.replicate n v ++ bs.drop a) ∧ Fr [b] h h' := by
  have f0 := f
  obtain ⟨ws, o, ok, hn0⟩ := f
  have q : hload1 h b 0 = some (.int .i64 (bs.length : Int)) := o.ld1 0
  refine does_fn g50 rfl ?_
  simp (disch := omega) only [fn50, evs, ↓reduceIte, Nat.reduceEqDiff, Nat.reduceAdd, Nat.reduceMul, Nat.reduceLeDiff, Nat.reduceLT, Int.reduceNeg, DF, eff, Nat.reduceSub, fwrap_i64]
  refine OQ_does (fcheck_ok f0 (by omega) (by omega)) ?_
  rintro _ _ ⟨rfl, hh⟩
  replace hh := hh.symm
  subst hh
  have e : fchk bs.length a 0 = 0 := by unfold fchk; rw [if_neg (by omega)]
  rw [e]
  simp (disch := omega) only [evs, ↓reduceIte, Nat.reduceEqDiff, Nat.reduceAdd, Nat.reduceMul, Nat.reduceLeDiff, Nat.reduceLT, Int.reduceNeg, DF, eff, Nat.reduceSub, fwrap_i64, show ¬ (n : Int) < 0 by omega, q, show ¬ 4096 - (bs.length : Int) < n by omega]
  refine (amake_ok _ _ _ _ _ _ _ _ (by omega) (by omega) (by omega) (by omega)).2 ?_
  simp only [Int.toNat_natCast]
  rw [repL_one]
  obtain ⟨h0, e0⟩ : ∃ h0, h0 = h := ⟨h, rfl⟩
  subst e0
  obtain ⟨h1, e_h1⟩ : ∃ h1, h1 = halloc h0 (List.replicate n (V.bool false)) := ⟨_, rfl⟩
  have F_h1 : Fr [] h0 h1 := e_h1 ▸ Fr.halloc w _
  have o_h1 : Own h1 h0.next (List.replicate n (V.bool false)) := e_h1 ▸ Own.new w _
  rw [← e_h1]
  simp (disch := omega) only [evs, ↓reduceIte, Nat.reduceEqDiff, Nat.reduceAdd, Nat.reduceMul, Nat.reduceLeDiff, Nat.reduceLT, Int.reduceNeg, DF, eff, Nat.reduceSub, fwrap_i64]
  refine W_loop (fun k env hh => ∃ i : Nat, env.get 34 = some (.int .i64 i) ∧ env.get 33 = some (.int .i64 n) ∧ env.get 10 = some (.slice h0.next 0 n n) ∧ env.get 0 = some (.ptr b 0) ∧ env.get 1 = some (.int .i64 a) ∧ env.get 3 = some (.bool v) ∧ i ≤ n ∧ Fr [] h0 hh ∧
    Own hh h0.next ((List.replicate i v).map V.bool ++ List.replicate (n - i) (V.bool false)) ∧ k = n - i) n (by omega) ?_ ?_
  · exact ⟨0, (by simp [T.get_set]), (by simp [T.get_set]), (by simp [T.get_set]), (by simp [T.get_set]), (by simp [T.get_set]), (by simp [T.get_set]), by omega, F_h1, by simpa using o_h1, rfl⟩
  · rintro k env hh ⟨i, g34, g33, g10, g0, g1, g3, hi, F, oo, rfl⟩
    by_cases hlt : (i : Int) < n
    · have ix := aP_ixS 1 h0.next 0 n n .i64 i (by omega) hlt
      simp only [Int.toNat_natCast, Nat.mul_one, Nat.zero_add] at ix
      simp (disch := omega) only [evs, ↓reduceIte, Nat.reduceEqDiff, Nat.reduceAdd, Nat.reduceMul, Nat.reduceLeDiff, Nat.reduceLT, Int.reduceNeg, DF, eff, Nat.reduceSub, fwrap_i64, g34, g33, g10, g0, g1, g3, hlt, ix]
      refine store_step (c' := (List.replicate (i + 1) v).map V.bool ++ List.replicate (n - (i + 1)) (V.bool false)) F.wf oo rfl rfl ?_ ?_
      · show updO _ i [.bool v] = _
        rw [updO_set1 _ _ _ (by simp; omega), rep_set' _ _ _ (by omega)]
      rintro h2 o2 F2 n2
      simp (disch := omega) only [evs, ↓reduceIte, Nat.reduceEqDiff, Nat.reduceAdd, Nat.reduceMul, Nat.reduceLeDiff, Nat.reduceLT, Int.reduceNeg, DF, eff, Nat.reduceSub, fwrap_i64, g34, g33, g10, g0, g1, g3]
      refine (roundQ_norm _ _ _).2 ⟨n - (i + 1), by omega, i + 1, (by simp [T.get_set]), (by simp [T.get_set, g33]), (by simp [T.get_set, g10]), (by simp [T.get_set, g0]), (by simp [T.get_set, g1]), (by simp [T.get_set, g3]), by omega, F.fresh F2 w (Nat.le_refl _), o2, rfl⟩
      done
    · have : i = n := by omega
      subst this
      simp only [Nat.sub_self, List.replicate_zero, List.append_nil] at oo
      have bm : Bools hh (.slice h0.next 0 i i) (List.replicate i v) := by
        have := Sl.lit (esz := 1) (n := i) oo (by simp)
        show Sl hh 1 _ _ _; simpa using this
      simp (disch := omega) only [evs, ↓reduceIte, Nat.reduceEqDiff, Nat.reduceAdd, Nat.reduceMul, Nat.reduceLeDiff, Nat.reduceLT, Int.reduceNeg, DF, eff, Nat.reduceSub, fwrap_i64, g34, g33, g10, g0, g1, g3, hlt]
      refine OQ_does (flist_ok F.wf (f0.fr F)) ?_
      rintro _ h2 ⟨bl, ⟨c, rfl, hcnew⟩, F2⟩
      obtain ⟨v1, s1, b1⟩ := bl.upto (by simp) .i64 a (by omega) (by omega)
      obtain ⟨v3, s3, b3⟩ := bl.from' (by simp) .i64 a (by omega) (by omega)
      simp only [Int.toNat_natCast] at b1 b3
      have c1 := cells_one (Vals.one b1)
      have c3 := cells_one (Vals.one b3)
      obtain ⟨h3, e_h3⟩ : ∃ h3, h3 = halloc h2 [v1, .slice h0.next 0 i i, v3] := ⟨_, rfl⟩
      have F_h3 : Fr [] h2 h3 := e_h3 ▸ Fr.halloc F2.wf _
      have o_h3 : Own h3 h2.next [v1, .slice h0.next 0 i i, v3] := e_h3 ▸ Own.new F2.wf _
      have e3 : halloc h2 [v1, .slice h0.next 0 i i, v3] = h3 := e_h3.symm
      simp (disch := omega) only [evs, ↓reduceIte, Nat.reduceEqDiff, Nat.reduceAdd, Nat.reduceMul, Nat.reduceLeDiff, Nat.reduceLT, Int.reduceNeg, DF, eff, Nat.reduceSub, fwrap_i64, g34, g33, g10, g0, g1, g3, s1, s3, c1, c3, List.length_cons, List.length_nil, Nat.zero_add, e3]
      have F03 := (F.then F2).then F_h3
      refine OQ_does (become_ok (Ls := [(v1, bs.take a), (.slice h0.next 0 i i, List.replicate i v), (v3, bs.drop a)]) F_h3.wf (f0.fr F03) (Sl.lit (n := 3) o_h3 rfl) ?_ ?_ (by simp)) ?_
      · intro p hp
        simp only [List.mem_cons, List.not_mem_nil, or_false] at hp
        rcases hp with rfl | rfl | rfl
        · exact b1.fr F_h3
        · exact bm.fr (F2.then F_h3)
        · exact b3.fr F_h3
      · simp; omega
      rintro _ h4 ⟨rfl, f4, F4⟩
      simp (disch := omega) only [evs, ↓reduceIte, Nat.reduceEqDiff, Nat.reduceAdd, Nat.reduceMul, Nat.reduceLeDiff, Nat.reduceLT, Int.reduceNeg, DF, eff, Nat.reduceSub, fwrap_i64]
      refine ⟨by simpa [List.flatMap_cons] using f4, F03.trans F4 w (by simp) (fun x hx => .inl hx)⟩
end Go.Ev.Lay

/- Flags: TrailingZeros64, Select. -/
namespace Go.Ev.Lay
set_option maxRecDepth 4000
/-- the table of math/bits -/
def Glb (h : Heap) : Prop := Pl h 0 tabc
/-- the k-th bit that is true -/
def Sel (bs : List Bool) (k p : Nat) : Prop := p < bs.length ∧ bs.getD p false = true ∧ (bs.take p).count true = k
end Go.Ev.Lay

/- Layouts: what is read of them. -/
namespace Go.Ev.Lay
set_option maxRecDepth 4000
/-- the marks of a layout -/
def Mk (h : Heap) (pm : Option Nat) (bs : List Bool) : Prop := match pm with
  | none => bs = []
  | some c => Fl h c bs
theorem Mk.fr {h h' : Heap} {pm : Option Nat} {bs : List Bool} (a : Mk h pm bs) (f : Fr [] h h') : Mk h' pm bs := by
  cases pm with
  | none => exact a
  | some c => exact Fl.fr a f
/-- a layout: sizes, which are known, which are headers -/
def Lo (h : Heap) (b : Nat) (l : List Int) (ks bs : List Bool) : Prop := ∃ p vk pm, Own h b [pv p, vk, pv pm] ∧ vk.one = true ∧ Ix h (.agg [pv p, vk]) l ks ∧ Mk h pm bs ∧ bs.length = l.length
theorem Lo.fr {h h' : Heap} {b : Nat} {l : List Int} {ks bs : List Bool} (a : Lo h b l ks bs) (f : Fr [] h h') : Lo h' b l ks bs := by
  obtain ⟨p, vk, pm, o, v1, ix, mk, e⟩ := a; exact ⟨p, vk, pm, f.get o, v1, ix.fr f, mk.fr f, e⟩
theorem Glb.fr {h h' : Heap} (a : Glb h) (f : Fr [] h h') : Glb h' := f.pl _ _ (by simp) a
theorem LLen_ok {h : Heap} {b : Nat} {l : List Int} {ks bs : List Bool} (w : WF h) (a : Lo h b l ks bs) : Does go 42 [.ptr b 0] h fun u h' => u = .int .i64 l.length ∧ Fr [] h h' := by
  obtain ⟨p, vk, pm, o, v1, ix, mk, e⟩ := a
  refine does_fn g42 rfl ?_
  simp (disch := omega) only [fn42, evs, ↓reduceIte, Nat.reduceEqDiff, Nat.reduceAdd, Nat.reduceMul, Nat.reduceLeDiff, Nat.reduceLT, Int.reduceNeg, DF, eff, Nat.reduceSub, fwrap_i64, o.ld]
  refine OQ_does (XLen_ok w ix) ?_
  rintro _ h2 ⟨rfl, F2⟩
  simp (disch := omega) only [evs, ↓reduceIte, Nat.reduceEqDiff, Nat.reduceAdd, Nat.reduceMul, Nat.reduceLeDiff, Nat.reduceLT, Int.reduceNeg, DF, eff, Nat.reduceSub, fwrap_i64]
  exact F2
theorem Ix.rp {h : Heap} {p : Option Nat} {vk : V} {l : List Int} {ks : List Bool} (a : Ix h (.agg [pv p, vk]) l ks) : Rp h (.agg [pv p]) l := by
  obtain ⟨p', vk', L, e, r, _⟩ := a
  simp only [V.agg.injEq, List.cons.injEq, and_true] at e
  rw [e.1]; exact r
theorem LTotal_ok {h : Heap} {b : Nat} {l : List Int} {ks bs : List Bool} (w : WF h) (a : Lo h b l ks bs) : Does go 8 [.ptr b 0] h fun u h' => u = .int .i64 l.sum ∧ Fr [] h h' := by
  obtain ⟨p, vk, pm, o, v1, ix, mk, e⟩ := a
  have r := ix.rp
  refine does_fn g8 rfl ?_
  simp (disch := omega) only [fn8, evs, ↓reduceIte, Nat.reduceEqDiff, Nat.reduceAdd, Nat.reduceMul, Nat.reduceLeDiff, Nat.reduceLT, Int.reduceNeg, DF, eff, Nat.reduceSub, fwrap_i64, o.ld]
  refine OQ_does (Total_ok w r) ?_
  rintro _ h2 ⟨rfl, F2⟩
  simp (disch := omega) only [evs, ↓reduceIte, Nat.reduceEqDiff, Nat.reduceAdd, Nat.reduceMul, Nat.reduceLeDiff, Nat.reduceLT, Int.reduceNeg, DF, eff, Nat.reduceSub, fwrap_i64]
  exact F2
theorem LTop_ok {h : Heap} {b : Nat} {l : List Int} {ks bs : List Bool} {i : Int} (w : WF h) (a : Lo h b l ks bs) :
    Does go 62 [.ptr b 0, .int .i64 i] h fun u h' => (u = if 0 ≤ i ∧ i ≤ l.length then .tup [.int .i64 (l.take i.toNat).sum, .int .i64 0] else .tup [.int .i64 0, .int .i64 4]) ∧ Fr [] h h' := by
  obtain ⟨p, vk, pm, o, v1, ix, mk, e⟩ := a
  refine does_fn g62 rfl ?_
  simp (disch := omega) only [fn62, evs, ↓reduceIte, Nat.reduceEqDiff, Nat.reduceAdd, Nat.reduceMul, Nat.reduceLeDiff, Nat.reduceLT, Int.reduceNeg, DF, eff, Nat.reduceSub, fwrap_i64, o.ld]
  refine OQ_does (XTop_ok w ix) ?_
  rintro _ h2 ⟨rfl, F2⟩
  by_cases c : 0 ≤ i ∧ i ≤ l.length
  · simp only [if_pos c]
    simp (disch := omega) only [evs, ↓reduceIte, Nat.reduceEqDiff, Nat.reduceAdd, Nat.reduceMul, Nat.reduceLeDiff, Nat.reduceLT, Int.reduceNeg, DF, eff, Nat.reduceSub, fwrap_i64]
    exact F2
  · simp only [if_neg c]
    simp (disch := omega) only [evs, ↓reduceIte, Nat.reduceEqDiff, Nat.reduceAdd, Nat.reduceMul, Nat.reduceLeDiff, Nat.reduceLT, Int.reduceNeg, DF, eff, Nat.reduceSub, fwrap_i64]
    exact F2
theorem LSize_ok {h : Heap} {b : Nat} {l : List Int} {ks bs : List Bool} {i : Int} (w : WF h) (a : Lo h b l ks bs) :
    Does go 60 [.ptr b 0, .int .i64 i] h fun u h' => (u = if 0 ≤ i ∧ i < l.length then .tup [.int .i64 (l.getD i.toNat 0), .int .i64 0] else .tup [.int .i64 0, .int .i64 4]) ∧ Fr [] h h' := by
  obtain ⟨p, vk, pm, o, v1, ix, mk, e⟩ := a
  refine does_fn g60 rfl ?_
  simp (disch := omega) only [fn60, evs, ↓reduceIte, Nat.reduceEqDiff, Nat.reduceAdd, Nat.reduceMul, Nat.reduceLeDiff, Nat.reduceLT, Int.reduceNeg, DF, eff, Nat.reduceSub, fwrap_i64, o.ld]
  refine OQ_does (XSize_ok w ix) ?_
  rintro _ h2 ⟨rfl, F2⟩
  by_cases c : 0 ≤ i ∧ i < l.length
  · simp only [if_pos c]
    simp (disch := omega) only [evs, ↓reduceIte, Nat.reduceEqDiff, Nat.reduceAdd, Nat.reduceMul, Nat.reduceLeDiff, Nat.reduceLT, Int.reduceNeg, DF, eff, Nat.reduceSub, fwrap_i64]
    exact F2
  · simp only [if_neg c]
    simp (disch := omega) only [evs, ↓reduceIte, Nat.reduceEqDiff, Nat.reduceAdd, Nat.reduceMul, Nat.reduceLeDiff, Nat.reduceLT, Int.reduceNeg, DF, eff, Nat.reduceSub, fwrap_i64]
    exact F2
theorem LKnown_ok {h : Heap} {b : Nat} {l : List Int} {ks bs : List Bool} {i : Int} (w : WF h) (a : Lo h b l ks bs) :
    Does go 61 [.ptr b 0, .int .i64 i] h fun u h' => (u = if 0 ≤ i ∧ i < l.length then .tup [.bool (ks.getD i.toNat false), .int .i64 0] else .tup [.bool false, .int .i64 4]) ∧ Fr [] h h' := by
  obtain ⟨p, vk, pm, o, v1, ix, mk, e⟩ := a
  refine does_fn g61 rfl ?_
  simp (disch := omega) only [fn61, evs, ↓reduceIte, Nat.reduceEqDiff, Nat.reduceAdd, Nat.reduceMul, Nat.reduceLeDiff, Nat.reduceLT, Int.reduceNeg, DF, eff, Nat.reduceSub, fwrap_i64, o.ld]
  refine OQ_does (XKnown_ok w ix) ?_
  rintro _ h2 ⟨rfl, F2⟩
  by_cases c : 0 ≤ i ∧ i < l.length
  · simp only [if_pos c]
    simp (disch := omega) only [evs, ↓reduceIte, Nat.reduceEqDiff, Nat.reduceAdd, Nat.reduceMul, Nat.reduceLeDiff, Nat.reduceLT, Int.reduceNeg, DF, eff, Nat.reduceSub, fwrap_i64]
    exact F2
  · simp only [if_neg c]
    simp (disch := omega) only [evs, ↓reduceIte, Nat.reduceEqDiff, Nat.reduceAdd, Nat.reduceMul, Nat.reduceLeDiff, Nat.reduceLT, Int.reduceNeg, DF, eff, Nat.reduceSub, fwrap_i64]
    exact F2
theorem LSticky_ok {h : Heap} {b : Nat} {l : List Int} {ks bs : List Bool} {i : Int} (w : WF h) (a : Lo h b l ks bs) (a0 : -9223372036854775808 ≤ i) (a1 : i ≤ 9223372036854775807) :
    Does go 45 [.ptr b 0, .int .i64 i] h fun u h' => (u = if 0 ≤ i ∧ i < l.length then .tup [.bool (bs.getD i.toNat false), .int .i64 0] else .tup [.bool false, .int .i64 4]) ∧ Fr [] h h' := by
  have al := a
  obtain ⟨p, vk, pm, o, v1, ix, mk, e⟩ := a
  by_cases c : i < 0
  · refine does_fn g45 rfl ?_
    simp (disch := omega) only [fn45, evs, ↓reduceIte, Nat.reduceEqDiff, Nat.reduceAdd, Nat.reduceMul, Nat.reduceLeDiff, Nat.reduceLT, Int.reduceNeg, DF, eff, Nat.reduceSub, fwrap_i64, c]
    exact ⟨by rw [if_neg (by omega)], Fr.refl w⟩
  · refine does_fn g45 rfl ?_
    simp (disch := omega) only [fn45, evs, ↓reduceIte, Nat.reduceEqDiff, Nat.reduceAdd, Nat.reduceMul, Nat.reduceLeDiff, Nat.reduceLT, Int.reduceNeg, DF, eff, Nat.reduceSub, fwrap_i64, c]
    refine OQ_does (LLen_ok w al) ?_
    rintro _ h2 ⟨rfl, F2⟩
    by_cases c2 : (l.length : Int) ≤ i
    · simp (disch := omega) only [evs, ↓reduceIte, Nat.reduceEqDiff, Nat.reduceAdd, Nat.reduceMul, Nat.reduceLeDiff, Nat.reduceLT, Int.reduceNeg, DF, eff, Nat.reduceSub, fwrap_i64, c2]
      exact ⟨by rw [if_neg (by omega)], F2⟩
    · cases pm with
      | none => have mk : bs = [] := mk; subst mk; simp at e; omega
      | some q =>
        have fl : Fl h q bs := mk
        simp (disch := omega) only [evs, ↓reduceIte, Nat.reduceEqDiff, Nat.reduceAdd, Nat.reduceMul, Nat.reduceLeDiff, Nat.reduceLT, Int.reduceNeg, DF, eff, Nat.reduceSub, fwrap_i64, c2, (F2.get o).ld1, pv_some]
        refine OQ_does (fGet_ok (fl.fr F2) a0 a1) ?_
        rintro _ _ ⟨rfl, hh⟩
        replace hh := hh.symm
        subst hh
        rw [if_pos (by omega), if_pos (by omega)]
        simp (disch := omega) only [evs, ↓reduceIte, Nat.reduceEqDiff, Nat.reduceAdd, Nat.reduceMul, Nat.reduceLeDiff, Nat.reduceLT, Int.reduceNeg, DF, eff, Nat.reduceSub, fwrap_i64]
        exact F2
def okF (view over : Int) : Prop := 1 ≤ view ∧ view ≤ 2147483648 ∧ 0 ≤ over ∧ over ≤ 16
instance (view over : Int) : Decidable (okF view over) := by unfold okF; infer_instance
end Go.Ev.Lay

/- Layouts: Window, Head, Place. -/
namespace Go.Ev.Lay
set_option maxRecDepth 4000
def HeadS (l : List Int) (bs : List Bool) (s r e : Int) : Prop :=
  if l = [] ∧ s = 0 then r = 0 ∧ e = 11 else if 0 ≤ s ∧ s < l.sum then if (bs.take ((locate l s).1 + 1)).count true = 0 then r = 0 ∧ e = 11 else e = 0 ∧ ∃ p : Nat, r = p ∧ Sel bs ((bs.take ((locate l s).1 + 1)).count true - 1) p else r = 0 ∧ e = 4
end Go.Ev.Lay

/- Layouts: Place, Attached. -/
namespace Go.Ev.Lay
set_option maxRecDepth 4000
theorem HeadS.zero {l : List Int} {bs : List Bool} {s r e : Int} (a : HeadS l bs s r e) (h : e = 0) : 0 ≤ s ∧ s < l.sum ∧ ∃ p : Nat, r = p ∧ p < bs.length := by
  unfold HeadS at a
  split at a
  · omega
  · split at a
    · rename_i c
      split at a
      · omega
      · obtain ⟨_, p, e1, e2⟩ := a; exact ⟨c.1, c.2, p, e1, e2.1⟩
    · omega
end Go.Ev.Lay

/- Layouts: New, Set, Insert. -/
namespace Go.Ev.Lay
set_option maxRecDepth 4000
/-- a frame: what is neither block b nor flags stays -/
structure FrF (b : Nat) (h h' : Heap) : Prop where
  next : h.next ≤ h'.next
  wf : WF h'
  own : ∀ x c, x ≠ b → (∀ n m ws, ws.length = 64 → c ≠ flc n m ws) → Own h x c → Own h' x c
  pl : ∀ x c, x ≠ b → (∀ n m ws, ws.length = 64 → c ≠ flc n m ws) → Pl h x c → Pl h' x c
  ro : ∀ x c, Rs h x c → Rs h' x c
theorem frF {h h' : Heap} {b : Nat} (f : Fr [] h h') : FrF b h h' := ⟨f.next, f.wf, fun _ _ _ _ o => f.get o, fun _ _ _ _ o => f.pl _ _ (by simp) o, f.ro⟩
theorem frFb {h h' : Heap} {b : Nat} (f : Fr [b] h h') : FrF b h h' := ⟨f.next, f.wf, fun _ _ hx _ o => f.own _ _ (by simpa using hx) o, fun _ _ hx _ o => f.pl _ _ (by simpa using hx) o, f.ro⟩
theorem frFl {h h' : Heap} {b c : Nat} {bs : List Bool} (f : Fr [c] h h') (fl : Fl h c bs) : FrF b h h' := by
  obtain ⟨ws, o, ok, _⟩ := fl
  refine ⟨f.next, f.wf, fun x d _ hd ox => f.own _ _ ?_ ox, fun x d _ hd ox => f.pl _ _ ?_ ox, f.ro⟩
  · simp only [List.mem_singleton]
    rintro rfl
    exact hd _ _ _ ok.len (ox.uniq o)
  · simp only [List.mem_singleton]
    rintro rfl
    exact hd _ _ _ ok.len (ox.own.uniq o)
theorem FrF.trans {b : Nat} {h h1 h2 : Heap} (a : FrF b h h1) (c : FrF b h1 h2) : FrF b h h2 :=
  ⟨Nat.le_trans a.next c.next, c.wf, fun x d hx hd o => c.own x d hx hd (a.own x d hx hd o), fun x d hx hd o => c.pl x d hx hd (a.pl x d hx hd o), fun x d r => c.ro x d (a.ro x d r)⟩
theorem LNew_ok {h : Heap} (w : WF h) : Does go 46 [] h fun u h' => ∃ b, u = .ptr b 0 ∧ h.next ≤ b ∧ Lo h' b [] [] [] ∧ Own h' b [.nilp, .nils, .nilp] ∧ Fr [] h h' := by
  refine does_fn g46 rfl ?_
  simp (disch := omega) only [fn46, evs, ↓reduceIte, Nat.reduceEqDiff, Nat.reduceAdd, Nat.reduceMul, Nat.reduceLeDiff, Nat.reduceLT, Int.reduceNeg, DF, eff, Nat.reduceSub, fwrap_i64]
  refine ⟨_, rfl, Nat.le_refl _, ⟨none, .nils, none, Own.new w _, rfl, ⟨none, .nils, [], rfl, ⟨.nil, none, rfl, rfl, rfl, by simp, by simp, by simp⟩, .inl ⟨rfl, rfl⟩, ⟨trivial, by simp, fun i => by simp [inS]⟩, rfl, by simp⟩, rfl, rfl⟩, Own.new w _, Fr.halloc w _⟩
/-- the index of a layout behind a write to another block -/
theorem Ix.frb {h h' : Heap} {v : V} {l : List Int} {ks : List Bool} {b : Nat} {c : List V} (a : Ix h v l ks) (f : Fr [b] h h') (o : Own h b c) (h6 : c.length ≠ 6) (hc : ∀ L : List (Int × Int), 0 < L.length → c ≠ L.flatMap sp) : Ix h' v l ks := by
  obtain ⟨p, vk, L, e, r, s, x⟩ := a
  exact ⟨p, vk, L, e, r.frb f o h6, s.frb f o hc, x⟩
theorem Ix.frf {h h' : Heap} {v : V} {l : List Int} {ks : List Bool} {b : Nat} {bs : List Bool} (a : Ix h v l ks) (f : Fr [b] h h') (fl : Fl h b bs) : Ix h' v l ks := by
  obtain ⟨ws, o, ok, _⟩ := fl
  refine a.frb f o (by rw [flc_len, ok.len]; omega) fun L p e => ?_
  have hm : ∀ x ∈ flc (bs.length : Int) (bs.count true : Int) ws, ∃ n, x = .int .i64 n := by
    rw [e]
    intro x hx
    simp only [List.mem_flatMap, sp] at hx
    obtain ⟨s, _, hx⟩ := hx
    simp at hx
    rcases hx with rfl | rfl <;> exact ⟨_, rfl⟩
  cases ws with
  | nil => have := ok.len; simp at this
  | cons y ws =>
    obtain ⟨n, hn⟩ := hm (uw y) (by simp [flc])
    simp [uw] at hn
theorem noInt {p : Option Nat} {vk : V} {pm : Option Nat} (hvk : ∀ k n, vk ≠ .int k n) : ∀ x ∈ [pv p, vk, pv pm], ∀ k n, x ≠ .int k n := by
  intro x hx k n
  simp only [List.mem_cons, List.not_mem_nil, or_false] at hx
  rcases hx with rfl | rfl | rfl
  · cases p <;> simp [pv]
  · exact hvk k n
  · cases pm <;> simp [pv]
theorem Ix.noint {h : Heap} {p : Option Nat} {vk : V} {l : List Int} {ks : List Bool} (a : Ix h (.agg [pv p, vk]) l ks) : ∀ k n, vk ≠ .int k n := by
  obtain ⟨p', vk', L, e, r, s, _⟩ := a
  simp only [V.agg.injEq, List.cons.injEq, and_true] at e
  obtain ⟨_, rfl⟩ := e
  exact s.noint
theorem Ix.form {h : Heap} {c d : V} {l : List Int} {ks : List Bool} (a : Ix h (.agg [c, d]) l ks) : ∃ p, c = pv p := by
  obtain ⟨p', vk', L, e, _⟩ := a
  simp only [V.agg.injEq, List.cons.injEq, and_true] at e
  exact ⟨p', e.1⟩
theorem Mk.frb {h h' : Heap} {pm : Option Nat} {bs : List Bool} {b : Nat} {c : List V} (a : Mk h pm bs) (f : Fr [b] h h') (o : Own h b c) (h3 : c.length = 3) : Mk h' pm bs := by
  cases pm with
  | none => exact a
  | some q =>
    obtain ⟨ws, oq, ok, hn⟩ := a
    refine ⟨ws, f.own _ _ ?_ oq, ok, hn⟩
    simp only [List.mem_singleton]
    rintro rfl
    have := oq.uniq o
    subst this
    rw [flc_len, ok.len] at h3; omega
theorem LSet_ok {h : Heap} {b : Nat} {l : List Int} {ks bs : List Bool} {i size : Int} {kn : Bool} (w : WF h) (a : Lo h b l ks bs) (s0 : -9223372036854775808 ≤ size) (s1 : size ≤ 9223372036854775807) (i0 : -9223372036854775808 ≤ i) (i1 : i ≤ 9223372036854775807) :
    Does go 40 [.ptr b 0, .int .i64 i, .int .i64 size, .bool kn] h fun u h' => u = .int .i64 (xsetE l i size) ∧ (if xsetE l i size = 0 then Lo h' b (l.set i.toNat size) (ks.set i.toNat kn) bs else Lo h' b l ks bs) ∧ FrF b h h' := by
  have al := a
  obtain ⟨p, vk, pm, o, v1, ix, mk, e⟩ := a
  refine does_fn g40 rfl ?_
  simp (disch := omega) only [fn40, evs, ↓reduceIte, Nat.reduceEqDiff, Nat.reduceAdd, Nat.reduceMul, Nat.reduceLeDiff, Nat.reduceLT, Int.reduceNeg, DF, eff, Nat.reduceSub, fwrap_i64, o.ld]
  refine OQ_does (XSet_ok w ix s0 s1 i0 i1) ?_
  rintro _ h1 ⟨F1, c, d, rfl, hc, hd, hx⟩
  obtain ⟨h2, e_h2⟩ : ∃ h2, h2 = halloc h1 [.nilp, .nils] := ⟨_, rfl⟩
  have F_h2 : Fr [] h1 h2 := e_h2 ▸ Fr.halloc F1.wf _
  have o_h2 : Own h2 h1.next [.nilp, .nils] := e_h2 ▸ Own.new F1.wf _
  simp (disch := omega) only [evs, ↓reduceIte, Nat.reduceEqDiff, Nat.reduceAdd, Nat.reduceMul, Nat.reduceLeDiff, Nat.reduceLT, Int.reduceNeg, DF, eff, Nat.reduceSub, fwrap_i64, ← e_h2]
  refine store_step (c' := [c, d]) F_h2.wf o_h2 rfl (by simp [onesB, V.cells, hc, hd]) rfl ?_
  rintro h3 o3 F3 n3
  have F13 : Fr [] h1 h3 := F_h2.fresh F3 F1.wf (Nat.le_refl _)
  have F03 := F1.then F13
  by_cases z : xsetE l i size = 0
  · simp (disch := omega) only [evs, ↓reduceIte, Nat.reduceEqDiff, Nat.reduceAdd, Nat.reduceMul, Nat.reduceLeDiff, Nat.reduceLT, Int.reduceNeg, DF, eff, Nat.reduceSub, fwrap_i64, eq_true z, o3.ld]
    refine store_step (c' := [c, d, pv pm]) F13.wf (F03.get o) rfl (by simp [onesB, V.cells, hc, hd]) rfl ?_
    rintro h4 o4 F4 n4
    simp (disch := omega) only [evs, ↓reduceIte, Nat.reduceEqDiff, Nat.reduceAdd, Nat.reduceMul, Nat.reduceLeDiff, Nat.reduceLT, Int.reduceNeg, DF, eff, Nat.reduceSub, fwrap_i64]
    have ix' := hx z
    obtain ⟨p', rfl⟩ := ix'.form
    exact ⟨⟨p', d, pm, o4, hd, (ix'.fr F13).frb F4 (F03.get o) (by simp) (nosp (noInt ix.noint)), (mk.fr F03).frb F4 (F03.get o) rfl, by simpa using e⟩, (frF F03).trans (frFb F4)⟩
  · simp (disch := omega) only [evs, ↓reduceIte, Nat.reduceEqDiff, Nat.reduceAdd, Nat.reduceMul, Nat.reduceLeDiff, Nat.reduceLT, Int.reduceNeg, DF, eff, Nat.reduceSub, fwrap_i64, eq_false z]
    exact ⟨al.fr F03, frF F03⟩
end Go.Ev.Lay

/- Layouts: Insert. -/
namespace Go.Ev.Lay
set_option maxRecDepth 4000
theorem Bools.frl {h h' : Heap} {v : V} {bs : List Bool} {b : Nat} {c c' : List V} (a : Bools h v bs) (f : Fr [b] h h') (o : Own h b c) (o' : Own h' b c') (hc : ∀ x, V.bool x ∉ c) (hl : c'.length = c.length) : Bools h' v bs := by
  refine Sl.frb a f o o' hl fun hne => ?_
  cases bs with
  | nil => simp at hne
  | cons x bs => exact ⟨.bool x, by simp, hc x⟩
theorem nobool {p : Option Nat} {vk : V} {pm : Option Nat} (h : ∀ x, vk ≠ V.bool x) : ∀ x, V.bool x ∉ [pv p, vk, pv pm] := by
  intro x hx
  simp only [List.mem_cons, List.not_mem_nil, or_false] at hx
  rcases hx with e | e | e
  · cases p <;> simp [pv] at e
  · exact h x e.symm
  · cases pm <;> simp [pv] at e
theorem SpF.nobool {h : Heap} {v : V} {L : List (Int × Int)} (a : SpF h v L) : ∀ x, v ≠ V.bool x := by
  rcases a with ⟨rfl, _⟩ | ⟨b, rfl, _⟩ <;> simp
theorem Ix.nobool {h : Heap} {p : Option Nat} {vk : V} {l : List Int} {ks : List Bool} (a : Ix h (.agg [pv p, vk]) l ks) : ∀ x, vk ≠ V.bool x := by
  obtain ⟨p', vk', L, e, r, s, _⟩ := a
  simp only [V.agg.injEq, List.cons.injEq, and_true] at e
  obtain ⟨_, rfl⟩ := e
  exact s.nobool
theorem ins_set {bs st : List Bool} {i j : Nat} (hi : i ≤ bs.length) (x : Bool) (hx : st[j]? = some x) :
    (bs.take i ++ (st.take j ++ List.replicate (st.length - j) false) ++ bs.drop i).set (i + j) x = bs.take i ++ (st.take (j + 1) ++ List.replicate (st.length - (j + 1)) false) ++ bs.drop i := by
  have hj : j < st.length := by
    rcases Nat.lt_or_ge j st.length with y | y
    · exact y
    · rw [List.getElem?_eq_none y] at hx; cases hx
  have hl : (bs.take i).length = i := by simp; omega
  rw [List.append_assoc, List.set_append, if_neg (by omega), hl, Nat.add_sub_cancel_left, List.set_append, if_pos (by simp; omega), rep_set st j x hx, List.append_assoc, List.append_assoc, List.append_assoc]
theorem ins_false {bs st : List Bool} {i j : Nat} (hx : st[j]? = some false) : bs.take i ++ (st.take j ++ List.replicate (st.length - j) false) ++ bs.drop i = bs.take i ++ (st.take (j + 1) ++ List.replicate (st.length - (j + 1)) false) ++ bs.drop i := by
  have hj : j < st.length := by
    rcases Nat.lt_or_ge j st.length with y | y
    · exact y
    · rw [List.getElem?_eq_none y] at hx; cases hx
  rw [List.take_add_one, hx, show st.length - j = (st.length - (j + 1)) + 1 by omega, List.replicate_succ]
  simp
theorem LIns_ok {h : Heap} {b : Nat} {l m : List Int} {ks bs st : List Bool} {i : Int} {u v : V} (w : WF h) (a : Lo h b l ks bs) (am : Ints h u m) (as : Bools h v st) (hm : m.length ≤ 1000000) (hst : st.length = m.length) (i0 : -9223372036854775808 ≤ i) (i1 : i ≤ 9223372036854775807) :
    Does go 9 [.ptr b 0, .int .i64 i, u, v] h fun z h' => z = .int .i64 (xinsE l i m) ∧ FrF b h h' ∧ (if xinsE l i m = 0 then Lo h' b (l.take i.toNat ++ m ++ l.drop i.toNat) (ks.take i.toNat ++ List.replicate m.length false ++ ks.drop i.toNat) (bs.take i.toNat ++ st ++ bs.drop i.toNat) else Lo h' b l ks bs) := by
  have al := a
  obtain ⟨p, vk, pm, o, v1, ix, mk, e⟩ := a
  have hle : ((m.length : Nat) : Int) = st.length := by omega
  refine does_fn g9 rfl ?_
  simp (disch := omega) only [fn9, evs, ↓reduceIte, Nat.reduceEqDiff, Nat.reduceAdd, Nat.reduceMul, Nat.reduceLeDiff, Nat.reduceLT, Int.reduceNeg, DF, eff, Nat.reduceSub, fwrap_i64, am.len, as.len, eq_true hle, o.ld]
  refine OQ_does (XIns_ok w ix am hm i0 i1) ?_
  rintro _ h1 ⟨F1, c, d, rfl, hc, hd, hx⟩
  obtain ⟨h2, e_h2⟩ : ∃ h2, h2 = halloc h1 [.nilp, .nils] := ⟨_, rfl⟩
  have F_h2 : Fr [] h1 h2 := e_h2 ▸ Fr.halloc F1.wf _
  have o_h2 : Own h2 h1.next [.nilp, .nils] := e_h2 ▸ Own.new F1.wf _
  simp (disch := omega) only [evs, ↓reduceIte, Nat.reduceEqDiff, Nat.reduceAdd, Nat.reduceMul, Nat.reduceLeDiff, Nat.reduceLT, Int.reduceNeg, DF, eff, Nat.reduceSub, fwrap_i64, ← e_h2]
  refine store_step (c' := [c, d]) F_h2.wf o_h2 rfl (by simp [onesB, V.cells, hc, hd]) rfl ?_
  rintro h3 o3 F3 n3
  have F13 : Fr [] h1 h3 := F_h2.fresh F3 F1.wf (Nat.le_refl _)
  have F03 := F1.then F13
  by_cases z : xinsE l i m = 0
  · have ix' := hx z
    obtain ⟨p', rfl⟩ := ix'.form
    have hi : 0 ≤ i ∧ i ≤ l.length ∧ l.length + m.length ≤ 1024 := by
      unfold xinsE at z
      by_cases c1 : 0 ≤ i ∧ i ≤ l.length
      · rw [if_pos c1] at z
        by_cases c2 : 1024 - (l.length : Int) < m.length
        · rw [if_pos c2] at z; omega
        · omega
      · rw [if_neg c1] at z; omega
    by_cases c0 : (m.length : Int) = 0
    · have hm0 : m = [] := List.length_eq_zero_iff.1 (by omega)
      have hs0 : st = [] := List.length_eq_zero_iff.1 (by omega)
      subst hm0 hs0
      simp (disch := omega) only [evs, ↓reduceIte, Nat.reduceEqDiff, Nat.reduceAdd, Nat.reduceMul, Nat.reduceLeDiff, Nat.reduceLT, Int.reduceNeg, DF, eff, Nat.reduceSub, fwrap_i64, eq_true z, am.len, eq_true c0]
      refine ⟨frF F03, ?_⟩
      simpa using al.fr F03
    · obtain ⟨k, rfl⟩ : ∃ k : Nat, i = k := ⟨i.toNat, by omega⟩
      simp only [Int.toNat_natCast] at hx ix' ⊢
      have blt : b < h1.next := Nat.lt_of_lt_of_le (o.lt w) F1.next
      have niv := ix.noint
      have nbv := ix.nobool
      -- the marks are there
      cases pm
      case' none =>
        have mk : bs = [] := mk
        simp (disch := omega) only [evs, ↓reduceIte, Nat.reduceEqDiff, Nat.reduceAdd, Nat.reduceMul, Nat.reduceLeDiff, Nat.reduceLT, Int.reduceNeg, DF, eff, Nat.reduceSub, fwrap_i64, eq_true z, am.len, eq_false c0, (F03.get o).ld1, pv_none]
        refine OQ_does (fNew_ok F13.wf) ?_
        rintro _ h4 ⟨q, rfl, hq, fl4, F4⟩
        simp (disch := omega) only [evs, ↓reduceIte, Nat.reduceEqDiff, Nat.reduceAdd, Nat.reduceMul, Nat.reduceLeDiff, Nat.reduceLT, Int.reduceNeg, DF, eff, Nat.reduceSub, fwrap_i64, (F03.get o).ld1]
        have F04 := F03.then F4
        refine store_step (c' := [pv p, vk, .ptr q 0]) F4.wf (F04.get o) rfl rfl rfl ?_
        rintro H oH F5 n5
        have FH : FrF b h H := (frF F04).trans (frFb F5)
        have flH : Fl H q bs := Mk.frb (pm := some q) (show Mk h4 (some q) bs from mk ▸ fl4) F5 (F04.get o) rfl
        have ixH := (ix'.fr (F13.then F4)).frb F5 (F04.get o) (by simp) (nosp (noInt niv))
        have oxH := F5.own _ _ (by simp; omega) (F4.get o3)
        have stH := Bools.frl (as.fr F04) F5 (F04.get o) oH (nobool nbv) rfl
        have wfH := F5.wf
        simp (disch := omega) only [evs, ↓reduceIte, Nat.reduceEqDiff, Nat.reduceAdd, Nat.reduceMul, Nat.reduceLeDiff, Nat.reduceLT, Int.reduceNeg, DF, eff, Nat.reduceSub, fwrap_i64, oH.ld1, am.len]
      case' some q =>
        have flH : Fl h3 q bs := Fl.fr mk F03
        obtain ⟨H, eH⟩ : ∃ H, H = h3 := ⟨h3, rfl⟩
        have oH : Own H b [pv p, vk, .ptr q 0] := eH ▸ F03.get o
        have FH : FrF b h H := eH ▸ frF F03
        have ixH := eH ▸ ix'.fr F13
        have oxH := eH ▸ o3
        have stH := eH ▸ as.fr F03
        have wfH : WF H := eH ▸ F13.wf
        rw [← eH] at flH
        simp (disch := omega) only [evs, ↓reduceIte, Nat.reduceEqDiff, Nat.reduceAdd, Nat.reduceMul, Nat.reduceLeDiff, Nat.reduceLT, Int.reduceNeg, DF, eff, Nat.reduceSub, fwrap_i64, eq_true z, am.len, eq_false c0, (F03.get o).ld1, pv_some]
        rw [← eH]
      all_goals
        have qb : q ≠ b := by
          rintro rfl
          obtain ⟨ws, oq, ok, _⟩ := flH
          have := congrArg List.length (oq.uniq oH)
          rw [flc_len, ok.len] at this; simp at this
        refine OQ_does (fIns_ok (a := k) (n := m.length) (v := false) wfH flH (by omega) (by omega)) ?_
        rintro _ h6 ⟨rfl, fl6, F6⟩
        have o6b := F6.own _ _ (by simp; omega) oH
        have ix6 := ixH.frf F6 flH
        have qx : q ≠ h1.next := by
          rintro rfl
          obtain ⟨ws, oq, ok, _⟩ := flH
          have := congrArg List.length (oq.uniq oxH)
          rw [flc_len, ok.len] at this; simp at this
        have ox6 := F6.own _ _ (by simp; omega) oxH
        have st6 : Bools h6 v st := by
          obtain ⟨ws, oq, ok, _⟩ := flH
          obtain ⟨ws', oq', ok', _⟩ := fl6
          exact Bools.frb stH F6 oq oq' (by rw [ok'.len, ok.len])
        simp (disch := omega) only [evs, ↓reduceIte, Nat.reduceEqDiff, Nat.reduceAdd, Nat.reduceMul, Nat.reduceLeDiff, Nat.reduceLT, Int.reduceNeg, DF, eff, Nat.reduceSub, fwrap_i64, ox6.ld]
        refine store_step (c' := [pv p', d, .ptr q 0]) F6.wf o6b rfl (by simp [onesB, V.cells, hc, hd]) rfl ?_
        rintro h7 o7 F7 n7
        have fl7 : Fl h7 q _ := Mk.frb (pm := some q) fl6 F7 o6b rfl
        have ix7 := ix6.frb F7 o6b (by simp) (nosp (noInt (pm := some q) niv))
        have st7 := Bools.frl st6 F7 o6b o7 (nobool (pm := some q) nbv) rfl
        have F07 : FrF b h h7 := (FH.trans (frFl F6 flH)).trans (frFb F7)
        simp (disch := omega) only [evs, ↓reduceIte, Nat.reduceEqDiff, Nat.reduceAdd, Nat.reduceMul, Nat.reduceLeDiff, Nat.reduceLT, Int.reduceNeg, DF, eff, Nat.reduceSub, fwrap_i64, st7.len]
        refine W_loop (fun n env hh => ∃ j : Nat, env.get 71 = some (.int .i64 j) ∧ env.get 70 = some (.int .i64 st.length) ∧ env.get 69 = some v ∧ env.get 0 = some (.ptr b 0) ∧ env.get 1 = some (.int .i64 k) ∧ j ≤ st.length ∧ FrF b h hh ∧
          Own hh b [pv p', d, .ptr q 0] ∧ Fl hh q (bs.take k ++ (st.take j ++ List.replicate (st.length - j) false) ++ bs.drop k) ∧ Ix hh (.agg [pv p', d]) (l.take k ++ m ++ l.drop k) (ks.take k ++ List.replicate m.length false ++ ks.drop k) ∧ Bools hh v st ∧ n = st.length - j) st.length (by omega) ?_ ?_
        · exact ⟨0, (by simp [T.get_set]), (by simp [T.get_set]), (by simp [T.get_set]), (by simp [T.get_set]), (by simp [T.get_set]), by omega, F07, o7, by simpa [hst] using fl7, ix7, st7, rfl⟩
        · rintro n env hh ⟨j, g71, g70, g69, g0, g1, hj, FF, oo, ff, ii, ss, rfl⟩
          by_cases hlt : (j : Int) < st.length
          · obtain ⟨bb, oo', x, q1, q2, q3⟩ := ss.ix .i64 j (by omega) hlt
            simp only [Int.toNat_natCast] at q3
            cases x
            · simp (disch := omega) only [evs, ↓reduceIte, Nat.reduceEqDiff, Nat.reduceAdd, Nat.reduceMul, Nat.reduceLeDiff, Nat.reduceLT, Int.reduceNeg, DF, eff, Nat.reduceSub, fwrap_i64, g71, g70, g69, g0, g1, hlt, q1, q2]
              rw [ins_false q3] at ff
              refine (roundQ_norm _ _ _).2 ⟨st.length - (j + 1), by omega, j + 1, (by simp [T.get_set]), (by simp [T.get_set, g70]), (by simp [T.get_set, g69]), (by simp [T.get_set, g0]), (by simp [T.get_set, g1]), by omega, FF, oo, ff, ii, ss, rfl⟩
              done
            · simp (disch := omega) only [evs, ↓reduceIte, Nat.reduceEqDiff, Nat.reduceAdd, Nat.reduceMul, Nat.reduceLeDiff, Nat.reduceLT, Int.reduceNeg, DF, eff, Nat.reduceSub, fwrap_i64, g71, g70, g69, g0, g1, hlt, q1, q2, oo.ld1]
              refine OQ_does (fSet_ok FF.wf ff (by omega) (by omega)) ?_
              rintro _ h8 ⟨rfl, f8, F8, n8⟩
              have lf : (k : Int) + j < ((bs.take k ++ (st.take j ++ List.replicate (st.length - j) false) ++ bs.drop k).length : Nat) := by simp; omega
              rw [if_pos ⟨by omega, lf⟩, show ((k : Int) + j).toNat = k + j by omega, ins_set (by omega) _ q3] at f8
              simp (disch := omega) only [evs, ↓reduceIte, Nat.reduceEqDiff, Nat.reduceAdd, Nat.reduceMul, Nat.reduceLeDiff, Nat.reduceLT, Int.reduceNeg, DF, eff, Nat.reduceSub, fwrap_i64, g71, g70, g69, g0, g1]
              have o8 := F8.own _ _ (by simp; omega) oo
              have s8 : Bools h8 v st := by
                obtain ⟨ws, oq, ok, _⟩ := ff
                obtain ⟨ws', oq', ok', _⟩ := f8
                exact Bools.frb ss F8 oq oq' (by rw [ok'.len, ok.len])
              refine (roundQ_norm _ _ _).2 ⟨st.length - (j + 1), by omega, j + 1, (by simp [T.get_set]), (by simp [T.get_set, g70]), (by simp [T.get_set, g69]), (by simp [T.get_set, g0]), (by simp [T.get_set, g1]), by omega, FF.trans (frFl F8 ff), o8, f8, ii.frf F8 ff, s8, rfl⟩
              done
          · simp (disch := omega) only [evs, ↓reduceIte, Nat.reduceEqDiff, Nat.reduceAdd, Nat.reduceMul, Nat.reduceLeDiff, Nat.reduceLT, Int.reduceNeg, DF, eff, Nat.reduceSub, fwrap_i64, g71, g70, g69, g0, g1, hlt]
            have ej : j = st.length := by omega
            subst ej
            simp only [List.take_length, Nat.sub_self, List.replicate_zero, List.append_nil] at ff
            refine ⟨by first | rw [z] | trivial, FF, ?_⟩
            try rw [if_pos z]
            exact ⟨p', d, some q, oo, hd, ii, ff, by simp; omega⟩
  · simp (disch := omega) only [evs, ↓reduceIte, Nat.reduceEqDiff, Nat.reduceAdd, Nat.reduceMul, Nat.reduceLeDiff, Nat.reduceLT, Int.reduceNeg, DF, eff, Nat.reduceSub, fwrap_i64, eq_false z]
    exact ⟨frF F03, al.fr F03⟩
end Go.Ev.Lay

/- The definition: Top, Total, At, Clamp, Seen, Window, Head, Place. -/
namespace Go.Ev.Lay
set_option maxRecDepth 4000
def rc (r : Int × Bool × Bool) : List V := [.int .i64 r.1, .bool r.2.1, .bool r.2.2]
theorem rc_len (r : Int × Bool × Bool) : (rc r).length = 3 := rfl
theorem rc_ones (r : Int × Bool × Bool) : onesB (rc r) = true := rfl
abbrev Rws (h : Heap) (v : V) (L : List (Int × Bool × Bool)) : Prop := Recs rc 3 h v L
def sz (L : List (Int × Bool × Bool)) : List Int := L.map fun r => r.1
def ky (L : List (Int × Bool × Bool)) : List Bool := L.map fun r => r.2.1
def sy (L : List (Int × Bool × Bool)) : List Bool := L.map fun r => r.2.2
theorem sz_len (L : List (Int × Bool × Bool)) : (sz L).length = L.length := by simp [sz]
theorem ky_len (L : List (Int × Bool × Bool)) : (ky L).length = L.length := by simp [ky]
theorem sy_len (L : List (Int × Bool × Bool)) : (sy L).length = L.length := by simp [sy]
theorem Rws.ix {h : Heap} {v : V} {L : List (Int × Bool × Bool)} (a : Rws h v L) (i : Nat) (h1 : (i : Int) < L.length) :
    ∃ b o r, aP (.ixs 3) [v, .int .i64 i] = some (.ptr b o) ∧ hload1 h b o = some (.int .i64 r.1) ∧ hload1 h b (o + 1) = some (.bool r.2.1) ∧ hload1 h b (o + 2) = some (.bool r.2.2) ∧ hload h b o 3 = some [.int .i64 r.1, .bool r.2.1, .bool r.2.2] ∧ L[i]? = some r := by
  obtain ⟨b, o, s, e, g, g2, e3⟩ := Recs.ix rc_len a .i64 i (by omega) h1
  exact ⟨b, o, s, e, by simpa [rc] using g 0 (by omega), by simpa [rc] using g 1 (by omega), by simpa [rc] using g 2 (by omega), g2, by simpa using e3⟩
theorem sz_get {L : List (Int × Bool × Bool)} {i : Nat} {r : Int × Bool × Bool} (h : L[i]? = some r) : (sz L)[i]? = some r.1 := by simp [sz, h]
theorem take_sum {l : List Int} {i : Nat} {x : Int} (h : l[i]? = some x) : (l.take (i + 1)).sum = (l.take i).sum + x := by rw [List.take_add_one, h]; simp
theorem take_le {l : List Int} (f : Fit l) (i : Nat) : 0 ≤ (l.take i).sum ∧ (l.take i).sum ≤ l.sum := by
  have h1 := (f.sub (List.take_sublist i l)).nn
  have h2 := List.sum_append (l₁ := l.take i) (l₂ := l.drop i)
  rw [List.take_append_drop] at h2
  have := (f.sub (List.drop_sublist i l)).nn
  omega
theorem rTop_ok {h : Heap} {v : V} {L : List (Int × Bool × Bool)} {i : Nat} (a : Rws h v L) (f : Fit (sz L)) (hi : i ≤ L.length) : Does go 30 [v, .int .i64 (i : Int)] h fun u h' => u = .int .i64 ((sz L).take i).sum ∧ h' = h := by
  have f3 := f.2.2
  rw [sz_len] at f3
  refine does_fn g30 rfl ?_
  simp (disch := omega) only [fn30, evs, ↓reduceIte, Nat.reduceEqDiff, Nat.reduceAdd, Nat.reduceMul, Nat.reduceLeDiff, Nat.reduceLT, Int.reduceNeg, DF, eff, Nat.reduceSub, fwrap_i64]
  refine W_loop (fun k env hh => h = hh ∧ ∃ j : Nat, env.get 6 = some (.int .i64 j) ∧ env.get 5 = some (.int .i64 ((sz L).take j).sum) ∧ env.get 0 = some v ∧ env.get 1 = some (.int .i64 i) ∧ j ≤ i ∧ k = i - j) i (by omega) ?_ ?_
  · exact ⟨rfl, 0, (by simp [T.get_set]), (by simp [T.get_set]), (by simp [T.get_set]), (by simp [T.get_set]), by omega, rfl⟩
  · rintro k env hh ⟨rfl, j, g6, g5, g0, g1, hj, rfl⟩
    by_cases hlt : (j : Int) < i
    · obtain ⟨b, o, r, e1, e2, e3, e4, e5, e6⟩ := Rws.ix a j (by omega)
      have ts := take_sum (sz_get e6)
      have t1 := take_le f j
      have t2 := take_le f (j + 1)
      have f2 := f.2.1
      simp (disch := omega) only [evs, ↓reduceIte, Nat.reduceEqDiff, Nat.reduceAdd, Nat.reduceMul, Nat.reduceLeDiff, Nat.reduceLT, Int.reduceNeg, DF, eff, Nat.reduceSub, fwrap_i64, g6, g5, g0, g1, hlt, e1, e2]
      refine (roundQ_norm _ _ _).2 ⟨i - (j + 1), by omega, rfl, j + 1, (by simp [T.get_set]), (by simp [T.get_set, ts]), (by simp [T.get_set, g0]), (by simp [T.get_set, g1]), by omega, rfl⟩
      done
    · simp (disch := omega) only [evs, ↓reduceIte, Nat.reduceEqDiff, Nat.reduceAdd, Nat.reduceMul, Nat.reduceLeDiff, Nat.reduceLT, Int.reduceNeg, DF, eff, Nat.reduceSub, fwrap_i64, g6, g5, g0, g1, hlt]
      rw [show j = i by omega]
theorem rTotal_ok {h : Heap} {v : V} {L : List (Int × Bool × Bool)} (a : Rws h v L) (f : Fit (sz L)) : Does go 22 [v] h fun u h' => u = .int .i64 (sz L).sum ∧ h' = h := by
  refine does_fn g22 rfl ?_
  simp (disch := omega) only [fn22, evs, ↓reduceIte, Nat.reduceEqDiff, Nat.reduceAdd, Nat.reduceMul, Nat.reduceLeDiff, Nat.reduceLT, Int.reduceNeg, DF, eff, Nat.reduceSub, fwrap_i64, a.len]
  refine OQ_does (rTop_ok a f (Nat.le_refl _)) ?_
  rintro _ _ ⟨rfl, hh⟩
  replace hh := hh.symm
  subst hh
  simp (disch := omega) only [evs, ↓reduceIte, Nat.reduceEqDiff, Nat.reduceAdd, Nat.reduceMul, Nat.reduceLeDiff, Nat.reduceLT, Int.reduceNeg, DF, eff, Nat.reduceSub, fwrap_i64]
  rw [List.take_of_length_le (by rw [sz_len]; omega)]
end Go.Ev.Lay

/- The definition: Seen, Window, Head, Place, Attached. -/
namespace Go.Ev.Lay
set_option maxRecDepth 4000
/-- the last header that lies at an offset, or ahead of it, among the first ones -/
def HdR (l : List Int) (bs : List Bool) (s : Int) (j : Nat) (r : Int) : Prop := (r = -1 ∧ ∀ i : Nat, i < j → bs.getD i false = true → s < (l.take i).sum) ∨
  ∃ p : Nat, r = p ∧ p < j ∧ bs.getD p false = true ∧ (l.take p).sum ≤ s ∧ ∀ i : Nat, p < i → i < j → bs.getD i false = true → s < (l.take i).sum
theorem sy_get {L : List (Int × Bool × Bool)} {i : Nat} {r : Int × Bool × Bool} (h : L[i]? = some r) : (sy L).getD i false = r.2.2 := by simp [sy, List.getD, h]
theorem HdR.skip {l : List Int} {bs : List Bool} {s r : Int} {j : Nat} (a : HdR l bs s j r) (h : bs.getD j false = true → s < (l.take j).sum) : HdR l bs s (j + 1) r := by
  rcases a with ⟨e, a⟩ | ⟨p, e, h1, h2, h3, h4⟩
  · refine .inl ⟨e, fun i hi hb => ?_⟩
    rcases Nat.lt_or_ge i j with c | c
    · exact a i c hb
    · rw [show i = j by omega] at hb ⊢; exact h hb
  · refine .inr ⟨p, e, by omega, h2, h3, fun i hp hi hb => ?_⟩
    rcases Nat.lt_or_ge i j with c | c
    · exact h4 i hp c hb
    · rw [show i = j by omega] at hb ⊢; exact h hb
def ic (x : Int) : List V := [.int .i64 x]
theorem ic_len (x : Int) : (ic x).length = 1 := rfl
theorem ic_flat (A : List Int) : A.flatMap ic = A.map (V.int .i64) := by induction A with
  | nil => rfl
  | cons x A ih => simp [List.flatMap_cons, ic, ih]
end Go.Ev.Lay

/- Walking through a range over a function. -/
namespace Go.Ev
variable {call : CallF}
/-- how deep a map is -/
def T.dep {α : Type} : T α → Nat
  | .e => 0
  | .n l _ r => 1 + max l.dep r.dep
theorem T.get_far {α : Type} : ∀ (t : T α) (i : Nat), 2 ^ t.dep ≤ i + 1 → t.get i = none
  | .e, _, _ => rfl
  | .n l v r, i, h => by
    have hp : 0 < 2 ^ max l.dep r.dep := Nat.two_pow_pos _
    simp only [T.dep, Nat.pow_add, Nat.pow_one] at h
    cases i with
    | zero => omega
    | succ j =>
      rw [T.get_nS]
      have hl : 2 ^ l.dep ≤ 2 ^ max l.dep r.dep := Nat.pow_le_pow_right (by omega) (Nat.le_max_left _ _)
      have hr : 2 ^ r.dep ≤ 2 ^ max l.dep r.dep := Nat.pow_le_pow_right (by omega) (Nat.le_max_right _ _)
      split
      · exact T.get_far l _ (by omega)
      · exact T.get_far r _ (by omega)
theorem WF.hnew {h : Heap} (w : WF h) (k : Blk) : WF (hnew h k) := by
  intro p hp
  have hp' : h.next + 1 ≤ p := hp
  have := w p (by omega)
  exact ⟨by show (h.bl.set _ _).get p = none; rw [T.get_set_ne _ _ (by omega)]; exact this.1, this.2⟩
theorem Fr.hnew {h : Heap} (w : WF h) (k : Blk) : Fr [] h (hnew h k) where
  next := Nat.le_succ _
  wf := w.hnew k
  own := fun b c _ o => by
    have := o.lt w
    obtain ⟨f, k', e, x⟩ := o
    exact ⟨f, k', by show (h.bl.set _ _).get b = _; rw [T.get_set_ne _ _ (by omega)]; exact e, x⟩
  pl := fun b c _ o => by
    have := o.own.lt w
    obtain ⟨⟨k', e⟩, f⟩ := o
    exact ⟨⟨k', by show (h.bl.set _ _).get b = _; rw [T.get_set_ne _ _ (by omega)]; exact e⟩, f⟩
  lp := fun b x _ e => by
    have : b ≠ h.next := by rintro rfl; rw [(w _ (Nat.le_refl _)).1] at e; cases e
    show (h.bl.set _ _).get b = _; rw [T.get_set_ne _ _ this]; exact e
  ro := fun b c r => r.new w _
/-- a frame but for the block of a loop -/
structure FrB (S : List Nat) (B : Nat) (h h' : Heap) : Prop where
  next : h.next ≤ h'.next
  wf : WF h'
  own : ∀ b c, b ∉ S → Own h b c → Own h' b c
  pl : ∀ b c, b ∉ S → Pl h b c → Pl h' b c
  lp : ∀ b x, b ≠ B → isLp x = true → h.bl.get b = some x → h'.bl.get b = some x
  ro : ∀ b c, Rs h b c → Rs h' b c
theorem Fr.b {S S' : List Nat} {h h' : Heap} {B : Nat} (f : Fr S' h h') (hs : ∀ x ∈ S', x ∈ S) : FrB S B h h' := ⟨f.next, f.wf, fun b c hb o => f.own b c (fun q => hb (hs b q)) o, fun b c hb o => f.pl b c (fun q => hb (hs b q)) o, fun b x _ hx e => f.lp b x hx e, f.ro⟩
theorem FrB.trans {S : List Nat} {h h1 h2 : Heap} {B : Nat} (a : FrB S B h h1) (b : FrB S B h1 h2) : FrB S B h h2 :=
  ⟨Nat.le_trans a.next b.next, b.wf, fun x c hx o => b.own x c hx (a.own x c hx o), fun x c hx o => b.pl x c hx (a.pl x c hx o), fun x k hx hk o => b.lp x k hx hk (a.lp x k hx hk o), fun x c r => b.ro x c (a.ro x c r)⟩
theorem FrB.hset {S : List Nat} {h : Heap} (w : WF h) {B : Nat} {x : Blk} (e : h.bl.get B = some x) (hx : isLp x = true) (k : Blk) : FrB S B h (hset h B k) := by
  have hB : B < h.next := by
    rcases Nat.lt_or_ge B h.next with q | q
    · exact q
    · rw [(w B q).1] at e; cases e
  refine ⟨Nat.le_refl _, ?_, ?_, ?_, ?_, ?_⟩
  · intro p hp
    have hp' : h.next ≤ p := hp
    have := w p hp'
    exact ⟨by show (h.bl.set _ _).get p = none; rw [T.get_set_ne _ _ (by omega)]; exact this.1, this.2⟩
  · rintro b c _ ⟨f, k', e', y⟩
    have : b ≠ B := by rintro rfl; rw [e] at e'; cases e'; cases hx
    exact ⟨f, k', by show (h.bl.set _ _).get b = _; rw [T.get_set_ne _ _ this]; exact e', y⟩
  · rintro b c _ ⟨⟨k', e'⟩, y⟩
    have : b ≠ B := by rintro rfl; rw [e] at e'; cases e'; cases hx
    exact ⟨⟨k', by show (h.bl.set _ _).get b = _; rw [T.get_set_ne _ _ this]; exact e'⟩, y⟩
  · intro b y hb hy e'
    show (h.bl.set _ _).get b = _; rw [T.get_set_ne _ _ hb]; exact e'
  · rintro b c ⟨f, k', ow, e1, e2, e3, e4⟩
    have h1 : b ≠ B := by rintro rfl; rw [e] at e1; cases e1; cases hx
    have h2 : ow ≠ B := by rintro rfl; rw [e] at e3; cases e3
    exact ⟨f, k', ow, by show (h.bl.set _ _).get b = _; rw [T.get_set_ne _ _ h1]; exact e1, e2, by show (h.bl.set _ _).get ow = _; rw [T.get_set_ne _ _ h2]; exact e3, e4⟩
/-- seen from where neither was there -/
theorem FrB.fr {S : List Nat} {B : Nat} {h h1 h2 : Heap} (w : WF h) (f : Fr [] h h1) (a : FrB S B h1 h2) (hs : ∀ x ∈ S, h.next ≤ x) (hB : h.next ≤ B) : Fr [] h h2 :=
  ⟨Nat.le_trans f.next a.next, a.wf, fun b c _ o => a.own b c (fun q => by have := hs b q; have := o.lt w; omega) (f.get o), fun b c _ o => a.pl b c (fun q => by have := hs b q; have := o.own.lt w; omega) (f.pl b c (by simp) o),
    fun b x hx e => a.lp b x (by rintro rfl; rw [(w _ hB).1] at e; cases e) hx (f.lp b x hx e), fun b c r => a.ro b c (f.ro b c r)⟩
theorem hset_get (h : Heap) (B : Nat) (k : Blk) : (hset h B k).bl.get B = some k := T.get_set_self _ _ _
theorem hnew_get (h : Heap) (k : Blk) : (hnew h k).bl.get h.next = some k := T.get_set_self _ _ _
/-- the statement: the function is called with yield, under the loop's block -/
theorem W_rf {g : Opd} {ps : List Nat} {as bd : IC} {env : T V} {h : Heap} {Q : Ex → T V → Heap → Prop} {f : Nat} {first caps : List V} (hg : evO [] env g = some (.func (.func f) first caps)) (hf : f < 1099511627776)
    (k : OQ (call f (first ++ [.yld h.next] ++ caps) (hnew h (.lp ps as bd env 0 none))) fun _ h2 => ∃ ps2 as2 bd2 en2 st pend, h2.bl.get h.next = some (.lp ps2 as2 bd2 en2 st pend) ∧ st ≠ 1 ∧
      Q (pend.getD .norm) env (hset h2 h.next .dead)) : W call (.rf g ps as bd) env h Q := by
  obtain ⟨u, h2, e, ps2, as2, bd2, en2, st, pend, e2, e3, q⟩ := k
  refine ⟨_, _, _, ?_, q⟩
  have key : evC call (.rf g ps as bd) env h = (match evO [] env g with
      | some (.func (.func f) first caps) => bif Nat.blt f YB then
          (match call f (first ++ [.yld h.next] ++ caps) (hnew h (.lp ps as bd env 0 none)) with
            | some (_, h2) => (match h2.bl.get h.next with
              | some (.lp _ _ _ _ st pend) => bif Nat.beq st 1 then .fail else .ok (match pend with | some ex => ex | none => .norm) env (hset h2 h.next .dead)
              | _ => .fail)
            | none => .fail)
        else .fail
      | _ => .fail : Out) := rfl
  have hb : Nat.blt f YB = true := (Nat.blt_eq ..).mpr hf
  have hst : Nat.beq st 1 = false := by
    cases q : Nat.beq st 1
    · rfl
    · exact absurd (Nat.eq_of_beq_eq_true q) e3
  rw [key, hg]
  simp only [hb, cond_true]
  rw [e]
  simp only [e2, hst, cond_false]
  cases pend <;> rfl
/-- a round that goes to its end -/
theorem does_round {ov : CallF} {F : T IFn} {b : Nat} {vs : List V} {h : Heap} {R : V → Heap → Prop} (hF : 2 ^ F.dep ≤ 1099511627776) {ps : List Nat} {as bd : IC} {env : T V} (hb : h.bl.get b = some (.lp ps as bd env 0 none)) (hl : vs.length = ps.length)
    (k : W (ev ov F) as (bindP ps vs env) h fun e env1 h1 => e = .norm ∧ ∃ ps1 as1 bd1 en1 p1, h1.bl.get b = some (.lp ps1 as1 bd1 en1 0 p1) ∧
      W (ev ov F) bd env1 (hset h1 b (.lp ps1 as1 bd1 en1 1 p1)) fun e2 _ h2 => e2 = .norm ∧ ∃ ps2 as2 bd2 en2 s2 p2, h2.bl.get b = some (.lp ps2 as2 bd2 en2 s2 p2) ∧ R (.bool true) (hset h2 b (.lp ps2 as2 bd2 en2 0 none))) :
    Does (ev ov F) (YB + b) vs h R := by
  obtain ⟨_, env1, h1, e1, rfl, ps1, as1, bd1, en1, p1, hb1, _, env2, h2, e2, rfl, ps2, as2, bd2, en2, s2, p2, hb2, r⟩ := k
  refine ⟨_, _, ev_yield (T.get_far F _ (by have : (1099511627776 : Nat) ≤ YB := by decide
                                            omega)) ?_, r⟩
  unfold evY
  rw [hb]
  have hl' : Nat.beq vs.length ps.length = true := by rw [hl]; exact Nat.beq_refl _
  simp only [hl', cond_true]
  rw [e1]
  simp only [hb1]
  rw [e2]
  simp only [hb2]
/-! slices that are only read -/
def Rdb (h : Heap) (b : Nat) (c : List V) : Prop := Own h b c ∨ Rs h b c
theorem Rdb.cells {h : Heap} {b : Nat} {c : List V} (a : Rdb h b c) : cellsAt h b = some c := by
  rcases a with o | ⟨f, k, ow, e1, e2, _⟩
  · exact o.cells
  · simp only [cellsAt, e1, rd, e2, Nat.beq_refl, Bool.or_true, if_true]
    rfl
theorem Rdb.ld1 {h : Heap} {b : Nat} {c : List V} (a : Rdb h b c) (o : Nat) : hload1 h b o = nth c o := by simp only [hload1, a.cells]
theorem Rdb.ld {h : Heap} {b : Nat} {c : List V} (a : Rdb h b c) (o n : Nat) : hload h b o n = takeL n (dropL c o) := by simp only [hload, a.cells]
def ASl (h : Heap) (esz : Nat) (v : V) (n : Nat) (cs : List V) : Prop :=
  cs.length = n * esz ∧ match v with
  | .nils => n = 0
  | .sliceE => n = 0
  | .sliceZ _ _ => n = 0
  | .slice b o len cap => len = n ∧ n ≤ cap ∧ ∃ c, Rdb h b c ∧ o + n * esz ≤ c.length ∧ cs = (c.drop o).take (n * esz)
  | .sliceU b o len e => len = n ∧ e = esz ∧ ∃ c, Rdb h b c ∧ o + n * esz ≤ c.length ∧ cs = (c.drop o).take (n * esz)
  | _ => False
theorem Sl.a {h : Heap} {esz : Nat} {v : V} {n : Nat} {cs : List V} (a : Sl h esz v n cs) : ASl h esz v n cs := by
  obtain ⟨hl, a⟩ := a
  refine ⟨hl, ?_⟩
  cases v with
  | slice b o l k => obtain ⟨h1, h2, c, o, x⟩ := a; exact ⟨h1, h2, c, .inl o, x⟩
  | sliceU b o l k => obtain ⟨h1, h2, c, o, x⟩ := a; exact ⟨h1, h2, c, .inl o, x⟩
  | sliceZ _ _ => exact a.elim
  | _ => exact a
theorem ASl.map {h h' : Heap} {esz : Nat} {v : V} {n : Nat} {cs : List V} (a : ASl h esz v n cs) (f : ∀ b c, Rdb h b c → (cs ≠ [] → ∃ x ∈ cs, x ∈ c) → Rdb h' b c) : ASl h' esz v n cs := by
  obtain ⟨hl, a⟩ := a
  refine ⟨hl, ?_⟩
  have key : ∀ (o : Nat) (c : List V), cs = (c.drop o).take (n * esz) → cs ≠ [] → ∃ x ∈ cs, x ∈ c := by
    intro o c e hne
    obtain ⟨x, hx⟩ := List.exists_mem_of_ne_nil cs hne
    exact ⟨x, hx, List.mem_of_mem_drop (List.mem_of_mem_take (e ▸ hx))⟩
  cases v with
  | slice b o l k => obtain ⟨h1, h2, c, oc, x1, x2⟩ := a; exact ⟨h1, h2, c, f b c oc (key o c x2), x1, x2⟩
  | sliceU b o l k => obtain ⟨h1, h2, c, oc, x1, x2⟩ := a; exact ⟨h1, h2, c, f b c oc (key o c x2), x1, x2⟩
  | _ => exact a
theorem ASl.fr {h h' : Heap} {esz : Nat} {v : V} {n : Nat} {cs : List V} (a : ASl h esz v n cs) (f : Fr [] h h') : ASl h' esz v n cs := a.map fun b c r _ => r.imp (fun o => f.get o) (f.ro b c)
theorem ASl.len {h : Heap} {esz : Nat} {v : V} {n : Nat} {cs : List V} (a : ASl h esz v n cs) : aP .lenS [v] = some (.int .i64 n) := by
  obtain ⟨hl, a⟩ := a
  cases v with
  | slice b o l k => obtain ⟨rfl, _⟩ := a; rfl
  | sliceU b o l k => obtain ⟨rfl, _⟩ := a; rfl
  | nils => have a : n = 0 := a; subst a; rfl
  | sliceE => have a : n = 0 := a; subst a; rfl
  | sliceZ _ _ => have a : n = 0 := a; subst a; rfl
  | _ => exact a.elim
theorem ASl.one {h : Heap} {esz : Nat} {v : V} {n : Nat} {cs : List V} (a : ASl h esz v n cs) : v.one = true := by
  obtain ⟨hl, a⟩ := a
  cases v with
  | slice b o l k => rfl
  | sliceU b o l k => rfl
  | nils => rfl
  | sliceE => rfl
  | sliceZ _ _ => rfl
  | _ => exact a.elim
theorem ASl.ix {h : Heap} {esz : Nat} {v : V} {n : Nat} {cs : List V} (a : ASl h esz v n cs) (k : IntKind) (i : Int) (h0 : 0 ≤ i) (h1 : i < n) :
    ∃ b o, aP (.ixs esz) [v, .int k i] = some (.ptr b o) ∧ (∀ j, j < esz → hload1 h b (o + j) = cs[i.toNat * esz + j]?) ∧ hload h b o esz = some ((cs.drop (i.toNat * esz)).take esz) := by
  obtain ⟨hl, a⟩ := a
  obtain ⟨m, rfl⟩ : ∃ m : Nat, i = m := ⟨i.toNat, by omega⟩
  have hm : m < n := by omega
  have hmul : m * esz + esz ≤ n * esz := by rw [← Nat.succ_mul]; exact Nat.mul_le_mul_right _ hm
  have main : ∀ (b o : Nat) (c : List V), Rdb h b c → o + n * esz ≤ c.length → cs = (c.drop o).take (n * esz) →
      (∀ j, j < esz → hload1 h b (o + m * esz + j) = cs[m * esz + j]?) ∧ hload h b (o + m * esz) esz = some ((cs.drop (m * esz)).take esz) := by
    intro b o c hc hlen e
    subst e
    constructor
    · intro j hj
      rw [hc.ld1, nth_eq, List.getElem?_take, if_pos (by omega), List.getElem?_drop]
      congr 1; omega
    · rw [hc.ld, dropL_eq, takeL_at _ _ (by simp; omega), List.drop_take, List.drop_drop, List.take_take]
      congr 2
      omega
  cases v with
  | slice b o l q =>
    obtain ⟨rfl, _, c, hc, hlen, e⟩ := a
    exact ⟨b, o + m * esz, aP_ixS _ _ _ _ _ _ _ h0 h1, main b o c hc hlen e⟩
  | sliceU b o l q =>
    obtain ⟨rfl, rfl, c, hc, hlen, e⟩ := a
    exact ⟨b, o + m * q, aP_ixU _ _ _ _ _ _ _ h0 h1, main b o c hc hlen e⟩
  | nils => have a : n = 0 := a; omega
  | sliceE => have a : n = 0 := a; omega
  | sliceZ _ _ => have a : n = 0 := a; omega
  | _ => exact a.elim
section
variable {α : Type} {f : α → List V} {k : Nat}
/-- records in a slice that is only read -/
def ARecs (f : α → List V) (k : Nat) (h : Heap) (v : V) (L : List α) : Prop := ASl h k v L.length (L.flatMap f)
theorem Recs.a {h : Heap} {v : V} {L : List α} (a : Recs f k h v L) : ARecs f k h v L := Sl.a a
theorem ARecs.fr {h h' : Heap} {v : V} {L : List α} (a : ARecs f k h v L) (r : Fr [] h h') : ARecs f k h' v L := ASl.fr a r
theorem ARecs.len {h : Heap} {v : V} {L : List α} (a : ARecs f k h v L) : aP .lenS [v] = some (.int .i64 L.length) := ASl.len a
theorem ARecs.one {h : Heap} {v : V} {L : List α} (a : ARecs f k h v L) : v.one = true := ASl.one a
theorem ARecs.ix {h : Heap} {v : V} {L : List α} (hf : ∀ x, (f x).length = k) (a : ARecs f k h v L) (kd : IntKind) (i : Int) (h0 : 0 ≤ i) (h1 : i < L.length) :
    ∃ b o x, aP (.ixs k) [v, .int kd i] = some (.ptr b o) ∧ (∀ j, j < k → hload1 h b (o + j) = (f x)[j]?) ∧ hload h b o k = some (f x) ∧ L[i.toNat]? = some x := by
  obtain ⟨b, o, e, g, g2⟩ := ASl.ix a kd i h0 h1
  have hi : i.toNat < L.length := by omega
  have e3 : L[i.toNat]? = some L[i.toNat] := by simp [hi]
  have ed : L.drop i.toNat = L[i.toNat] :: L.drop (i.toNat + 1) := List.drop_eq_getElem_cons hi
  refine ⟨b, o, L[i.toNat], e, fun j hj => ?_, ?_, e3⟩
  · rw [g j hj, ← List.getElem?_drop, flat_drop hf, ed, List.flatMap_cons, List.getElem?_append_left (by rw [hf]; exact hj)]
  · rw [g2, flat_drop hf, ed, List.flatMap_cons]
    have := hf L[i.toNat]
    rw [List.take_append, List.take_of_length_le (by omega), this]; simp
end
end Go.Ev

/- The law's helpers: Rows, Lay. -/
namespace Go.Ev.Lay
set_option maxRecDepth 4000
/-- rows that fill their block -/
def RwF (h : Heap) (v : V) (L : List (Int × Bool × Bool)) : Prop := (v = .nils ∧ L = []) ∨ ∃ b, (v = .sliceU b 0 L.length 3 ∨ v = .slice b 0 L.length L.length) ∧ Own h b (L.flatMap rc) ∧ 0 < L.length
theorem RwF.rws {h : Heap} {v : V} {L : List (Int × Bool × Bool)} (a : RwF h v L) : Rws h v L := by
  rcases a with ⟨rfl, rfl⟩ | ⟨b, rfl | rfl, o, _⟩
  · exact Recs.nil
  · exact ⟨flat_len rc_len L, rfl, rfl, _, o, by rw [flat_len rc_len]; omega, by rw [List.drop_zero, List.take_of_length_le (by rw [flat_len rc_len]; omega)]⟩
  · exact Sl.lit o (flat_len rc_len L)
theorem RwF.fr {h h' : Heap} {v : V} {L : List (Int × Bool × Bool)} (a : RwF h v L) (f : Fr [] h h') : RwF h' v L := by
  rcases a with x | ⟨b, e, o, p⟩
  · exact .inl x
  · exact .inr ⟨b, e, f.get o, p⟩
theorem rc_noflc {L : List (Int × Bool × Bool)} (p : 0 < L.length) : ∀ n m ws, ws.length = 64 → L.flatMap rc ≠ flc n m ws := by
  intro n m ws _ e
  cases L with
  | nil => simp at p
  | cons r L =>
    have : V.bool r.2.1 ∈ flc n m ws := by rw [← e]; simp [rc]
    simp [flc, uw] at this
theorem RwF.frF {h h' : Heap} {v : V} {L : List (Int × Bool × Bool)} {b : Nat} {c : List V} (a : RwF h v L) (f : FrF b h h') (o : Own h b c) (hc : ∀ x ∈ c, ∀ k n, x ≠ .int k n) : RwF h' v L := by
  rcases a with x | ⟨q, e, oq, p⟩
  · exact .inl x
  · refine .inr ⟨q, e, f.own _ _ ?_ (rc_noflc p) oq, p⟩
    rintro rfl
    cases L with
    | nil => simp at p
    | cons r L => exact hc (.int .i64 r.1) (by rw [← oq.uniq o]; simp [rc]) _ _ rfl
theorem RwF.frF' {h h' : Heap} {v : V} {L : List (Int × Bool × Bool)} {b : Nat} (a : RwF h v L) (f : FrF b h h') (w : WF h) (hb : h.next ≤ b) : RwF h' v L := by
  rcases a with x | ⟨q, e, oq, p⟩
  · exact .inl x
  · exact .inr ⟨q, e, f.own _ _ (by have := oq.lt w; omega) (rc_noflc p) oq, p⟩
theorem GRecs.rwf {h : Heap} {B : Nat} {v : V} {L : List (Int × Bool × Bool)} (a : GRecs rc 3 h B v L) : RwF h v L := by
  rcases a with ⟨e, e2⟩ | ⟨b, n, rfl, hl, hn, _, o⟩
  · have := congrArg List.length e2
    rw [flat_len rc_len, List.length_nil] at this
    exact .inl ⟨e, List.length_eq_zero_iff.1 (by omega)⟩
  · rw [flat_len rc_len] at hl
    have : n = L.length := by omega
    subst this
    exact .inr ⟨b, .inl rfl, o, hn⟩
def uc (p : Nat × Nat) : List V := [.int .u8 (p.1 : Int), .int .u8 (p.2 : Int)]
theorem uc_len (p : Nat × Nat) : (uc p).length = 2 := rfl
def mkRow (p : Nat × Nat) : Int × Bool × Bool := (1 + ((p.1 % 128 : Nat) : Int), decide (128 ≤ p.1), decide (p.2 % 3 = 0))
theorem remu8 (a n : Nat) (b : Int) (hb : b = n) (h0 : 0 < n) : aP (.ib .rem) [.int .u8 (a : Int), .int .u8 b] = some (.int .u8 ((a % n : Nat) : Int)) := by
  subst hb
  rw [aP_rem _ _ _ (by omega), show Int.tmod (a : Int) n = ((a % n : Nat) : Int) from (Int.ofNat_tmod a n).symm]
theorem Rows_ok {h : Heap} {v : V} {ps : List (Nat × Nat)} (w : WF h) (a : ARecs uc 2 h v ps) (hp : ∀ p ∈ ps, p.1 < 256 ∧ p.2 < 256) :
    Does go 21 [.agg [v]] h fun u h' => GRecs rc 3 h' h.next u ((ps.take 30).map mkRow) ∧ Fr [] h h' := by
  have v1 := cells_one (ARecs.one a)
  obtain ⟨h1, e_h1⟩ : ∃ h1, h1 = halloc h [v] := ⟨_, rfl⟩
  have F_h1 : Fr [] h h1 := e_h1 ▸ Fr.halloc w _
  have o_h1 : Own h1 h.next [v] := e_h1 ▸ Own.new w _
  refine does_fn g21 rfl ?_
  simp (disch := omega) only [fn21, evs, ↓reduceIte, Nat.reduceEqDiff, Nat.reduceAdd, Nat.reduceMul, Nat.reduceLeDiff, Nat.reduceLT, Int.reduceNeg, DF, eff, Nat.reduceSub, fwrap_i64, v1, ← e_h1]
  refine W_loop (fun k env hh => ∃ (j : Nat) (vo : V), Fr [] h hh ∧ Own hh h.next [v] ∧ env.get 1 = some (.ptr h.next 0) ∧ env.get 4 = some (.int .i64 j) ∧ env.get 3 = some vo ∧ j ≤ ps.length ∧ j ≤ 30 ∧ GRecs rc 3 hh h.next vo ((ps.take j).map mkRow) ∧ k = 30 - j) 30 (by omega) ?_ ?_
  · exact ⟨0, .nils, F_h1, o_h1, (by simp [T.get_set]), (by simp [T.get_set]), (by simp [T.get_set]), by omega, by omega, GRecs.nil, rfl⟩
  · rintro k env hh ⟨j, vo, F, ob, g1, g4, g3, hj, h30, gO, rfl⟩
    have al := ARecs.len (ARecs.fr a F)
    by_cases c1 : (j : Int) < ps.length
    · by_cases c2 : (j : Int) < 30
      · obtain ⟨b, o, p, e1, e2, e3, e4⟩ := ARecs.ix uc_len (ARecs.fr a F) .i64 j (by omega) c1
        simp only [Int.toNat_natCast] at e4
        have q0 : hload1 hh b (o + 0) = some (.int .u8 (p.1 : Int)) := by have := e2 0 (by omega); simpa [uc] using this
        have q1 : hload1 hh b (o + 1) = some (.int .u8 (p.2 : Int)) := by have := e2 1 (by omega); simpa [uc] using this
        obtain ⟨r1, r2⟩ := hp p (List.mem_of_getElem? e4)
        have i0 := aP_ixa 1 b o 2 .i64 0 (by omega) (by omega)
        have i1 := aP_ixa 1 b o 2 .i64 1 (by omega) (by omega)
        rw [show o + (0 : Int).toNat * 1 = o + 0 by simp] at i0
        rw [show o + (1 : Int).toNat * 1 = o + 1 by simp] at i1
        have m1 := remu8 p.1 128 128 rfl (by omega)
        have m2 := remu8 p.2 3 3 rfl (by omega)
        have tk : (ps.take (j + 1)).map mkRow = (ps.take j).map mkRow ++ [mkRow p] := by rw [List.take_add_one, e4]; simp
        have d1 : decide ((128 : Int) ≤ (p.1 : Int)) = decide (128 ≤ p.1) := by rw [Bool.eq_iff_iff]; simp; omega
        have d2 : decide (((p.2 % 3 : Nat) : Int) = 0) = decide (p.2 % 3 = 0) := by rw [Bool.eq_iff_iff]; simp; omega
        obtain ⟨h5, e_h5⟩ : ∃ h5, h5 = halloc hh (rc (mkRow p)) := ⟨_, rfl⟩
        have F_h5 : Fr [] hh h5 := e_h5 ▸ Fr.halloc F.wf _
        have o_h5 : Own h5 hh.next (rc (mkRow p)) := e_h5 ▸ Own.new F.wf _
        have e5 : halloc hh [.int .i64 (1 + ((p.1 % 128 : Nat) : Int)), .bool (decide (128 ≤ p.1)), .bool (decide (p.2 % 3 = 0))] = h5 := e_h5.symm
        have q0' := q0
        rw [Nat.add_zero] at q0' i0
        simp (disch := omega) only [evs, ↓reduceIte, Nat.reduceEqDiff, Nat.reduceAdd, Nat.reduceMul, Nat.reduceLeDiff, Nat.reduceLT, Int.reduceNeg, DF, eff, Nat.reduceSub, fwrap_i64, g1, g4, g3, ob.ld1, al, c1, c2, e1, i0, i1, q0', q1, m1, m2, d1, d2, List.length_cons, List.length_nil, e5]
        refine GRecs.append (x := mkRow p) F_h5.wf (gO.fr F_h5) rc_len (rc_ones _) (by omega) o_h5 (Nat.le_trans F.next F_h5.next) (by simp; omega) ?_
        intro v' h6 g6 F6
        have U6 := Gs.up (gO.fr F_h5) F6
        have ob6 : Own h6 h.next [v] := by
          refine F6.own _ _ ?_ (F_h5.get ob)
          rcases gO with ⟨rfl, _⟩ | ⟨b', n', rfl, hl', _, _, og⟩
          · simp [vb]
          · simp only [vb, List.mem_singleton]
            rintro rfl
            have := congrArg List.length (og.uniq ob)
            rw [hl'] at this; simp at this; omega
        simp (disch := omega) only [evs, ↓reduceIte, Nat.reduceEqDiff, Nat.reduceAdd, Nat.reduceMul, Nat.reduceLeDiff, Nat.reduceLT, Int.reduceNeg, DF, eff, Nat.reduceSub, fwrap_i64, g1, g4, g3, ob.ld1, al, c1, c2, e1, i0, i1, q0', q1]
        refine (roundQ_norm _ _ _).2 ⟨30 - (j + 1), by omega, j + 1, v', (F.then F_h5).ups w U6, ob6, (by simp [T.get_set, g1]), (by simp [T.get_set]), (by simp [T.get_set]), by omega, by omega, by rw [tk]; exact g6, rfl⟩
        done
      · simp (disch := omega) only [evs, ↓reduceIte, Nat.reduceEqDiff, Nat.reduceAdd, Nat.reduceMul, Nat.reduceLeDiff, Nat.reduceLT, Int.reduceNeg, DF, eff, Nat.reduceSub, fwrap_i64, g1, g4, g3, ob.ld1, al, c1, c2]
        rw [show j = 30 by omega] at gO
        exact ⟨gO, F⟩
    · simp (disch := omega) only [evs, ↓reduceIte, Nat.reduceEqDiff, Nat.reduceAdd, Nat.reduceMul, Nat.reduceLeDiff, Nat.reduceLT, Int.reduceNeg, DF, eff, Nat.reduceSub, fwrap_i64, g1, g4, g3, ob.ld1, al, c1]
      rw [show (ps.take 30) = ps.take j by rw [List.take_of_length_le (by omega), List.take_of_length_le (by omega)]]
      exact ⟨gO, F⟩
end Go.Ev.Lay

/- The law's helpers: Lay. -/
namespace Go.Ev.Lay
set_option maxRecDepth 4000
structure Good (L : List (Int × Bool × Bool)) : Prop where
  len : L.length ≤ 1024
  one : ∀ r ∈ L, 1 ≤ r.1 ∧ r.1 ≤ 2305843009213693952
  sum : (sz L).sum ≤ 4611686018427387904
theorem Good.fit {L : List (Int × Bool × Bool)} (g : Good L) : Fit (sz L) := by
  refine ⟨fun x hx => ?_, g.sum, by rw [sz_len]; have := g.len; omega⟩
  simp only [sz, List.mem_map] at hx
  obtain ⟨r, hr, rfl⟩ := hx
  have := g.one r hr; omega
theorem Good.pos {L : List (Int × Bool × Bool)} (g : Good L) : ∀ x ∈ sz L, 1 ≤ x := by
  intro x hx
  simp only [sz, List.mem_map] at hx
  obtain ⟨r, hr, rfl⟩ := hx
  exact (g.one r hr).1
theorem sumE_ok : ∀ (l : List Int) (t : Int), (∀ x ∈ l, 1 ≤ x ∧ x ≤ 2305843009213693952) → t + l.sum ≤ 4611686018427387904 → sumE t l = 0
  | [], _, _, _ => rfl
  | s :: l, t, h, hs => by
    have h1 := h s (by simp)
    have nn := sum_nn (l := l) fun x hx => by have := h x (by simp [hx]); omega
    simp only [List.sum_cons] at hs
    rw [sumE, if_neg (by omega), if_neg (by omega)]
    exact sumE_ok l (t + s) (fun x hx => h x (by simp [hx])) (by omega)
def bc (x : Bool) : List V := [.bool x]
theorem bc_len (x : Bool) : (bc x).length = 1 := rfl
theorem bc_flat (A : List Bool) : A.flatMap bc = A.map V.bool := by induction A with
  | nil => rfl
  | cons x A ih => simp [List.flatMap_cons, bc, ih]
/-- growing one slice leaves another one -/
theorem GRecs.keep {α β : Type} {f : α → List V} {g : β → List V} {k k' B B' : Nat} {h h' : Heap} {v v' : V} {L : List α} {M : List β} (a : GRecs f k h B v L) (b : GRecs g k' h B' v' M) (F : Fr (vb v') h h')
    (hd : ∀ (n : Nat), L.flatMap f = M.flatMap g → (L.flatMap f).length = n * k → ¬ 0 < n) : GRecs f k h' B v L := by
  rcases a with x | ⟨q, n, rfl, hl, hn, hB, o⟩
  · exact .inl x
  · refine .inr ⟨q, n, rfl, hl, hn, hB, F.own _ _ ?_ o⟩
    rcases b with ⟨rfl, _⟩ | ⟨q', n', rfl, _, _, _, o'⟩
    · simp [vb]
    · simp only [vb, List.mem_singleton]
      rintro rfl
      exact hd n (o.uniq o') hl hn
theorem ic_bc {A : List Int} {B : List Bool} (h : A.flatMap ic = B.flatMap bc) : A = [] := by
  cases A with
  | nil => rfl
  | cons x A =>
    cases B with
    | nil => simp [List.flatMap_cons, ic] at h
    | cons y B => simp [List.flatMap_cons, ic, bc] at h
theorem Lay_ok {h : Heap} {v : V} {L : List (Int × Bool × Bool)} (w : WF h) (a : RwF h v L) (g : Good L) :
    Does go 7 [v] h fun u h' => ∃ b, u = .ptr b 0 ∧ h.next ≤ b ∧ Lo h' b (sz L) (ky L) (sy L) ∧ FrF b h h' := by
  have fit := g.fit
  have gl := g.len
  refine does_fn g7 rfl ?_
  simp (disch := omega) only [fn7, evs, ↓reduceIte, Nat.reduceEqDiff, Nat.reduceAdd, Nat.reduceMul, Nat.reduceLeDiff, Nat.reduceLT, Int.reduceNeg, DF, eff, Nat.reduceSub, fwrap_i64]
  refine OQ_does (LNew_ok w) ?_
  rintro _ h1 ⟨b, rfl, hb, lo1, ob1, F1⟩
  have a1 := (a.fr F1).rws
  simp (disch := omega) only [evs, ↓reduceIte, Nat.reduceEqDiff, Nat.reduceAdd, Nat.reduceMul, Nat.reduceLeDiff, Nat.reduceLT, Int.reduceNeg, DF, eff, Nat.reduceSub, fwrap_i64]
  refine W_loop (fun k env hh => ∃ (j : Nat) (v4 v5 : V), Fr [] h1 hh ∧ env.get 0 = some v ∧ env.get 3 = some (.ptr b 0) ∧ env.get 4 = some v4 ∧ env.get 5 = some v5 ∧ env.get 6 = some (.int .i64 j) ∧ j ≤ L.length ∧ GRecs ic 1 hh h1.next v4 (sz (L.take j)) ∧ GRecs bc 1 hh h1.next v5 (sy (L.take j)) ∧ k = L.length - j) L.length (by omega) ?_ ?_
  · exact ⟨0, .nils, .nils, Fr.refl F1.wf, (by simp [T.get_set]), (by simp [T.get_set]), (by simp [T.get_set]), (by simp [T.get_set]), (by simp [T.get_set]), by omega, GRecs.nil, GRecs.nil, rfl⟩
  rintro k env hh ⟨j, v4, v5, F, g0, g3, g4, g5, g6, hj, G4, G5, rfl⟩
  have a2 := Recs.fr a1 F
  by_cases hlt : (j : Int) < L.length
  · obtain ⟨bb, o, r, e1, e2, e3, e4, e5, e6⟩ := Rws.ix a2 j hlt
    have tk1 : sz (L.take (j + 1)) = sz (L.take j) ++ [r.1] := by rw [List.take_add_one, e6]; simp [sz]
    have tk2 : sy (L.take (j + 1)) = sy (L.take j) ++ [r.2.2] := by rw [List.take_add_one, e6]; simp [sy]
    have l1 : (sz (L.take j)).length ≤ 1024 := by rw [sz_len]; simp; omega
    have l2 : (sy (L.take j)).length ≤ 1024 := by rw [sy_len]; simp; omega
    obtain ⟨h2, e_h2⟩ : ∃ h2, h2 = halloc hh (ic r.1) := ⟨_, rfl⟩
    have F_h2 : Fr [] hh h2 := e_h2 ▸ Fr.halloc F.wf _
    have o_h2 : Own h2 hh.next (ic r.1) := e_h2 ▸ Own.new F.wf _
    have e2' : halloc hh [.int .i64 r.1] = h2 := e_h2.symm
    simp (disch := omega) only [evs, ↓reduceIte, Nat.reduceEqDiff, Nat.reduceAdd, Nat.reduceMul, Nat.reduceLeDiff, Nat.reduceLT, Int.reduceNeg, DF, eff, Nat.reduceSub, fwrap_i64, g0, g3, g4, g5, g6, a2.len, hlt, e1, e2, e2']
    refine GRecs.append (x := r.1) F_h2.wf (G4.fr F_h2) ic_len rfl (by omega) o_h2 (Nat.le_trans F.next F_h2.next) (by omega) ?_
    intro v4' h3 G4' F3
    have U3 := Gs.up (G4.fr F_h2) F3
    have F13 : Fr [] h1 h3 := (F.then F_h2).ups F1.wf U3
    have G5' : GRecs bc 1 h3 h1.next v5 (sy (L.take j)) := GRecs.keep (G5.fr F_h2) (G4.fr F_h2) F3 (fun n e hl => by
      have := ic_bc e.symm
      rw [← e.symm, this] at hl
      simp at hl; omega)
    obtain ⟨bb', o', r', d1, d2, d3, d4, d5, d6⟩ := Rws.ix (Recs.fr a1 F13) j hlt
    rw [e6] at d6; cases d6
    obtain ⟨h4, e_h4⟩ : ∃ h4, h4 = halloc h3 (bc r.2.2) := ⟨_, rfl⟩
    have F_h4 : Fr [] h3 h4 := e_h4 ▸ Fr.halloc F13.wf _
    have o_h4 : Own h4 h3.next (bc r.2.2) := e_h4 ▸ Own.new F13.wf _
    have e4' : halloc h3 [.bool r.2.2] = h4 := e_h4.symm
    simp (disch := omega) only [evs, ↓reduceIte, Nat.reduceEqDiff, Nat.reduceAdd, Nat.reduceMul, Nat.reduceLeDiff, Nat.reduceLT, Int.reduceNeg, DF, eff, Nat.reduceSub, fwrap_i64, g0, g3, g4, g5, g6, d1, d4, e4']
    refine GRecs.append (x := r.2.2) F_h4.wf (G5'.fr F_h4) bc_len rfl (by omega) o_h4 (Nat.le_trans F13.next F_h4.next) (by omega) ?_
    intro v5' h5 G5'' F5
    have U5 := Gs.up (G5'.fr F_h4) F5
    have G4'' : GRecs ic 1 h5 h1.next v4' (sz (L.take j) ++ [r.1]) := GRecs.keep (G4'.fr F_h4) (G5'.fr F_h4) F5 (fun n e hl => by
      have := ic_bc e
      simp at this)
    simp (disch := omega) only [evs, ↓reduceIte, Nat.reduceEqDiff, Nat.reduceAdd, Nat.reduceMul, Nat.reduceLeDiff, Nat.reduceLT, Int.reduceNeg, DF, eff, Nat.reduceSub, fwrap_i64, g0, g3, g4, g5, g6]
    refine (roundQ_norm _ _ _).2 ⟨L.length - (j + 1), by omega, j + 1, v4', v5', (F13.then F_h4).ups F1.wf U5, (by simp [T.get_set, g0]), (by simp [T.get_set, g3]), (by simp [T.get_set]), (by simp [T.get_set]), (by simp [T.get_set]), by omega, by rw [tk1]; exact G4'', by rw [tk2]; exact G5'', rfl⟩
    done
  · have ej : j = L.length := by omega
    subst ej
    rw [List.take_length] at G4 G5
    have im : Ints hh v4 (sz L) := by have := G4.recs ic_len (by omega); show Sl _ 1 _ _ _; rw [← ic_flat]; exact this
    have bm : Bools hh v5 (sy L) := by have := G5.recs bc_len (by omega); show Sl _ 1 _ _ _; rw [← bc_flat]; exact this
    have xz : xinsE [] 0 (sz L) = 0 := by
      unfold xinsE
      have : sumE 0 (sz L) = 0 := sumE_ok _ _ (fun x hx => by
        simp only [sz, List.mem_map] at hx
        obtain ⟨r, hr, rfl⟩ := hx
        exact g.one r hr) (by have := g.sum; omega)
      rw [if_pos (by simp), if_neg (by simp [sz_len]; omega), if_pos this, if_neg (by have := g.sum; simp; omega)]
    simp (disch := omega) only [evs, ↓reduceIte, Nat.reduceEqDiff, Nat.reduceAdd, Nat.reduceMul, Nat.reduceLeDiff, Nat.reduceLT, Int.reduceNeg, DF, eff, Nat.reduceSub, fwrap_i64, g0, g3, g4, g5, g6, a2.len, hlt]
    refine OQ_does (LIns_ok F.wf (lo1.fr F) im bm (by rw [sz_len]; omega) (by rw [sy_len, sz_len]) (by omega) (by omega)) ?_
    rintro _ h6 ⟨rfl, F6, hlo⟩
    rw [xz, if_pos rfl] at hlo
    rw [xz]
    have F06 : FrF b h h6 := (frF (F1.then F)).trans F6
    have lo6 : Lo h6 b (sz L) (List.replicate L.length false) (sy L) := by simpa [sz_len] using hlo
    have a6 := a.frF' F06 w hb
    simp (disch := omega) only [evs, ↓reduceIte, Nat.reduceEqDiff, Nat.reduceAdd, Nat.reduceMul, Nat.reduceLeDiff, Nat.reduceLT, Int.reduceNeg, DF, eff, Nat.reduceSub, fwrap_i64, g0, g3, g4, g5, g6]
    refine W_loop (fun k env hh => ∃ (j : Nat), FrF b h hh ∧ env.get 0 = some v ∧ env.get 3 = some (.ptr b 0) ∧ env.get 7 = some (.int .i64 j) ∧ j ≤ L.length ∧ Lo hh b (sz L) ((ky L).take j ++ List.replicate (L.length - j) false) (sy L) ∧ k = L.length - j) L.length (by omega) ?_ ?_
    · exact ⟨0, F06, (by simp [T.get_set, g0]), (by simp [T.get_set, g3]), (by simp [T.get_set]), by omega, by simpa using lo6, rfl⟩
    rintro k env hh ⟨j, FF, g0, g3, g7, hj, lo, rfl⟩
    have a7 := (a.frF' FF w hb).rws
    by_cases hlt2 : (j : Int) < L.length
    · obtain ⟨bb, o, r, e1, e2, e3, e4, e5, e6⟩ := Rws.ix a7 j hlt2
      have rg := g.one r (List.mem_of_getElem? e6)
      have kg : (ky L)[j]? = some r.2.1 := by simp [ky, e6]
      have kl : (ky L).length = L.length := ky_len L
      cases hk : r.2.1
      · rw [hk] at e3 kg
        simp (disch := omega) only [evs, ↓reduceIte, Nat.reduceEqDiff, Nat.reduceAdd, Nat.reduceMul, Nat.reduceLeDiff, Nat.reduceLT, Int.reduceNeg, DF, eff, Nat.reduceSub, fwrap_i64, g0, g3, g7, a7.len, hlt2, e1, e3]
        have ee : (ky L).take (j + 1) ++ List.replicate (L.length - (j + 1)) false = (ky L).take j ++ List.replicate (L.length - j) false := by
          rw [List.take_add_one, kg, show L.length - j = (L.length - (j + 1)) + 1 by omega, List.replicate_succ]; simp
        refine (roundQ_norm _ _ _).2 ⟨L.length - (j + 1), by omega, j + 1, FF, (by simp [T.get_set, g0]), (by simp [T.get_set, g3]), (by simp [T.get_set]), by omega, by rw [ee]; exact lo, rfl⟩
        done
      · rw [hk] at e3 kg
        have sg := sz_get e6
        have sgd : (sz L).getD j 0 = r.1 := by simp [List.getD, sg]
        have gs := g.sum
        have xs : xsetE (sz L) j r.1 = 0 := by
          unfold xsetE
          rw [if_pos ⟨by omega, by rw [sz_len]; omega⟩, if_neg (by omega), Int.toNat_natCast, sgd, if_neg (by omega)]
        simp (disch := omega) only [evs, ↓reduceIte, Nat.reduceEqDiff, Nat.reduceAdd, Nat.reduceMul, Nat.reduceLeDiff, Nat.reduceLT, Int.reduceNeg, DF, eff, Nat.reduceSub, fwrap_i64, g0, g3, g7, a7.len, hlt2, e1, e3, e2]
        refine OQ_does (LSet_ok FF.wf lo (by omega) (by omega) (by omega) (by omega)) ?_
        rintro _ h8 ⟨rfl, lo8, F8⟩
        rw [xs, if_pos rfl] at lo8
        rw [xs]
        simp only [Int.toNat_natCast] at lo8
        have es : (sz L).set j r.1 = sz L := by
          apply List.ext_getElem?
          intro i
          rw [List.getElem?_set]
          by_cases c : j = i
          · subst c; rw [if_pos rfl, if_pos (by rw [sz_len]; omega), sg]
          · rw [if_neg c]
        have ek := rep_set (ky L) j true kg
        rw [kl] at ek
        rw [es, ek] at lo8
        simp (disch := omega) only [evs, ↓reduceIte, Nat.reduceEqDiff, Nat.reduceAdd, Nat.reduceMul, Nat.reduceLeDiff, Nat.reduceLT, Int.reduceNeg, DF, eff, Nat.reduceSub, fwrap_i64, g0, g3, g7]
        refine (roundQ_norm _ _ _).2 ⟨L.length - (j + 1), by omega, j + 1, FF.trans F8, (by simp [T.get_set, g0]), (by simp [T.get_set, g3]), (by simp [T.get_set]), by omega, lo8, rfl⟩
        done
    · have ej : j = L.length := by omega
      subst ej
      rw [← ky_len L, List.take_length, Nat.sub_self, List.replicate_zero, List.append_nil] at lo
      simp (disch := omega) only [evs, ↓reduceIte, Nat.reduceEqDiff, Nat.reduceAdd, Nat.reduceMul, Nat.reduceLeDiff, Nat.reduceLT, Int.reduceNeg, DF, eff, Nat.reduceSub, fwrap_i64, g0, g3, g7, a7.len, hlt2]
      exact ⟨b, rfl, hb, lo, FF⟩
end Go.Ev.Lay

/- The law's helpers: same, ints. -/
namespace Go.Ev.Lay
set_option maxRecDepth 4000
theorem seq_same (a : Int) (b c : Bool) : aP (.seq true [0, 1, 1]) [.agg [.int .i64 a, .bool b, .bool c], .agg [.int .i64 a, .bool b, .bool c]] = some (.bool false) := by
  have h1 : ieq a a = true := by rw [ieq_eq]; simp
  simp only [aP, cmpL, kbeq_self, h1, cond_true, Bool.xor_self, cond_false, Option.map_some, Bool.not_true]
theorem same_ok {h : Heap} {b : Nat} {v : V} {L : List (Int × Bool × Bool)} (w : WF h) (lo : Lo h b (sz L) (ky L) (sy L)) (a : Rws h v L) (g : Good L) : Does go 17 [.ptr b 0, v] h fun u h' => u = .int .i64 1 ∧ Fr [] h h' := by
  have fit := g.fit
  have gl := g.len
  refine does_fn g17 rfl ?_
  simp (disch := omega) only [fn17, evs, ↓reduceIte, Nat.reduceEqDiff, Nat.reduceAdd, Nat.reduceMul, Nat.reduceLeDiff, Nat.reduceLT, Int.reduceNeg, DF, eff, Nat.reduceSub, fwrap_i64]
  refine OQ_does (LLen_ok w lo) ?_
  rintro _ h1 ⟨rfl, F1⟩
  have a1 := Recs.fr a F1
  rw [sz_len]
  simp (disch := omega) only [evs, ↓reduceIte, Nat.reduceEqDiff, Nat.reduceAdd, Nat.reduceMul, Nat.reduceLeDiff, Nat.reduceLT, Int.reduceNeg, DF, eff, Nat.reduceSub, fwrap_i64, a1.len]
  refine OQ_does (LTotal_ok F1.wf (lo.fr F1)) ?_
  rintro _ h2 ⟨rfl, F2⟩
  have F12 := F1.then F2
  simp (disch := omega) only [evs, ↓reduceIte, Nat.reduceEqDiff, Nat.reduceAdd, Nat.reduceMul, Nat.reduceLeDiff, Nat.reduceLT, Int.reduceNeg, DF, eff, Nat.reduceSub, fwrap_i64]
  refine OQ_does (rTotal_ok (Recs.fr a F12) fit) ?_
  rintro _ _ ⟨rfl, hh⟩
  replace hh := hh.symm
  subst hh
  simp (disch := omega) only [evs, ↓reduceIte, Nat.reduceEqDiff, Nat.reduceAdd, Nat.reduceMul, Nat.reduceLeDiff, Nat.reduceLT, Int.reduceNeg, DF, eff, Nat.reduceSub, fwrap_i64]
  refine W_loop (fun k env hh => ∃ j : Nat, Fr [] h hh ∧ env.get 0 = some (.ptr b 0) ∧ env.get 1 = some v ∧ env.get 5 = some (.int .i64 j) ∧ j ≤ L.length ∧ k = L.length - j) L.length (by omega) ?_ ?_
  · exact ⟨0, F12, (by simp [T.get_set]), (by simp [T.get_set]), (by simp [T.get_set]), by omega, rfl⟩
  rintro k env hh ⟨j, F, g0, g1, g5, hj, rfl⟩
  have a2 := Recs.fr a F
  by_cases hlt : (j : Int) < L.length
  · obtain ⟨bb, o, r, e1, e2, e3, e4, e5, e6⟩ := Rws.ix a2 j hlt
    have sg : (sz L).getD j 0 = r.1 := by have := sz_get e6; simp [List.getD, this]
    have kg : (ky L).getD j false = r.2.1 := by simp [ky, List.getD, e6]
    have yg := sy_get e6
    simp (disch := omega) only [evs, ↓reduceIte, Nat.reduceEqDiff, Nat.reduceAdd, Nat.reduceMul, Nat.reduceLeDiff, Nat.reduceLT, Int.reduceNeg, DF, eff, Nat.reduceSub, fwrap_i64, g0, g1, g5, a2.len, hlt]
    refine OQ_does (LSize_ok F.wf (lo.fr F)) ?_
    rintro _ h3 ⟨rfl, F3⟩
    rw [if_pos ⟨by omega, by rw [sz_len]; omega⟩, Int.toNat_natCast, sg]
    have F03 := F.then F3
    simp (disch := omega) only [evs, ↓reduceIte, Nat.reduceEqDiff, Nat.reduceAdd, Nat.reduceMul, Nat.reduceLeDiff, Nat.reduceLT, Int.reduceNeg, DF, eff, Nat.reduceSub, fwrap_i64, g0, g1, g5]
    refine OQ_does (LKnown_ok F3.wf (lo.fr F03)) ?_
    rintro _ h4 ⟨rfl, F4⟩
    rw [if_pos ⟨by omega, by rw [sz_len]; omega⟩, Int.toNat_natCast, kg]
    have F04 := F03.then F4
    simp (disch := omega) only [evs, ↓reduceIte, Nat.reduceEqDiff, Nat.reduceAdd, Nat.reduceMul, Nat.reduceLeDiff, Nat.reduceLT, Int.reduceNeg, DF, eff, Nat.reduceSub, fwrap_i64, g0, g1, g5]
    refine OQ_does (LSticky_ok F4.wf (lo.fr F04) (by omega) (by omega)) ?_
    rintro _ h5 ⟨rfl, F5⟩
    rw [if_pos ⟨by omega, by rw [sz_len]; omega⟩, Int.toNat_natCast, yg]
    have F05 := F04.then F5
    simp (disch := omega) only [evs, ↓reduceIte, Nat.reduceEqDiff, Nat.reduceAdd, Nat.reduceMul, Nat.reduceLeDiff, Nat.reduceLT, Int.reduceNeg, DF, eff, Nat.reduceSub, fwrap_i64, g0, g1, g5]
    refine OQ_does (LTop_ok F5.wf (lo.fr F05)) ?_
    rintro _ h6 ⟨rfl, F6⟩
    rw [if_pos ⟨by omega, by rw [sz_len]; omega⟩, Int.toNat_natCast]
    have F06 := F05.then F6
    have a6 := Recs.fr a F06
    simp (disch := omega) only [evs, ↓reduceIte, Nat.reduceEqDiff, Nat.reduceAdd, Nat.reduceMul, Nat.reduceLeDiff, Nat.reduceLT, Int.reduceNeg, DF, eff, Nat.reduceSub, fwrap_i64, g0, g1, g5]
    refine OQ_does (rTop_ok a6 fit (by omega)) ?_
    rintro _ _ ⟨rfl, hh⟩
    replace hh := hh.symm
    subst hh
    obtain ⟨bb', o', r', d1, d2, d3, d4, d5, d6⟩ := Rws.ix a6 j hlt
    rw [e6] at d6; cases d6
    simp (disch := omega) only [evs, ↓reduceIte, Nat.reduceEqDiff, Nat.reduceAdd, Nat.reduceMul, Nat.reduceLeDiff, Nat.reduceLT, Int.reduceNeg, DF, eff, Nat.reduceSub, fwrap_i64, g0, g1, g5, d1, d5, seq_same]
    refine (roundQ_norm _ _ _).2 ⟨L.length - (j + 1), by omega, j + 1, F06, (by simp [T.get_set, g0]), (by simp [T.get_set, g1]), (by simp [T.get_set]), by omega, rfl⟩
    done
  · simp (disch := omega) only [evs, ↓reduceIte, Nat.reduceEqDiff, Nat.reduceAdd, Nat.reduceMul, Nat.reduceLeDiff, Nat.reduceLT, Int.reduceNeg, DF, eff, Nat.reduceSub, fwrap_i64, g0, g1, g5, a2.len, hlt]
    exact F
end Go.Ev.Lay

/- The plain law of LayoutsSee. -/
namespace Go.Ev.Lay
theorem cnt_take_succ {bs : List Bool} {p : Nat} (h : bs.getD p false = true) : (bs.take (p + 1)).count true = (bs.take p).count true + 1 := by
  rw [List.take_add_one]
  cases hb : bs[p]? with
  | none => simp [List.getD, hb] at h
  | some x => simp [List.getD, hb] at h; subst h; simp
theorem cnt_mono (bs : List Bool) {p q : Nat} (h : p ≤ q) : (bs.take p).count true ≤ (bs.take q).count true := by
  have : bs.take p = (bs.take q).take p := by rw [List.take_take, Nat.min_eq_left h]
  rw [this]
  exact List.Sublist.count_le _ (List.take_sublist _ _)
theorem Sel.uniq {bs : List Bool} {k p q : Nat} (a : Sel bs k p) (b : Sel bs k q) : p = q := by
  obtain ⟨_, a2, a3⟩ := a
  obtain ⟨_, b2, b3⟩ := b
  rcases Nat.lt_trichotomy p q with h | h | h
  · have := cnt_mono bs (show p + 1 ≤ q by omega); rw [cnt_take_succ a2] at this; omega
  · exact h
  · have := cnt_mono bs (show q + 1 ≤ p by omega); rw [cnt_take_succ b2] at this; omega
end Go.Ev.Lay

/- LayoutsSee: a round. -/
namespace Go.Ev.Lay
set_option maxRecDepth 4000
structure Hp (h : Heap) (b fb : Nat) (v : V) (L : List (Int × Bool × Bool)) (view over : Int) : Prop where
  wf : WF h
  glb : Glb h
  lo : Lo h b (sz L) (ky L) (sy L)
  fo : Own h fb [.int .i64 view, .int .i64 over, .bool false]
  rw : Rws h v L
  good : Good L
  v1 : 1 ≤ view
  v2 : view ≤ 300
  o0 : 0 ≤ over
  o1 : over ≤ 16
theorem Hp.fr {h h' : Heap} {b fb : Nat} {v : V} {L : List (Int × Bool × Bool)} {view over : Int} (H : Hp h b fb v L view over) (F : Fr [] h h') : Hp h' b fb v L view over :=
  ⟨F.wf, H.glb.fr F, H.lo.fr F, F.get H.fo, Recs.fr H.rw F, H.good, H.v1, H.v2, H.o0, H.o1⟩
end Go.Ev.Lay

/- LayoutsSee. -/
namespace Go.Ev.Lay
set_option maxRecDepth 4000
theorem lives_ok {h : Heap} (g : Glb h) : Does go 20 [] h fun u h' => u = .bool true ∧ h' = h :=
  ⟨.bool true, h, ev_ov noLives rfl (by unfold lov; rw [if_pos ⟨rfl, rfl, g⟩]), rfl, rfl⟩
theorem sum_le : ∀ (l : List Int) (k : Int), (∀ x ∈ l, x ≤ k) → l.sum ≤ l.length * k
  | [], k, _ => by simp
  | x :: l, k, h => by
    have h1 := h x (by simp)
    have h2 := sum_le l k fun y hy => h y (by simp [hy])
    simp only [List.sum_cons, List.length_cons]
    rw [show ((l.length + 1 : Nat) : Int) = (l.length : Int) + 1 by omega, Int.add_mul]; omega
theorem good_rows (ps : List (Nat × Nat)) : Good ((ps.take 30).map mkRow) := by
  have hl : ((ps.take 30).map mkRow).length ≤ 30 := by simp; omega
  refine ⟨by omega, ?_, ?_⟩
  · intro r hr
    simp only [List.mem_map] at hr
    obtain ⟨p, _, rfl⟩ := hr
    simp only [mkRow]
    omega
  · have := sum_le (sz ((ps.take 30).map mkRow)) 128 (fun x hx => by
      simp only [sz, List.mem_map] at hx
      obtain ⟨r, ⟨p, _, rfl⟩, rfl⟩ := hx
      simp only [mkRow]
      omega)
    rw [sz_len] at this
    omega
theorem tabc_noflc : ∀ n m ws, ws.length = 64 → tabc ≠ flc n m ws := by
  intro n m ws hl e
  have := congrArg List.length e
  simp [flc, hl, tabc] at this
  exact absurd this (by decide)
theorem Glb.frF {h h' : Heap} {b : Nat} (g : Glb h) (f : FrF b h h') (hb : 0 ≠ b) : Glb h' := f.pl _ _ hb tabc_noflc g
end Go.Ev.Lay

/- Layouts: Copy, Mark. -/
namespace Go.Ev.Lay
set_option maxRecDepth 4000
theorem fCopy_ok {h : Heap} {b : Nat} {bs : List Bool} (w : WF h) (f : Fl h b bs) : Does go 68 [.ptr b 0] h fun u h' => ∃ c, u = .ptr c 0 ∧ h.next ≤ c ∧ Fl h' c bs ∧ Fr [] h h' := by
  obtain ⟨ws, o, ok, hn⟩ := f
  have q2 : hload h b 0 66 = some (flc (bs.length : Int) (bs.count true : Int) ws) := by
    rw [o.ld, dropL_eq, takeL_at _ _ (by simp [flc_len, ok.len])]
    rw [List.drop_zero, List.take_of_length_le (by simp [flc_len, ok.len])]
  have lf : (flc (bs.length : Int) (bs.count true : Int) ws).length = 66 := by simp [flc_len, ok.len]
  have on : onesB (flc (bs.length : Int) (bs.count true : Int) ws) = true := by
    unfold flc
    have : ∀ l : List Nat, onesB (l.map uw) = true := fun l => by induction l with
      | nil => rfl
      | cons x l ih => simp only [List.map_cons]; rw [onesB]; simp [uw, V.one, ih]
    rw [onesB_cons, onesB_cons, this]; rfl
  refine does_fn g68 rfl ?_
  simp (disch := omega) only [fn68, evs, ↓reduceIte, Nat.reduceEqDiff, Nat.reduceAdd, Nat.reduceMul, Nat.reduceLeDiff, Nat.reduceLT, Int.reduceNeg, DF, eff, Nat.reduceSub, fwrap_i64, q2]
  refine store_step (c' := flc (bs.length : Int) (bs.count true : Int) ws) (Fr.halloc w _).wf (Own.new w _) lf on (by rw [updO_at _ _ _ (by rw [V.cells, lf]; simp)]; simp [V.cells, lf]) ?_
  rintro h3 o3 F3 n3
  simp (disch := omega) only [evs, ↓reduceIte, Nat.reduceEqDiff, Nat.reduceAdd, Nat.reduceMul, Nat.reduceLeDiff, Nat.reduceLT, Int.reduceNeg, DF, eff, Nat.reduceSub, fwrap_i64]
  exact ⟨h.next, rfl, Nat.le_refl _, ⟨ws, o3, ok, hn⟩, (Fr.halloc w _).fresh F3 w (Nat.le_refl _)⟩
end Go.Ev.Lay
