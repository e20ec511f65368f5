/- An evaluator of the program and contracts proved over it: the texts LaySl LaySm LaySn LaySo LaySp LaySq LaySr. -/
import Derived.Test.YtfhplbpjpmaoiaaGreatDoorP14
set_option linter.unusedSimpArgs false
set_option linter.unusedVariables false
set_option linter.constructorNameAsVariable false
/- Layouts: what changes, one block at a time. -/
namespace Go.Ev.Lay
set_option maxRecDepth 4000
/-- a layout, with the block of its marks -/
def LoP (h : Heap) (b : Nat) (pm : Option Nat) (l : List Int) (ks bs : List Bool) : Prop := ∃ p vk, Own h b [pv p, vk, pv pm] ∧ vk.one = true ∧ Ix h (.agg [pv p, vk]) l ks ∧ Mk h pm bs ∧ bs.length = l.length
theorem LoP.lo {h : Heap} {b : Nat} {pm : Option Nat} {l : List Int} {ks bs : List Bool} (a : LoP h b pm l ks bs) : Lo h b l ks bs := by
  obtain ⟨p, vk, x⟩ := a; exact ⟨p, vk, pm, x⟩
theorem Lo.p {h : Heap} {b : Nat} {l : List Int} {ks bs : List Bool} (a : Lo h b l ks bs) : ∃ pm, LoP h b pm l ks bs := by
  obtain ⟨p, vk, pm, x⟩ := a; exact ⟨pm, p, vk, x⟩
theorem LoP.fr {h h' : Heap} {b : Nat} {pm : Option Nat} {l : List Int} {ks bs : List Bool} (a : LoP h b pm l ks bs) (f : Fr [] h h') : LoP h' b pm l ks bs := by
  obtain ⟨p, vk, o, v1, ix, mk, e⟩ := a; exact ⟨p, vk, f.get o, v1, ix.fr f, mk.fr f, e⟩
/-- what is neither the layout's block nor its marks' stays -/
abbrev FrQ (b : Nat) (pm : Option Nat) (h h' : Heap) : Prop := Fr (b :: pm.toList) h h'
theorem frQ {h h' : Heap} {b : Nat} {pm : Option Nat} (f : Fr [] h h') : FrQ b pm h h' := ⟨f.next, f.wf, fun _ _ _ o => f.get o, fun _ _ _ o => f.pl _ _ (by simp) o, f.lp, f.ro⟩
theorem FrQ.b {h h1 h2 : Heap} {b : Nat} {pm : Option Nat} (a : FrQ b pm h h1) (f : Fr [b] h1 h2) (w : WF h) : FrQ b pm h h2 := Fr.trans a f w (fun x hx => .inl hx) (fun x hx => .inl (by simp at hx; simp [hx]))
theorem FrQ.q {h h1 h2 : Heap} {b q : Nat} {pm : Option Nat} (a : FrQ b pm h h1) (f : Fr [q] h1 h2) (w : WF h) (hq : pm = some q ∨ h.next ≤ q) : FrQ b pm h h2 := by
  refine Fr.trans a f w (fun x hx => .inl hx) (fun x hx => ?_)
  simp at hx; subst hx
  rcases hq with e | e
  · left; simp [e]
  · exact .inr e
theorem FrQ.then {h h1 h2 : Heap} {b : Nat} {pm : Option Nat} (a : FrQ b pm h h1) (f : Fr [] h1 h2) (w : WF h) : FrQ b pm h h2 := Fr.trans a f w (fun x hx => .inl hx) (by simp)
theorem LInsQ_ok {h : Heap} {b : Nat} {pm : Option Nat} {l m : List Int} {ks bs st : List Bool} {i : Int} {u v : V} (w : WF h) (a : LoP h b pm l ks bs) (am : Ints h u m) (as : Bools h v st) (hm : m.length ≤ 1000000) (hst : st.length = m.length) (i0 : -9223372036854775808 ≤ i) (i1 : i ≤ 9223372036854775807) :
    Does go 9 [.ptr b 0, .int .i64 i, u, v] h fun z h' => z = .int .i64 (xinsE l i m) ∧ FrQ b pm h h' ∧ ∃ pm', (pm' = pm ∨ (pm = none ∧ ∀ q, pm' = some q → h.next ≤ q)) ∧ (if xinsE l i m = 0 then LoP h' b pm' (l.take i.toNat ++ m ++ l.drop i.toNat) (ks.take i.toNat ++ List.replicate m.length false ++ ks.drop i.toNat) (bs.take i.toNat ++ st ++ bs.drop i.toNat) else LoP h' b pm' l ks bs) := by
  have al := a
  obtain ⟨p, vk, o, v1, ix, mk, e⟩ := a
  have hle : ((m.length : Nat) : Int) = st.length := by omega
  refine does_fn g9 rfl ?_
  simp (disch := omega) only [fn9, evs, ↓reduceIte, Nat.reduceEqDiff, Nat.reduceAdd, Nat.reduceMul, Nat.reduceLeDiff, Nat.reduceLT, Int.reduceNeg, DF, eff, Nat.reduceSub, fwrap_i64, am.len, as.len, eq_true hle, o.ld]
  refine OQ_does (XIns_ok w ix am hm i0 i1) ?_
  rintro _ h1 ⟨F1, c, d, rfl, hc, hd, hx⟩
  obtain ⟨h2, e_h2⟩ : ∃ h2, h2 = halloc h1 [.nilp, .nils] := ⟨_, rfl⟩
  have F_h2 : Fr [] h1 h2 := e_h2 ▸ Fr.halloc F1.wf _
  have o_h2 : Own h2 h1.next [.nilp, .nils] := e_h2 ▸ Own.new F1.wf _
  simp (disch := omega) only [evs, ↓reduceIte, Nat.reduceEqDiff, Nat.reduceAdd, Nat.reduceMul, Nat.reduceLeDiff, Nat.reduceLT, Int.reduceNeg, DF, eff, Nat.reduceSub, fwrap_i64, ← e_h2]
  refine store_step (c' := [c, d]) F_h2.wf o_h2 rfl (by simp [onesB, V.cells, hc, hd]) rfl ?_
  rintro h3 o3 F3 n3
  have F13 : Fr [] h1 h3 := F_h2.fresh F3 F1.wf (Nat.le_refl _)
  have F03 := F1.then F13
  by_cases z : xinsE l i m = 0
  · have ix' := hx z
    obtain ⟨p', rfl⟩ := ix'.form
    have hi : 0 ≤ i ∧ i ≤ l.length ∧ l.length + m.length ≤ 1024 := by
      unfold xinsE at z
      by_cases c1 : 0 ≤ i ∧ i ≤ l.length
      · rw [if_pos c1] at z
        by_cases c2 : 1024 - (l.length : Int) < m.length
        · rw [if_pos c2] at z; omega
        · omega
      · rw [if_neg c1] at z; omega
    by_cases c0 : (m.length : Int) = 0
    · have hm0 : m = [] := List.length_eq_zero_iff.1 (by omega)
      have hs0 : st = [] := List.length_eq_zero_iff.1 (by omega)
      subst hm0 hs0
      simp (disch := omega) only [evs, ↓reduceIte, Nat.reduceEqDiff, Nat.reduceAdd, Nat.reduceMul, Nat.reduceLeDiff, Nat.reduceLT, Int.reduceNeg, DF, eff, Nat.reduceSub, fwrap_i64, eq_true z, am.len, eq_true c0]
      refine ⟨frQ F03, pm, .inl rfl, ?_⟩
      simpa using al.fr F03
    · obtain ⟨k, rfl⟩ : ∃ k : Nat, i = k := ⟨i.toNat, by omega⟩
      simp only [Int.toNat_natCast] at hx ix' ⊢
      have blt : b < h1.next := Nat.lt_of_lt_of_le (o.lt w) F1.next
      have niv := ix.noint
      have nbv := ix.nobool
      -- the marks are there
      cases pm
      case' none =>
        have mk : bs = [] := mk
        simp (disch := omega) only [evs, ↓reduceIte, Nat.reduceEqDiff, Nat.reduceAdd, Nat.reduceMul, Nat.reduceLeDiff, Nat.reduceLT, Int.reduceNeg, DF, eff, Nat.reduceSub, fwrap_i64, eq_true z, am.len, eq_false c0, (F03.get o).ld1, pv_none]
        refine OQ_does (fNew_ok F13.wf) ?_
        rintro _ h4 ⟨q, rfl, hq, fl4, F4⟩
        simp (disch := omega) only [evs, ↓reduceIte, Nat.reduceEqDiff, Nat.reduceAdd, Nat.reduceMul, Nat.reduceLeDiff, Nat.reduceLT, Int.reduceNeg, DF, eff, Nat.reduceSub, fwrap_i64, (F03.get o).ld1]
        have F04 := F03.then F4
        refine store_step (c' := [pv p, vk, .ptr q 0]) F4.wf (F04.get o) rfl rfl rfl ?_
        rintro H oH F5 n5
        have FH : FrQ b none h H := (frQ F04).b F5 w
        have hqq : (none : Option Nat) = some q ∨ h.next ≤ q := .inr (Nat.le_trans F03.next hq)
        have hpq : some q = (none : Option Nat) ∨ ((none : Option Nat) = none ∧ ∀ q', some q = some q' → h.next ≤ q') := .inr ⟨rfl, fun q' e => by cases e; exact Nat.le_trans F03.next hq⟩
        have flH : Fl H q bs := Mk.frb (pm := some q) (show Mk h4 (some q) bs from mk ▸ fl4) F5 (F04.get o) rfl
        have ixH := (ix'.fr (F13.then F4)).frb F5 (F04.get o) (by simp) (nosp (noInt niv))
        have oxH := F5.own _ _ (by simp; omega) (F4.get o3)
        have stH := Bools.frl (as.fr F04) F5 (F04.get o) oH (nobool nbv) rfl
        have wfH := F5.wf
        simp (disch := omega) only [evs, ↓reduceIte, Nat.reduceEqDiff, Nat.reduceAdd, Nat.reduceMul, Nat.reduceLeDiff, Nat.reduceLT, Int.reduceNeg, DF, eff, Nat.reduceSub, fwrap_i64, oH.ld1, am.len]
      case' some q =>
        have flH : Fl h3 q bs := Fl.fr mk F03
        obtain ⟨H, eH⟩ : ∃ H, H = h3 := ⟨h3, rfl⟩
        have oH : Own H b [pv p, vk, .ptr q 0] := eH ▸ F03.get o
        have FH : FrQ b (some q) h H := eH ▸ frQ F03
        have hqq : some q = some q ∨ h.next ≤ q := .inl rfl
        have hpq : some q = some q ∨ (some q = none ∧ ∀ q', some q = some q' → h.next ≤ q') := .inl rfl
        have ixH := eH ▸ ix'.fr F13
        have oxH := eH ▸ o3
        have stH := eH ▸ as.fr F03
        have wfH : WF H := eH ▸ F13.wf
        rw [← eH] at flH
        simp (disch := omega) only [evs, ↓reduceIte, Nat.reduceEqDiff, Nat.reduceAdd, Nat.reduceMul, Nat.reduceLeDiff, Nat.reduceLT, Int.reduceNeg, DF, eff, Nat.reduceSub, fwrap_i64, eq_true z, am.len, eq_false c0, (F03.get o).ld1, pv_some]
        rw [← eH]
      all_goals
        have qb : q ≠ b := by
          rintro rfl
          obtain ⟨ws, oq, ok, _⟩ := flH
          have := congrArg List.length (oq.uniq oH)
          rw [flc_len, ok.len] at this; simp at this
        refine OQ_does (fIns_ok (a := k) (n := m.length) (v := false) wfH flH (by omega) (by omega)) ?_
        rintro _ h6 ⟨rfl, fl6, F6⟩
        have o6b := F6.own _ _ (by simp; omega) oH
        have ix6 := ixH.frf F6 flH
        have qx : q ≠ h1.next := by
          rintro rfl
          obtain ⟨ws, oq, ok, _⟩ := flH
          have := congrArg List.length (oq.uniq oxH)
          rw [flc_len, ok.len] at this; simp at this
        have ox6 := F6.own _ _ (by simp; omega) oxH
        have st6 : Bools h6 v st := by
          obtain ⟨ws, oq, ok, _⟩ := flH
          obtain ⟨ws', oq', ok', _⟩ := fl6
          exact Bools.frb stH F6 oq oq' (by rw [ok'.len, ok.len])
        simp (disch := omega) only [evs, ↓reduceIte, Nat.reduceEqDiff, Nat.reduceAdd, Nat.reduceMul, Nat.reduceLeDiff, Nat.reduceLT, Int.reduceNeg, DF, eff, Nat.reduceSub, fwrap_i64, ox6.ld]
        refine store_step (c' := [pv p', d, .ptr q 0]) F6.wf o6b rfl (by simp [onesB, V.cells, hc, hd]) rfl ?_
        rintro h7 o7 F7 n7
        have fl7 : Fl h7 q _ := Mk.frb (pm := some q) fl6 F7 o6b rfl
        have ix7 := ix6.frb F7 o6b (by simp) (nosp (noInt (pm := some q) niv))
        have st7 := Bools.frl st6 F7 o6b o7 (nobool (pm := some q) nbv) rfl
        have F07 := (FH.q F6 w hqq).b F7 w
        simp (disch := omega) only [evs, ↓reduceIte, Nat.reduceEqDiff, Nat.reduceAdd, Nat.reduceMul, Nat.reduceLeDiff, Nat.reduceLT, Int.reduceNeg, DF, eff, Nat.reduceSub, fwrap_i64, st7.len]
        obtain ⟨PP, hPP, hPq, hPw, hP0⟩ : ∃ PP : Heap → Prop, PP h7 ∧ (∀ h1 h2, PP h1 → Fr [q] h1 h2 → PP h2) ∧ (∀ h1, PP h1 → WF h1) ∧ (∀ h1, PP h1 → FrQ b _ h h1) := ⟨_, F07, fun h1 h2 x f => FrQ.q x f w hqq, fun h1 x => Fr.wf x, fun h1 x => x⟩
        refine W_loop (fun n env hh => ∃ j : Nat, env.get 71 = some (.int .i64 j) ∧ env.get 70 = some (.int .i64 st.length) ∧ env.get 69 = some v ∧ env.get 0 = some (.ptr b 0) ∧ env.get 1 = some (.int .i64 k) ∧ j ≤ st.length ∧ PP hh ∧
          Own hh b [pv p', d, .ptr q 0] ∧ Fl hh q (bs.take k ++ (st.take j ++ List.replicate (st.length - j) false) ++ bs.drop k) ∧ Ix hh (.agg [pv p', d]) (l.take k ++ m ++ l.drop k) (ks.take k ++ List.replicate m.length false ++ ks.drop k) ∧ Bools hh v st ∧ n = st.length - j) st.length (by omega) ?_ ?_
        · exact ⟨0, (by simp [T.get_set]), (by simp [T.get_set]), (by simp [T.get_set]), (by simp [T.get_set]), (by simp [T.get_set]), by omega, hPP, o7, by simpa [hst] using fl7, ix7, st7, rfl⟩
        · rintro n env hh ⟨j, g71, g70, g69, g0, g1, hj, FF, oo, ff, ii, ss, rfl⟩
          by_cases hlt : (j : Int) < st.length
          · obtain ⟨bb, oo', x, q1, q2, q3⟩ := ss.ix .i64 j (by omega) hlt
            simp only [Int.toNat_natCast] at q3
            cases x
            · simp (disch := omega) only [evs, ↓reduceIte, Nat.reduceEqDiff, Nat.reduceAdd, Nat.reduceMul, Nat.reduceLeDiff, Nat.reduceLT, Int.reduceNeg, DF, eff, Nat.reduceSub, fwrap_i64, g71, g70, g69, g0, g1, hlt, q1, q2]
              rw [ins_false q3] at ff
              refine (roundQ_norm _ _ _).2 ⟨st.length - (j + 1), by omega, j + 1, (by simp [T.get_set]), (by simp [T.get_set, g70]), (by simp [T.get_set, g69]), (by simp [T.get_set, g0]), (by simp [T.get_set, g1]), by omega, FF, oo, ff, ii, ss, rfl⟩
              done
            · simp (disch := omega) only [evs, ↓reduceIte, Nat.reduceEqDiff, Nat.reduceAdd, Nat.reduceMul, Nat.reduceLeDiff, Nat.reduceLT, Int.reduceNeg, DF, eff, Nat.reduceSub, fwrap_i64, g71, g70, g69, g0, g1, hlt, q1, q2, oo.ld1]
              refine OQ_does (fSet_ok (hPw _ FF) ff (by omega) (by omega)) ?_
              rintro _ h8 ⟨rfl, f8, F8, n8⟩
              have lf : (k : Int) + j < ((bs.take k ++ (st.take j ++ List.replicate (st.length - j) false) ++ bs.drop k).length : Nat) := by simp; omega
              rw [if_pos ⟨by omega, lf⟩, show ((k : Int) + j).toNat = k + j by omega, ins_set (by omega) _ q3] at f8
              simp (disch := omega) only [evs, ↓reduceIte, Nat.reduceEqDiff, Nat.reduceAdd, Nat.reduceMul, Nat.reduceLeDiff, Nat.reduceLT, Int.reduceNeg, DF, eff, Nat.reduceSub, fwrap_i64, g71, g70, g69, g0, g1]
              have o8 := F8.own _ _ (by simp; omega) oo
              have s8 : Bools h8 v st := by
                obtain ⟨ws, oq, ok, _⟩ := ff
                obtain ⟨ws', oq', ok', _⟩ := f8
                exact Bools.frb ss F8 oq oq' (by rw [ok'.len, ok.len])
              refine (roundQ_norm _ _ _).2 ⟨st.length - (j + 1), by omega, j + 1, (by simp [T.get_set]), (by simp [T.get_set, g70]), (by simp [T.get_set, g69]), (by simp [T.get_set, g0]), (by simp [T.get_set, g1]), by omega, hPq _ _ FF F8, o8, f8, ii.frf F8 ff, s8, rfl⟩
              done
          · simp (disch := omega) only [evs, ↓reduceIte, Nat.reduceEqDiff, Nat.reduceAdd, Nat.reduceMul, Nat.reduceLeDiff, Nat.reduceLT, Int.reduceNeg, DF, eff, Nat.reduceSub, fwrap_i64, g71, g70, g69, g0, g1, hlt]
            have ej : j = st.length := by omega
            subst ej
            simp only [List.take_length, Nat.sub_self, List.replicate_zero, List.append_nil] at ff
            refine ⟨by first | rw [z] | trivial, hP0 _ FF, some q, (by first | exact hpq | simpa using hpq), ?_⟩
            try rw [if_pos z]
            exact ⟨p', d, oo, hd, ii, ff, by simp; omega⟩
  · simp (disch := omega) only [evs, ↓reduceIte, Nat.reduceEqDiff, Nat.reduceAdd, Nat.reduceMul, Nat.reduceLeDiff, Nat.reduceLT, Int.reduceNeg, DF, eff, Nat.reduceSub, fwrap_i64, eq_false z]
    exact ⟨frQ F03, pm, .inl rfl, al.fr F03⟩
theorem LoP.qb {h : Heap} {b q : Nat} {l : List Int} {ks bs : List Bool} (a : LoP h b (some q) l ks bs) : b ≠ q := by
  obtain ⟨p, vk, o, v1, ix, mk, e⟩ := a
  rintro rfl
  obtain ⟨ws, oq, ok, _⟩ := (mk : Fl h b bs)
  have := congrArg List.length (oq.uniq o)
  rw [flc_len, ok.len] at this; simp at this
theorem LSetQ_ok {h : Heap} {b : Nat} {pm : Option Nat} {l : List Int} {ks bs : List Bool} {i size : Int} {kn : Bool} (w : WF h) (a : LoP h b pm l ks bs) (s0 : -9223372036854775808 ≤ size) (s1 : size ≤ 9223372036854775807) (i0 : -9223372036854775808 ≤ i) (i1 : i ≤ 9223372036854775807) :
    Does go 40 [.ptr b 0, .int .i64 i, .int .i64 size, .bool kn] h fun u h' => u = .int .i64 (xsetE l i size) ∧ (if xsetE l i size = 0 then LoP h' b pm (l.set i.toNat size) (ks.set i.toNat kn) bs else LoP h' b pm l ks bs) ∧ FrQ b pm h h' := by
  have al := a
  obtain ⟨p, vk, o, v1, ix, mk, e⟩ := a
  refine does_fn g40 rfl ?_
  simp (disch := omega) only [fn40, evs, ↓reduceIte, Nat.reduceEqDiff, Nat.reduceAdd, Nat.reduceMul, Nat.reduceLeDiff, Nat.reduceLT, Int.reduceNeg, DF, eff, Nat.reduceSub, fwrap_i64, o.ld]
  refine OQ_does (XSet_ok w ix s0 s1 i0 i1) ?_
  rintro _ h1 ⟨F1, c, d, rfl, hc, hd, hx⟩
  obtain ⟨h2, e_h2⟩ : ∃ h2, h2 = halloc h1 [.nilp, .nils] := ⟨_, rfl⟩
  have F_h2 : Fr [] h1 h2 := e_h2 ▸ Fr.halloc F1.wf _
  have o_h2 : Own h2 h1.next [.nilp, .nils] := e_h2 ▸ Own.new F1.wf _
  simp (disch := omega) only [evs, ↓reduceIte, Nat.reduceEqDiff, Nat.reduceAdd, Nat.reduceMul, Nat.reduceLeDiff, Nat.reduceLT, Int.reduceNeg, DF, eff, Nat.reduceSub, fwrap_i64, ← e_h2]
  refine store_step (c' := [c, d]) F_h2.wf o_h2 rfl (by simp [onesB, V.cells, hc, hd]) rfl ?_
  rintro h3 o3 F3 n3
  have F13 : Fr [] h1 h3 := F_h2.fresh F3 F1.wf (Nat.le_refl _)
  have F03 := F1.then F13
  by_cases z : xsetE l i size = 0
  · simp (disch := omega) only [evs, ↓reduceIte, Nat.reduceEqDiff, Nat.reduceAdd, Nat.reduceMul, Nat.reduceLeDiff, Nat.reduceLT, Int.reduceNeg, DF, eff, Nat.reduceSub, fwrap_i64, eq_true z, o3.ld]
    refine store_step (c' := [c, d, pv pm]) F13.wf (F03.get o) rfl (by simp [onesB, V.cells, hc, hd]) rfl ?_
    rintro h4 o4 F4 n4
    simp (disch := omega) only [evs, ↓reduceIte, Nat.reduceEqDiff, Nat.reduceAdd, Nat.reduceMul, Nat.reduceLeDiff, Nat.reduceLT, Int.reduceNeg, DF, eff, Nat.reduceSub, fwrap_i64]
    have ix' := hx z
    obtain ⟨p', rfl⟩ := ix'.form
    exact ⟨⟨p', d, o4, hd, (ix'.fr F13).frb F4 (F03.get o) (by simp) (nosp (noInt ix.noint)), (mk.fr F03).frb F4 (F03.get o) rfl, by simpa using e⟩, (frQ F03).b F4 w⟩
  · simp (disch := omega) only [evs, ↓reduceIte, Nat.reduceEqDiff, Nat.reduceAdd, Nat.reduceMul, Nat.reduceLeDiff, Nat.reduceLT, Int.reduceNeg, DF, eff, Nat.reduceSub, fwrap_i64, eq_false z]
    exact ⟨al.fr F03, frQ F03⟩
theorem LMarkQ_ok {h : Heap} {b : Nat} {pm : Option Nat} {l : List Int} {ks bs : List Bool} {i : Int} {v : Bool} (w : WF h) (a : LoP h b pm l ks bs) (a0 : -9223372036854775808 ≤ i) (a1 : i ≤ 9223372036854775807) :
    Does go 41 [.ptr b 0, .int .i64 i, .bool v] h fun u h' => FrQ b pm h h' ∧ if 0 ≤ i ∧ i < l.length then u = .int .i64 0 ∧ LoP h' b pm l ks (bs.set i.toNat v) else u = .int .i64 4 ∧ LoP h' b pm l ks bs := by
  have al := a
  have all := a.lo
  obtain ⟨p, vk, o, v1, ix, mk, e⟩ := a
  by_cases c : i < 0
  · refine does_fn g41 rfl ?_
    simp (disch := omega) only [fn41, evs, ↓reduceIte, Nat.reduceEqDiff, Nat.reduceAdd, Nat.reduceMul, Nat.reduceLeDiff, Nat.reduceLT, Int.reduceNeg, DF, eff, Nat.reduceSub, fwrap_i64, eq_true c]
    rw [if_neg (by omega)]
    exact ⟨Fr.refl w, al⟩
  · refine does_fn g41 rfl ?_
    simp (disch := omega) only [fn41, evs, ↓reduceIte, Nat.reduceEqDiff, Nat.reduceAdd, Nat.reduceMul, Nat.reduceLeDiff, Nat.reduceLT, Int.reduceNeg, DF, eff, Nat.reduceSub, fwrap_i64, eq_false c]
    refine OQ_does (LLen_ok w all) ?_
    rintro _ h2 ⟨rfl, F2⟩
    by_cases c2 : (l.length : Int) ≤ i
    · simp (disch := omega) only [evs, ↓reduceIte, Nat.reduceEqDiff, Nat.reduceAdd, Nat.reduceMul, Nat.reduceLeDiff, Nat.reduceLT, Int.reduceNeg, DF, eff, Nat.reduceSub, fwrap_i64, eq_true c2]
      rw [if_neg (by omega)]
      exact ⟨frQ F2, al.fr F2⟩
    · cases pm with
      | none => have mk : bs = [] := mk; subst mk; simp at e; omega
      | some q =>
        have fl : Fl h q bs := mk
        have qb := al.qb
        simp (disch := omega) only [evs, ↓reduceIte, Nat.reduceEqDiff, Nat.reduceAdd, Nat.reduceMul, Nat.reduceLeDiff, Nat.reduceLT, Int.reduceNeg, DF, eff, Nat.reduceSub, fwrap_i64, eq_false c2, (F2.get o).ld1, pv_some]
        refine OQ_does (fSet_ok F2.wf (fl.fr F2) a0 a1) ?_
        rintro _ h3 ⟨rfl, f3, F3, n3⟩
        rw [if_pos (by omega)] at f3
        simp (disch := omega) only [evs, ↓reduceIte, Nat.reduceEqDiff, Nat.reduceAdd, Nat.reduceMul, Nat.reduceLeDiff, Nat.reduceLT, Int.reduceNeg, DF, eff, Nat.reduceSub, fwrap_i64]
        rw [if_pos (by omega)]
        refine ⟨(frQ F2).q F3 w (.inl rfl), ?_, p, vk, F3.own _ _ (by simpa using qb) (F2.get o), v1, (ix.fr F2).frf F3 (fl.fr F2), f3, by simpa using e⟩
        first | rfl | (rw [if_pos (by omega)])
theorem LRemQ_ok {h : Heap} {b : Nat} {pm : Option Nat} {l : List Int} {ks bs : List Bool} {a k : Int} (w : WF h) (x : LoP h b pm l ks bs) (a0 : -9223372036854775808 ≤ a) (a1 : a ≤ 9223372036854775807) (k0 : -9223372036854775808 ≤ k) (k1 : k ≤ 9223372036854775807) :
    Does go 36 [.ptr b 0, .int .i64 a, .int .i64 k] h fun u h' => FrQ b pm h h' ∧ u = .int .i64 (if cutB l.length a k then 4 else 0) ∧ (if cutB l.length a k then LoP h' b pm l ks bs else LoP h' b pm (remL l a.toNat k.toNat) (remL ks a.toNat k.toNat) (remL bs a.toNat k.toNat)) := by
  have al := x
  obtain ⟨p, vk, o, v1, ix, mk, e⟩ := x
  refine does_fn g36 rfl ?_
  simp (disch := omega) only [fn36, evs, ↓reduceIte, Nat.reduceEqDiff, Nat.reduceAdd, Nat.reduceMul, Nat.reduceLeDiff, Nat.reduceLT, Int.reduceNeg, DF, eff, Nat.reduceSub, fwrap_i64, o.ld]
  refine OQ_does (XRem_ok w ix a0 a1 k0 k1) ?_
  rintro _ h1 ⟨F1, c, d, rfl, hc, hd, hx⟩
  obtain ⟨h2, e_h2⟩ : ∃ h2, h2 = halloc h1 [.nilp, .nils] := ⟨_, rfl⟩
  have F_h2 : Fr [] h1 h2 := e_h2 ▸ Fr.halloc F1.wf _
  have o_h2 : Own h2 h1.next [.nilp, .nils] := e_h2 ▸ Own.new F1.wf _
  simp (disch := omega) only [evs, ↓reduceIte, Nat.reduceEqDiff, Nat.reduceAdd, Nat.reduceMul, Nat.reduceLeDiff, Nat.reduceLT, Int.reduceNeg, DF, eff, Nat.reduceSub, fwrap_i64, ← e_h2]
  refine store_step (c' := [c, d]) F_h2.wf o_h2 rfl (by simp [onesB, V.cells, hc, hd]) rfl ?_
  rintro h3 o3 F3 n3
  have F13 : Fr [] h1 h3 := F_h2.fresh F3 F1.wf (Nat.le_refl _)
  have F03 := F1.then F13
  by_cases z : cutB l.length a k
  · simp (disch := omega) only [evs, ↓reduceIte, Nat.reduceEqDiff, Nat.reduceAdd, Nat.reduceMul, Nat.reduceLeDiff, Nat.reduceLT, Int.reduceNeg, DF, eff, Nat.reduceSub, fwrap_i64, if_pos z, eq_false (show ¬ (4 : Int) = 0 by omega)]
    exact ⟨frQ F03, al.fr F03⟩
  · obtain ⟨c0, c1, c2⟩ := cut_nat z
    by_cases k00 : k = 0
    · subst k00
      simp (disch := omega) only [evs, ↓reduceIte, Nat.reduceEqDiff, Nat.reduceAdd, Nat.reduceMul, Nat.reduceLeDiff, Nat.reduceLT, Int.reduceNeg, DF, eff, Nat.reduceSub, fwrap_i64, if_neg z]
      refine ⟨frQ F03, ?_⟩
      have : ∀ {α : Type} (r : List α), remL r a.toNat (0 : Int).toNat = r := fun r => by simp [remL]
      rw [this, this, this]
      exact al.fr F03
    · cases pm with
      | none => have mk : bs = [] := mk; subst mk; simp at e; omega
      | some q =>
        have fl : Fl h q bs := mk
        have qb := al.qb
        simp (disch := omega) only [evs, ↓reduceIte, Nat.reduceEqDiff, Nat.reduceAdd, Nat.reduceMul, Nat.reduceLeDiff, Nat.reduceLT, Int.reduceNeg, DF, eff, Nat.reduceSub, fwrap_i64, if_neg z, eq_false k00, o3.ld]
        refine store_step (c' := [c, d, .ptr q 0]) F13.wf (F03.get o) rfl (by simp [onesB, V.cells, hc, hd]) rfl ?_
        rintro h4 o4 F4 n4
        have ix' := hx z
        obtain ⟨p', rfl⟩ := ix'.form
        have ix4 := (ix'.fr F13).frb F4 (F03.get o) (by simp) (nosp (noInt ix.noint))
        have fl4 : Fl h4 q bs := Mk.frb (pm := some q) (fl.fr F03) F4 (F03.get o) rfl
        simp (disch := omega) only [evs, ↓reduceIte, Nat.reduceEqDiff, Nat.reduceAdd, Nat.reduceMul, Nat.reduceLeDiff, Nat.reduceLT, Int.reduceNeg, DF, eff, Nat.reduceSub, fwrap_i64, o4.ld1]
        have ea : (a : Int) = (a.toNat : Nat) := by omega
        have ek : (k : Int) = (k.toNat : Nat) := by omega
        have fr := fRem_ok (a := a.toNat) (n := k.toNat) F4.wf fl4 (by omega)
        rw [← ea, ← ek] at fr
        refine OQ_does fr ?_
        rintro _ h5 ⟨rfl, f5, F5⟩
        simp (disch := omega) only [evs, ↓reduceIte, Nat.reduceEqDiff, Nat.reduceAdd, Nat.reduceMul, Nat.reduceLeDiff, Nat.reduceLT, Int.reduceNeg, DF, eff, Nat.reduceSub, fwrap_i64]
        refine ⟨((frQ F03).b F4 w).q F5 w (.inl rfl), ?_⟩
        try rw [if_neg z]
        exact ⟨p', d, F5.own _ _ (by simpa using qb) o4, hd, ix4.frf F5 fl4, f5, by rw [remL_len (by omega), remL_len c2]; omega⟩
theorem LMovQ_ok {h : Heap} {b : Nat} {pm : Option Nat} {l : List Int} {ks bs : List Bool} {a k t : Int} (w : WF h) (x : LoP h b pm l ks bs) (a0 : -9223372036854775808 ≤ a) (a1 : a ≤ 9223372036854775807) (k0 : -9223372036854775808 ≤ k) (k1 : k ≤ 9223372036854775807)
    (t0 : -9223372036854775808 ≤ t) (t1 : t ≤ 9223372036854775807) :
    Does go 38 [.ptr b 0, .int .i64 a, .int .i64 k, .int .i64 t] h fun u h' => FrQ b pm h h' ∧ u = .int .i64 (if movB l.length a k t then 4 else 0) ∧ (if movB l.length a k t then LoP h' b pm l ks bs else LoP h' b pm (movL l a.toNat k.toNat t.toNat) (movL ks a.toNat k.toNat t.toNat) (movL bs a.toNat k.toNat t.toNat)) := by
  have al := x
  obtain ⟨p, vk, o, v1, ix, mk, e⟩ := x
  refine does_fn g38 rfl ?_
  simp (disch := omega) only [fn38, evs, ↓reduceIte, Nat.reduceEqDiff, Nat.reduceAdd, Nat.reduceMul, Nat.reduceLeDiff, Nat.reduceLT, Int.reduceNeg, DF, eff, Nat.reduceSub, fwrap_i64, o.ld]
  refine OQ_does (XMov_ok w ix a0 a1 k0 k1 t0 t1) ?_
  rintro _ h1 ⟨F1, c, d, rfl, hc, hd, hx⟩
  obtain ⟨h2, e_h2⟩ : ∃ h2, h2 = halloc h1 [.nilp, .nils] := ⟨_, rfl⟩
  have F_h2 : Fr [] h1 h2 := e_h2 ▸ Fr.halloc F1.wf _
  have o_h2 : Own h2 h1.next [.nilp, .nils] := e_h2 ▸ Own.new F1.wf _
  simp (disch := omega) only [evs, ↓reduceIte, Nat.reduceEqDiff, Nat.reduceAdd, Nat.reduceMul, Nat.reduceLeDiff, Nat.reduceLT, Int.reduceNeg, DF, eff, Nat.reduceSub, fwrap_i64, ← e_h2]
  refine store_step (c' := [c, d]) F_h2.wf o_h2 rfl (by simp [onesB, V.cells, hc, hd]) rfl ?_
  rintro h3 o3 F3 n3
  have F13 : Fr [] h1 h3 := F_h2.fresh F3 F1.wf (Nat.le_refl _)
  have F03 := F1.then F13
  by_cases z : movB l.length a k t
  · simp (disch := omega) only [evs, ↓reduceIte, Nat.reduceEqDiff, Nat.reduceAdd, Nat.reduceMul, Nat.reduceLeDiff, Nat.reduceLT, Int.reduceNeg, DF, eff, Nat.reduceSub, fwrap_i64, if_pos z, eq_false (show ¬ (4 : Int) = 0 by omega)]
    exact ⟨frQ F03, al.fr F03⟩
  · have zc : ¬ cutB l.length a k := fun q => z (.inl q)
    obtain ⟨c0, c1, c2⟩ := cut_nat zc
    have ht : 0 ≤ t ∧ t ≤ (l.length : Int) - k := by unfold movB at z; omega
    by_cases k00 : k = 0
    · subst k00
      simp (disch := omega) only [evs, ↓reduceIte, Nat.reduceEqDiff, Nat.reduceAdd, Nat.reduceMul, Nat.reduceLeDiff, Nat.reduceLT, Int.reduceNeg, DF, eff, Nat.reduceSub, fwrap_i64, if_neg z]
      refine ⟨frQ F03, ?_⟩
      have : ∀ {α : Type} (r : List α), movL r a.toNat (0 : Int).toNat t.toNat = r := fun r => by simp [movL, remL]
      rw [this, this, this]
      exact al.fr F03
    · cases pm with
      | none => have mk : bs = [] := mk; subst mk; simp at e; omega
      | some q =>
        have fl : Fl h q bs := mk
        have qb := al.qb
        simp (disch := omega) only [evs, ↓reduceIte, Nat.reduceEqDiff, Nat.reduceAdd, Nat.reduceMul, Nat.reduceLeDiff, Nat.reduceLT, Int.reduceNeg, DF, eff, Nat.reduceSub, fwrap_i64, if_neg z, eq_false k00, o3.ld]
        refine store_step (c' := [c, d, .ptr q 0]) F13.wf (F03.get o) rfl (by simp [onesB, V.cells, hc, hd]) rfl ?_
        rintro h4 o4 F4 n4
        have ix' := hx z
        obtain ⟨p', rfl⟩ := ix'.form
        have ix4 := (ix'.fr F13).frb F4 (F03.get o) (by simp) (nosp (noInt ix.noint))
        have fl4 : Fl h4 q bs := Mk.frb (pm := some q) (fl.fr F03) F4 (F03.get o) rfl
        simp (disch := omega) only [evs, ↓reduceIte, Nat.reduceEqDiff, Nat.reduceAdd, Nat.reduceMul, Nat.reduceLeDiff, Nat.reduceLT, Int.reduceNeg, DF, eff, Nat.reduceSub, fwrap_i64, o4.ld1]
        have ea : (a : Int) = (a.toNat : Nat) := by omega
        have ek : (k : Int) = (k.toNat : Nat) := by omega
        have et : (t : Int) = (t.toNat : Nat) := by omega
        have fr := fMov_ok (a := a.toNat) (n := k.toNat) (t := t.toNat) F4.wf fl4 (by omega) (by omega) (by omega)
        rw [← ea, ← ek, ← et] at fr
        refine OQ_does fr ?_
        rintro _ h5 ⟨rfl, f5, F5⟩
        simp (disch := omega) only [evs, ↓reduceIte, Nat.reduceEqDiff, Nat.reduceAdd, Nat.reduceMul, Nat.reduceLeDiff, Nat.reduceLT, Int.reduceNeg, DF, eff, Nat.reduceSub, fwrap_i64]
        refine ⟨((frQ F03).b F4 w).q F5 w (.inl rfl), ?_⟩
        try rw [if_neg z]
        exact ⟨p', d, F5.own _ _ (by simpa using qb) o4, hd, ix4.frf F5 fl4, f5, by rw [movL_len, movL_len]; omega⟩
theorem LCopyQ_ok {h : Heap} {b : Nat} {pm : Option Nat} {l : List Int} {ks bs : List Bool} (w : WF h) (a : LoP h b pm l ks bs) : Does go 33 [.ptr b 0] h fun u h' => ∃ c pm', u = .ptr c 0 ∧ h.next ≤ c ∧ (∀ q, pm' = some q → h.next ≤ q) ∧ LoP h' c pm' l ks bs ∧ Fr [] h h' := by
  obtain ⟨p, vk, o, v1, ix, mk, e⟩ := a
  obtain ⟨h1, e_h1⟩ : ∃ h1, h1 = halloc h [pv p, vk, .nilp] := ⟨_, rfl⟩
  have F_h1 : Fr [] h h1 := e_h1 ▸ Fr.halloc w _
  have o_h1 : Own h1 h.next [pv p, vk, .nilp] := e_h1 ▸ Own.new w _
  cases pm with
  | none =>
    have mk : bs = [] := mk
    refine does_fn g33 rfl ?_
    simp (disch := omega) only [fn33, evs, ↓reduceIte, Nat.reduceEqDiff, Nat.reduceAdd, Nat.reduceMul, Nat.reduceLeDiff, Nat.reduceLT, Int.reduceNeg, DF, eff, Nat.reduceSub, fwrap_i64, o.ld, (F_h1.get o).ld1, pv_none, ← e_h1, cells_one v1]
    exact ⟨h.next, none, rfl, Nat.le_refl _, by simp, ⟨p, vk, o_h1, v1, ix.fr F_h1, mk, e⟩, F_h1⟩
  | some q =>
    have fl : Fl h q bs := mk
    refine does_fn g33 rfl ?_
    simp (disch := omega) only [fn33, evs, ↓reduceIte, Nat.reduceEqDiff, Nat.reduceAdd, Nat.reduceMul, Nat.reduceLeDiff, Nat.reduceLT, Int.reduceNeg, DF, eff, Nat.reduceSub, fwrap_i64, o.ld, (F_h1.get o).ld1, pv_some, ← e_h1, cells_one v1]
    refine OQ_does (fCopy_ok F_h1.wf (fl.fr F_h1)) ?_
    rintro _ h2 ⟨c, rfl, hc, f2, F2⟩
    simp (disch := omega) only [evs, ↓reduceIte, Nat.reduceEqDiff, Nat.reduceAdd, Nat.reduceMul, Nat.reduceLeDiff, Nat.reduceLT, Int.reduceNeg, DF, eff, Nat.reduceSub, fwrap_i64]
    refine store_step (c' := [pv p, vk, .ptr c 0]) F2.wf (F2.get o_h1) rfl rfl rfl ?_
    rintro h3 o3 F3 n3
    simp (disch := omega) only [evs, ↓reduceIte, Nat.reduceEqDiff, Nat.reduceAdd, Nat.reduceMul, Nat.reduceLeDiff, Nat.reduceLT, Int.reduceNeg, DF, eff, Nat.reduceSub, fwrap_i64]
    have F02 := F_h1.then F2
    exact ⟨h.next, some c, rfl, Nat.le_refl _, fun q e => by cases e; exact Nat.le_trans F_h1.next hc, ⟨p, vk, o3, v1, (ix.fr F02).frb F3 (F2.get o_h1) (by simp) (nosp (noInt (pm := none) ix.noint)), Mk.frb (pm := some c) f2 F3 (F2.get o_h1) rfl, e⟩, F02.fresh F3 w (Nat.le_refl _)⟩
end Go.Ev.Lay

/- The definition: Set. -/
namespace Go.Ev.Lay
set_option maxRecDepth 4000
def rset (L : List (Int × Bool × Bool)) (i : Nat) (size : Int) (kn : Bool) : List (Int × Bool × Bool) := L.set i (size, kn, (sy L).getD i false)
theorem rset_sz (L : List (Int × Bool × Bool)) (i : Nat) (size : Int) (kn : Bool) : sz (rset L i size kn) = (sz L).set i size := by simp [rset, sz, List.map_set]
theorem rset_ky (L : List (Int × Bool × Bool)) (i : Nat) (size : Int) (kn : Bool) : ky (rset L i size kn) = (ky L).set i kn := by simp [rset, ky, List.map_set]
theorem rset_sy (L : List (Int × Bool × Bool)) (i : Nat) (size : Int) (kn : Bool) : sy (rset L i size kn) = sy L := by
  unfold rset
  have : sy (L.set i (size, kn, (sy L).getD i false)) = (sy L).set i ((sy L).getD i false) := by simp [sy, List.map_set]
  rw [this]
  apply List.ext_getElem?
  intro j
  rw [List.getElem?_set]
  by_cases c : i = j
  · subst c
    by_cases c2 : i < (sy L).length
    · rw [if_pos rfl, if_pos c2, List.getElem?_eq_getElem c2]; simp [List.getD, c2]
    · rw [if_pos rfl, if_neg c2, List.getElem?_eq_none (by omega)]
  · rw [if_neg c]
theorem rset_len (L : List (Int × Bool × Bool)) (i : Nat) (size : Int) (kn : Bool) : (rset L i size kn).length = L.length := by simp [rset]
theorem flat_set : ∀ (L : List (Int × Bool × Bool)) (i : Nat) (size : Int) (kn : Bool), i < L.length → ((L.flatMap rc).set (i * 3) (.int .i64 size)).set (i * 3 + 1) (.bool kn) = (rset L i size kn).flatMap rc
  | [], i, _, _, h => by simp at h
  | r :: L, 0, size, kn, _ => by simp [rset, rc, sy, List.flatMap_cons]
  | r :: L, i + 1, size, kn, h => by
    have ih := flat_set L i size kn (by simpa using h)
    have e1 : (i + 1) * 3 = i * 3 + 3 := by omega
    have e2 : rset (r :: L) (i + 1) size kn = r :: rset L i size kn := by simp [rset, sy]
    rw [e2, List.flatMap_cons, List.flatMap_cons, ← ih, e1]
    simp [rc]
theorem rSet_ok {h : Heap} {v : V} {L : List (Int × Bool × Bool)} {i size : Int} {kn : Bool} (w : WF h) (a : Rws h v L) (f : Fit (sz L)) (hl : L.length ≤ 1024) :
    Does go 39 [v, .int .i64 i, .int .i64 size, .bool kn] h fun u h' => Fr [] h h' ∧ if xsetE (sz L) i size = 0 then ∃ v', u = .tup [v', .int .i64 0] ∧ GRecs rc 3 h' h.next v' (rset L i.toNat size kn) else u = .tup [v, .int .i64 (xsetE (sz L) i size)] := by
  have al := a.len
  have f1 := f.nn
  have f2 := f.2.1
  unfold xsetE
  rw [sz_len]
  by_cases c0 : i < 0
  · refine does_fn g39 rfl ?_
    simp (disch := omega) only [fn39, evs, ↓reduceIte, Nat.reduceEqDiff, Nat.reduceAdd, Nat.reduceMul, Nat.reduceLeDiff, Nat.reduceLT, Int.reduceNeg, DF, eff, Nat.reduceSub, fwrap_i64, eq_true c0]
    refine ⟨Fr.refl w, ?_⟩
    rw [if_neg (show ¬ (0 ≤ i ∧ i < (L.length : Int)) by omega), if_neg (by omega)]
  by_cases c1 : (L.length : Int) ≤ i
  · refine does_fn g39 rfl ?_
    simp (disch := omega) only [fn39, evs, ↓reduceIte, Nat.reduceEqDiff, Nat.reduceAdd, Nat.reduceMul, Nat.reduceLeDiff, Nat.reduceLT, Int.reduceNeg, DF, eff, Nat.reduceSub, fwrap_i64, eq_false c0, al, eq_true c1]
    refine ⟨Fr.refl w, ?_⟩
    rw [if_neg (show ¬ (0 ≤ i ∧ i < (L.length : Int)) by omega), if_neg (by omega)]
  rw [if_pos (show 0 ≤ i ∧ i < (L.length : Int) by omega)]
  by_cases c2 : size < 1
  · refine does_fn g39 rfl ?_
    simp (disch := omega) only [fn39, evs, ↓reduceIte, Nat.reduceEqDiff, Nat.reduceAdd, Nat.reduceMul, Nat.reduceLeDiff, Nat.reduceLT, Int.reduceNeg, DF, eff, Nat.reduceSub, fwrap_i64, eq_false c0, al, eq_false c1, eq_true c2]
    refine ⟨Fr.refl w, ?_⟩
    simp
  by_cases c3 : 2305843009213693952 < size
  · refine does_fn g39 rfl ?_
    simp (disch := omega) only [fn39, evs, ↓reduceIte, Nat.reduceEqDiff, Nat.reduceAdd, Nat.reduceMul, Nat.reduceLeDiff, Nat.reduceLT, Int.reduceNeg, DF, eff, Nat.reduceSub, fwrap_i64, eq_false c0, al, eq_false c1, eq_false c2, eq_true c3]
    refine ⟨Fr.refl w, ?_⟩
    simp
  rw [if_neg (show ¬ (size < 1 ∨ 2305843009213693952 < size) by omega)]
  obtain ⟨n, rfl⟩ : ∃ n : Nat, i = n := ⟨i.toNat, by omega⟩
  rw [Int.toNat_natCast]
  obtain ⟨bb, o, r, e1, e2, e3, e4, e5, e6⟩ := Rws.ix a n (by omega)
  have sg : (sz L).getD n 0 = r.1 := by have := sz_get e6; simp [List.getD, this]
  have rb : 0 ≤ r.1 ∧ r.1 ≤ (sz L).sum := by
    have := getD_le (i := n) f.1
    rw [sg] at this; exact ⟨this.2, this.1⟩
  rw [sg]
  refine does_fn g39 rfl ?_
  simp (disch := omega) only [fn39, evs, ↓reduceIte, Nat.reduceEqDiff, Nat.reduceAdd, Nat.reduceMul, Nat.reduceLeDiff, Nat.reduceLT, Int.reduceNeg, DF, eff, Nat.reduceSub, fwrap_i64, eq_false c0, al, eq_false c1, eq_false c2, eq_false c3]
  refine OQ_does (rTotal_ok a f) ?_
  rintro _ _ ⟨rfl, hh⟩
  replace hh := hh.symm
  subst hh
  by_cases c4 : 4611686018427387904 - ((sz L).sum - r.1) < size
  · simp (disch := omega) only [evs, ↓reduceIte, Nat.reduceEqDiff, Nat.reduceAdd, Nat.reduceMul, Nat.reduceLeDiff, Nat.reduceLT, Int.reduceNeg, DF, eff, Nat.reduceSub, fwrap_i64, e1, e2, eq_true c4]
    refine ⟨Fr.refl w, ?_⟩
    simp
  simp (disch := omega) only [evs, ↓reduceIte, Nat.reduceEqDiff, Nat.reduceAdd, Nat.reduceMul, Nat.reduceLeDiff, Nat.reduceLT, Int.reduceNeg, DF, eff, Nat.reduceSub, fwrap_i64, e1, e2, eq_false c4]
  refine W_loop (fun k env hh => ∃ (j : Nat) (vo : V), Fr [] h hh ∧ env.get 0 = some v ∧ env.get 1 = some (.int .i64 n) ∧ env.get 2 = some (.int .i64 size) ∧ env.get 3 = some (.bool kn) ∧ env.get 11 = some (.int .i64 j) ∧ env.get 10 = some vo ∧ j ≤ L.length ∧ GRecs rc 3 hh h.next vo (L.take j) ∧ k = L.length - j) L.length (by omega) ?_ ?_
  · exact ⟨0, .nils, Fr.refl w, (by simp [T.get_set]), (by simp [T.get_set]), (by simp [T.get_set]), (by simp [T.get_set]), (by simp [T.get_set]), (by simp [T.get_set]), by omega, GRecs.nil, rfl⟩
  rintro k env hh ⟨j, vo, F, g0, g1, g2, g3, g11, g10, hj, gO, rfl⟩
  have a2 := Recs.fr a F
  have al2 := a2.len
  by_cases hlt : (j : Int) < L.length
  · obtain ⟨b', o', r', d1, d2, d3, d4, d5, d6⟩ := Rws.ix a2 j hlt
    have tk : L.take (j + 1) = L.take j ++ [r'] := by rw [List.take_add_one, d6]; simp
    obtain ⟨h5, e_h5⟩ : ∃ h5, h5 = halloc hh (rc r') := ⟨_, rfl⟩
    have F_h5 : Fr [] hh h5 := e_h5 ▸ Fr.halloc F.wf _
    have o_h5 : Own h5 hh.next (rc r') := e_h5 ▸ Own.new F.wf _
    have e5' : halloc hh [.int .i64 r'.1, .bool r'.2.1, .bool r'.2.2] = h5 := e_h5.symm
    simp (disch := omega) only [evs, ↓reduceIte, Nat.reduceEqDiff, Nat.reduceAdd, Nat.reduceMul, Nat.reduceLeDiff, Nat.reduceLT, Int.reduceNeg, DF, eff, Nat.reduceSub, fwrap_i64, g0, g1, g2, g3, g11, g10, al2, eq_true hlt, d1, d5, List.length_cons, List.length_nil, e5']
    refine GRecs.append (x := r') F_h5.wf (gO.fr F_h5) rc_len (rc_ones _) (by omega) o_h5 (Nat.le_trans F.next F_h5.next) (by simp; omega) ?_
    intro v' h6 g6 F6
    have U6 := Gs.up (gO.fr F_h5) F6
    simp (disch := omega) only [evs, ↓reduceIte, Nat.reduceEqDiff, Nat.reduceAdd, Nat.reduceMul, Nat.reduceLeDiff, Nat.reduceLT, Int.reduceNeg, DF, eff, Nat.reduceSub, fwrap_i64, g0, g1, g2, g3, g11, g10]
    refine (roundQ_norm _ _ _).2 ⟨L.length - (j + 1), by omega, j + 1, v', (F.then F_h5).ups w U6, (by simp [T.get_set, g0]), (by simp [T.get_set, g1]), (by simp [T.get_set, g2]), (by simp [T.get_set, g3]), (by simp [T.get_set]), (by simp [T.get_set]), by omega, by rw [tk]; exact g6, rfl⟩
    done
  · have ej : j = L.length := by omega
    subst ej
    rw [List.take_length] at gO
    rcases gO with ⟨_, e2'⟩ | ⟨b', q, rfl, hq, hq0, hB, oq⟩
    · have := congrArg List.length e2'
      rw [flat_len rc_len] at this; simp at this; omega
    rw [flat_len rc_len] at hq
    have : q = L.length := by omega
    subst this
    have ix := aP_ixU 3 b' 0 L.length 3 .i64 (n : Int) (by omega) (by omega)
    rw [Int.toNat_natCast, Nat.zero_add] at ix
    have fl := flat_len rc_len L
    simp (disch := omega) only [evs, ↓reduceIte, Nat.reduceEqDiff, Nat.reduceAdd, Nat.reduceMul, Nat.reduceLeDiff, Nat.reduceLT, Int.reduceNeg, DF, eff, Nat.reduceSub, fwrap_i64, g0, g1, g2, g3, g11, g10, al2, eq_false hlt, ix]
    refine store_step (c' := (L.flatMap rc).set (n * 3) (.int .i64 size)) F.wf oq rfl rfl (updO_set1 _ _ _ (by rw [fl]; omega)) ?_
    rintro h7 o7 F7 n7
    simp (disch := omega) only [evs, ↓reduceIte, Nat.reduceEqDiff, Nat.reduceAdd, Nat.reduceMul, Nat.reduceLeDiff, Nat.reduceLT, Int.reduceNeg, DF, eff, Nat.reduceSub, fwrap_i64, g0, g1, g2, g3, g11, g10, ix]
    refine store_step (c' := ((L.flatMap rc).set (n * 3) (.int .i64 size)).set (n * 3 + 1) (.bool kn)) F7.wf o7 rfl rfl (updO_set1 _ _ _ (by rw [List.length_set, fl]; omega)) ?_
    rintro h8 o8 F8 n8
    simp (disch := omega) only [evs, ↓reduceIte, Nat.reduceEqDiff, Nat.reduceAdd, Nat.reduceMul, Nat.reduceLeDiff, Nat.reduceLT, Int.reduceNeg, DF, eff, Nat.reduceSub, fwrap_i64, g10]
    rw [flat_set L n size kn (by omega)] at o8
    refine ⟨(F.fresh F7 w hB).fresh F8 w hB, ?_⟩
    exact ⟨.sliceU b' 0 L.length 3, rfl, .inr ⟨b', L.length, rfl, by rw [flat_len rc_len, rset_len], hq0, hB, o8⟩⟩
end Go.Ev.Lay

/- The definition: Remove, Sum. -/
namespace Go.Ev.Lay
set_option maxRecDepth 4000
theorem remL_succ {α : Type} {L : List α} {i a k : Nat} {r : α} (e : L[i]? = some r) : remL (L.take (i + 1)) a k = if i < a ∨ a + k ≤ i then remL (L.take i) a k ++ [r] else remL (L.take i) a k := by
  have hi : i < L.length := by
    rcases Nat.lt_or_ge i L.length with y | y
    · exact y
    · rw [List.getElem?_eq_none y] at e; cases e
  have ht : L.take (i + 1) = L.take i ++ [r] := by rw [List.take_add_one, e]; simp
  have hl : (L.take i).length = i := by simp; omega
  rw [ht]
  unfold remL
  by_cases c : i < a
  · rw [if_pos (.inl c), List.take_of_length_le (by simp; omega), List.take_of_length_le (l := L.take i) (by omega), List.drop_of_length_le (l := L.take i ++ [r]) (by simp; omega), List.drop_of_length_le (l := L.take i) (by omega)]
    simp
  · rw [List.take_append_of_le_length (by omega), List.drop_append_of_le_length (by omega)]
    by_cases d : a + k ≤ i
    · rw [if_pos (.inr d), List.drop_append_of_le_length (by simp; omega), List.append_assoc]
    · rw [if_neg (by omega), List.drop_of_length_le (l := (L.take i).drop a ++ [r]) (by simp; omega), List.drop_of_length_le (l := (L.take i).drop a) (by simp; omega)]
theorem rRem_ok {h : Heap} {v : V} {L : List (Int × Bool × Bool)} {a k : Int} (w : WF h) (al : Rws h v L) (hl : L.length ≤ 1024) (a0 : -9223372036854775808 ≤ a) (a1 : a ≤ 9223372036854775807) (k0 : -9223372036854775808 ≤ k) (k1 : k ≤ 9223372036854775807) :
    Does go 35 [v, .int .i64 a, .int .i64 k] h fun u h' => Fr [] h h' ∧ if cutB L.length a k then u = .tup [v, .int .i64 4] else ∃ v', u = .tup [v', .int .i64 0] ∧ GRecs rc 3 h' h.next v' (remL L a.toNat k.toNat) := by
  have an := al.len
  by_cases c1 : a < 0
  · refine does_fn g35 rfl ?_
    simp (disch := omega) only [fn35, evs, ↓reduceIte, Nat.reduceEqDiff, Nat.reduceAdd, Nat.reduceMul, Nat.reduceLeDiff, Nat.reduceLT, Int.reduceNeg, DF, eff, Nat.reduceSub, fwrap_i64, eq_true c1]
    exact ⟨Fr.refl w, by rw [if_pos (.inl c1)]; trivial⟩
  by_cases c2 : (L.length : Int) < a
  · refine does_fn g35 rfl ?_
    simp (disch := omega) only [fn35, evs, ↓reduceIte, Nat.reduceEqDiff, Nat.reduceAdd, Nat.reduceMul, Nat.reduceLeDiff, Nat.reduceLT, Int.reduceNeg, DF, eff, Nat.reduceSub, fwrap_i64, eq_false c1, an, eq_true c2]
    exact ⟨Fr.refl w, by rw [if_pos (.inr (.inr (.inl c2)))]; trivial⟩
  by_cases c3 : k < 0
  · refine does_fn g35 rfl ?_
    simp (disch := omega) only [fn35, evs, ↓reduceIte, Nat.reduceEqDiff, Nat.reduceAdd, Nat.reduceMul, Nat.reduceLeDiff, Nat.reduceLT, Int.reduceNeg, DF, eff, Nat.reduceSub, fwrap_i64, eq_false c1, an, eq_false c2, eq_true c3]
    exact ⟨Fr.refl w, by rw [if_pos (.inr (.inl c3))]; trivial⟩
  by_cases c4 : (L.length : Int) - a < k
  · refine does_fn g35 rfl ?_
    simp (disch := omega) only [fn35, evs, ↓reduceIte, Nat.reduceEqDiff, Nat.reduceAdd, Nat.reduceMul, Nat.reduceLeDiff, Nat.reduceLT, Int.reduceNeg, DF, eff, Nat.reduceSub, fwrap_i64, eq_false c1, an, eq_false c2, eq_false c3, eq_true c4]
    exact ⟨Fr.refl w, by rw [if_pos (.inr (.inr (.inr c4)))]; trivial⟩
  have nc : ¬ cutB L.length a k := by unfold cutB; omega
  refine does_fn g35 rfl ?_
  simp (disch := omega) only [fn35, evs, ↓reduceIte, Nat.reduceEqDiff, Nat.reduceAdd, Nat.reduceMul, Nat.reduceLeDiff, Nat.reduceLT, Int.reduceNeg, DF, eff, Nat.reduceSub, fwrap_i64, eq_false c1, an, eq_false c2, eq_false c3, eq_false c4]
  refine W_loop (fun n env hh => ∃ (j : Nat) (vo : V), Fr [] h hh ∧ env.get 0 = some v ∧ env.get 1 = some (.int .i64 a) ∧ env.get 2 = some (.int .i64 k) ∧ env.get 9 = some (.int .i64 j) ∧ env.get 8 = some vo ∧ j ≤ L.length ∧ GRecs rc 3 hh h.next vo (remL (L.take j) a.toNat k.toNat) ∧ n = L.length - j) L.length (by omega) ?_ ?_
  · exact ⟨0, .nils, Fr.refl w, (by simp [T.get_set]), (by simp [T.get_set]), (by simp [T.get_set]), (by simp [T.get_set]), (by simp [T.get_set]), by omega, by simpa [remL] using GRecs.nil, rfl⟩
  rintro n env hh ⟨j, vo, F, g0, g1, g2, g9, g8, hj, gO, rfl⟩
  have a2 := Recs.fr al F
  have al2 := a2.len
  by_cases hlt : (j : Int) < L.length
  · obtain ⟨b', o', r', d1, d2, d3, d4, d5, d6⟩ := Rws.ix a2 j hlt
    have rs := remL_succ (a := a.toNat) (k := k.toNat) d6
    have ln : (remL (L.take j) a.toNat k.toNat).length ≤ L.length := Nat.le_trans (remL_sub _ _ _).length_le (by simp; omega)
    have q : (j : Int) < a ∨ (¬ (j : Int) < a ∧ a + k ≤ (j : Int)) ∨ (¬ (j : Int) < a ∧ ¬ a + k ≤ (j : Int)) := by omega
    rcases q with q | q | q
    case inr.inr =>
      simp (disch := omega) only [evs, ↓reduceIte, Nat.reduceEqDiff, Nat.reduceAdd, Nat.reduceMul, Nat.reduceLeDiff, Nat.reduceLT, Int.reduceNeg, DF, eff, Nat.reduceSub, fwrap_i64, g0, g1, g2, g9, g8, al2, eq_true hlt, eq_false q.1, eq_false q.2]
      rw [if_neg (by omega)] at rs
      refine (roundQ_norm _ _ _).2 ⟨L.length - (j + 1), by omega, j + 1, vo, F, (by simp [T.get_set, g0]), (by simp [T.get_set, g1]), (by simp [T.get_set, g2]), (by simp [T.get_set]), (by simp [T.get_set, g8]), by omega, by rw [rs]; exact gO, rfl⟩
      done
    case' inl =>
      simp (disch := omega) only [evs, ↓reduceIte, Nat.reduceEqDiff, Nat.reduceAdd, Nat.reduceMul, Nat.reduceLeDiff, Nat.reduceLT, Int.reduceNeg, DF, eff, Nat.reduceSub, fwrap_i64, g0, g1, g2, g9, g8, al2, eq_true hlt, eq_true q, d1, d5, List.length_cons, List.length_nil]
    case' inr.inl =>
      simp (disch := omega) only [evs, ↓reduceIte, Nat.reduceEqDiff, Nat.reduceAdd, Nat.reduceMul, Nat.reduceLeDiff, Nat.reduceLT, Int.reduceNeg, DF, eff, Nat.reduceSub, fwrap_i64, g0, g1, g2, g9, g8, al2, eq_true hlt, eq_false q.1, eq_true q.2, d1, d5, List.length_cons, List.length_nil]
    all_goals
      rw [if_pos (by omega)] at rs
      obtain ⟨h5, e_h5⟩ : ∃ h5, h5 = halloc hh (rc r') := ⟨_, rfl⟩
      have F_h5 : Fr [] hh h5 := e_h5 ▸ Fr.halloc F.wf _
      have o_h5 : Own h5 hh.next (rc r') := e_h5 ▸ Own.new F.wf _
      have e5' : halloc hh [.int .i64 r'.1, .bool r'.2.1, .bool r'.2.2] = h5 := e_h5.symm
      rw [e5']
      refine GRecs.append (x := r') F_h5.wf (gO.fr F_h5) rc_len (rc_ones _) (by omega) o_h5 (Nat.le_trans F.next F_h5.next) (by first | omega | (simp; omega)) ?_
      intro v' h6 g6 F6
      have U6 := Gs.up (gO.fr F_h5) F6
      simp (disch := omega) only [evs, ↓reduceIte, Nat.reduceEqDiff, Nat.reduceAdd, Nat.reduceMul, Nat.reduceLeDiff, Nat.reduceLT, Int.reduceNeg, DF, eff, Nat.reduceSub, fwrap_i64, g0, g1, g2, g9, g8]
      refine (roundQ_norm _ _ _).2 ⟨L.length - (j + 1), by omega, j + 1, v', (F.then F_h5).ups w U6, (by simp [T.get_set, g0]), (by simp [T.get_set, g1]), (by simp [T.get_set, g2]), (by simp [T.get_set]), (by simp [T.get_set]), by omega, by rw [rs]; exact g6, rfl⟩
      done
  · have ej : j = L.length := by omega
    subst ej
    rw [List.take_length] at gO
    simp (disch := omega) only [evs, ↓reduceIte, Nat.reduceEqDiff, Nat.reduceAdd, Nat.reduceMul, Nat.reduceLeDiff, Nat.reduceLT, Int.reduceNeg, DF, eff, Nat.reduceSub, fwrap_i64, g0, g1, g2, g9, g8, al2, eq_false hlt]
    rw [if_neg nc]
    exact ⟨F, vo, rfl, gO⟩
end Go.Ev.Lay

/- The definition: Sum, Move, Insert. -/
namespace Go.Ev.Lay
set_option maxRecDepth 4000
theorem rSum_ok {h : Heap} {v : V} {m : List Int} {tot : Int} (am : Ints h v m) (hm : m.length ≤ 1000000) (t0 : 0 ≤ tot) (t1 : tot ≤ 4611686018427387904) :
    Does go 69 [.int .i64 tot, v] h fun u h' => u = .int .i64 (if sumE 0 m = 0 then (if 4611686018427387904 - m.sum < tot then 13 else 0) else sumE 0 m) ∧ h' = h := by
  refine does_fn g69 rfl ?_
  simp (disch := omega) only [fn69, evs, ↓reduceIte, Nat.reduceEqDiff, Nat.reduceAdd, Nat.reduceMul, Nat.reduceLeDiff, Nat.reduceLT, Int.reduceNeg, DF, eff, Nat.reduceSub, fwrap_i64]
  refine W_loop (fun k env hh => hh = h ∧ ∃ (i : Nat) (t : Int), env.get 6 = some (.int .i64 i) ∧ env.get 5 = some (.int .i64 t) ∧ env.get 1 = some v ∧ env.get 0 = some (.int .i64 tot) ∧
    i ≤ m.length ∧ 0 ≤ t ∧ t ≤ 4611686018427387904 ∧ sumE t (m.drop i) = sumE 0 m ∧ t = (m.take i).sum ∧ k = m.length - i) m.length (by omega) ?_ ?_
  · exact ⟨rfl, 0, 0, (by simp [T.get_set]), (by simp [T.get_set]), (by simp [T.get_set]), (by simp [T.get_set]), by omega, by omega, by omega, by simp, by simp, rfl⟩
  · rintro k env hh ⟨rfl, i, t, g6, g5, g1, g0, hi, p0, p1, e, et, rfl⟩
    have an := am.len
    by_cases hlt : (i : Int) < m.length
    · obtain ⟨b, o, x, e1, e2, e3⟩ := am.ix .i64 i (by omega) hlt
      simp only [Int.toNat_natCast] at e3
      rw [drop_cons e3, sumE] at e
      by_cases c1 : x < 1
      · simp (disch := omega) only [evs, ↓reduceIte, Nat.reduceEqDiff, Nat.reduceAdd, Nat.reduceMul, Nat.reduceLeDiff, Nat.reduceLT, Int.reduceNeg, DF, eff, Nat.reduceSub, fwrap_i64, g6, g5, g1, g0, an, eq_true hlt, e1, e2, eq_true c1]
        rw [if_pos (.inl c1)] at e
        rw [← e]; simp
      by_cases c2 : 2305843009213693952 < x
      · simp (disch := omega) only [evs, ↓reduceIte, Nat.reduceEqDiff, Nat.reduceAdd, Nat.reduceMul, Nat.reduceLeDiff, Nat.reduceLT, Int.reduceNeg, DF, eff, Nat.reduceSub, fwrap_i64, g6, g5, g1, g0, an, eq_true hlt, e1, e2, eq_false c1, eq_true c2]
        rw [if_pos (.inr c2)] at e
        rw [← e]; simp
      rw [if_neg (by omega)] at e
      by_cases c3 : 4611686018427387904 < t + x
      · simp (disch := omega) only [evs, ↓reduceIte, Nat.reduceEqDiff, Nat.reduceAdd, Nat.reduceMul, Nat.reduceLeDiff, Nat.reduceLT, Int.reduceNeg, DF, eff, Nat.reduceSub, fwrap_i64, g6, g5, g1, g0, an, eq_true hlt, e1, e2, eq_false c1, eq_false c2, eq_true c3]
        rw [if_pos c3] at e
        rw [← e]; simp
      rw [if_neg c3] at e
      simp (disch := omega) only [evs, ↓reduceIte, Nat.reduceEqDiff, Nat.reduceAdd, Nat.reduceMul, Nat.reduceLeDiff, Nat.reduceLT, Int.reduceNeg, DF, eff, Nat.reduceSub, fwrap_i64, g6, g5, g1, g0, an, eq_true hlt, e1, e2, eq_false c1, eq_false c2, eq_false c3]
      refine (roundQ_norm _ _ _).2 ⟨m.length - (i + 1), by omega, rfl, i + 1, t + x, (by simp [T.get_set]), (by simp [T.get_set]), (by simp [T.get_set, g1]), (by simp [T.get_set, g0]), by omega, by omega, by omega, e, by rw [take_sum e3, et], rfl⟩
      done
    · have : i = m.length := by omega
      subst this
      rw [List.drop_length, sumE] at e
      rw [List.take_length] at et
      by_cases c : 4611686018427387904 - tot < t
      · simp (disch := omega) only [evs, ↓reduceIte, Nat.reduceEqDiff, Nat.reduceAdd, Nat.reduceMul, Nat.reduceLeDiff, Nat.reduceLT, Int.reduceNeg, DF, eff, Nat.reduceSub, fwrap_i64, g6, g5, g1, g0, an, eq_false hlt, eq_true c]
        rw [if_pos e.symm, if_pos (by omega)]
      · simp (disch := omega) only [evs, ↓reduceIte, Nat.reduceEqDiff, Nat.reduceAdd, Nat.reduceMul, Nat.reduceLeDiff, Nat.reduceLT, Int.reduceNeg, DF, eff, Nat.reduceSub, fwrap_i64, g6, g5, g1, g0, an, eq_false hlt, eq_false c]
        rw [if_pos e.symm, if_neg (by omega)]
end Go.Ev.Lay

/- The definition: Move, Insert. -/
namespace Go.Ev.Lay
set_option maxRecDepth 4000
theorem take_snoc {α : Type} {L : List α} {i : Nat} {r : α} (e : L[i]? = some r) : L.take (i + 1) = L.take i ++ [r] := by rw [List.take_add_one, e]; simp
theorem GRecs.low {α : Type} {f : α → List V} {k : Nat} {h : Heap} {B B' : Nat} {v : V} {L : List α} (a : GRecs f k h B v L) (hB : B' ≤ B) : GRecs f k h B' v L := by
  rcases a with x | ⟨b, n, e1, e2, e3, e4, e5⟩
  · exact .inl x
  · exact .inr ⟨b, n, e1, e2, e3, by omega, e5⟩
theorem rMov_ok {h : Heap} {v : V} {L : List (Int × Bool × Bool)} {a k t : Int} (w : WF h) (al : Rws h v L) (hl : L.length ≤ 1024) (a0 : -9223372036854775808 ≤ a) (a1 : a ≤ 9223372036854775807) (k0 : -9223372036854775808 ≤ k) (k1 : k ≤ 9223372036854775807)
    (t0 : -9223372036854775808 ≤ t) (t1 : t ≤ 9223372036854775807) :
    Does go 37 [v, .int .i64 a, .int .i64 k, .int .i64 t] h fun u h' => Fr [] h h' ∧ if movB L.length a k t then u = .tup [v, .int .i64 4] else ∃ v', u = .tup [v', .int .i64 0] ∧ GRecs rc 3 h' h.next v' (movL L a.toNat k.toNat t.toNat) := by
  refine does_fn g37 rfl ?_
  simp (disch := omega) only [fn37, evs, ↓reduceIte, Nat.reduceEqDiff, Nat.reduceAdd, Nat.reduceMul, Nat.reduceLeDiff, Nat.reduceLT, Int.reduceNeg, DF, eff, Nat.reduceSub, fwrap_i64]
  refine OQ_does (rRem_ok w al hl a0 a1 k0 k1) ?_
  rintro u0 h1 ⟨F1, hu⟩
  by_cases c0 : cutB L.length a k
  · rw [if_pos c0] at hu
    subst hu
    simp (disch := omega) only [evs, ↓reduceIte, Nat.reduceEqDiff, Nat.reduceAdd, Nat.reduceMul, Nat.reduceLeDiff, Nat.reduceLT, Int.reduceNeg, DF, eff, Nat.reduceSub, fwrap_i64, eq_true (show (0 : Int) < 4 by omega)]
    rw [if_pos (.inl c0)]
    exact ⟨F1, trivial⟩
  rw [if_neg c0] at hu
  obtain ⟨vr, rfl, gr⟩ := hu
  obtain ⟨k00, k01, k02⟩ := cut_nat c0
  have hR := remL_len k02
  have sr := gr.recs rc_len (by omega)
  have sn := sr.len
  rw [hR] at sn
  have en : ((L.length - k.toNat : Nat) : Int) = (L.length : Int) - k := by omega
  rw [en] at sn
  by_cases c1 : t < 0
  · simp (disch := omega) only [evs, ↓reduceIte, Nat.reduceEqDiff, Nat.reduceAdd, Nat.reduceMul, Nat.reduceLeDiff, Nat.reduceLT, Int.reduceNeg, DF, eff, Nat.reduceSub, fwrap_i64, eq_false (show ¬ (0 : Int) < 0 by omega), eq_true c1]
    rw [if_pos (.inr (.inl c1))]
    exact ⟨F1, trivial⟩
  by_cases c2 : (L.length : Int) - k < t
  · simp (disch := omega) only [evs, ↓reduceIte, Nat.reduceEqDiff, Nat.reduceAdd, Nat.reduceMul, Nat.reduceLeDiff, Nat.reduceLT, Int.reduceNeg, DF, eff, Nat.reduceSub, fwrap_i64, eq_false (show ¬ (0 : Int) < 0 by omega), eq_false c1, sn, eq_true c2]
    rw [if_pos (.inr (.inr c2))]
    exact ⟨F1, trivial⟩
  have nm : ¬ movB L.length a k t := by unfold movB; intro q; rcases q with q | q | q; exact c0 q; exact c1 q; exact c2 q
  obtain ⟨R, eR⟩ : ∃ R, R = remL L a.toNat k.toNat := ⟨_, rfl⟩
  rw [← eR] at gr sr hR
  have lR : R.length = L.length - k.toNat := hR
  simp (disch := omega) only [evs, ↓reduceIte, Nat.reduceEqDiff, Nat.reduceAdd, Nat.reduceMul, Nat.reduceLeDiff, Nat.reduceLT, Int.reduceNeg, DF, eff, Nat.reduceSub, fwrap_i64, eq_false (show ¬ (0 : Int) < 0 by omega), eq_false c1, sn, eq_false c2]
  refine W_loop (fun n env hh => ∃ (j : Nat) (vo : V), Fr [] h1 hh ∧ env.get 0 = some v ∧ env.get 1 = some (.int .i64 a) ∧ env.get 2 = some (.int .i64 k) ∧ env.get 3 = some (.int .i64 t) ∧ env.get 10 = some vr ∧ env.get 13 = some (.int .i64 j) ∧ env.get 12 = some vo ∧ j ≤ t.toNat ∧ GRecs rc 3 hh h1.next vo (R.take j) ∧ n = t.toNat - j) t.toNat (by omega) ?_ ?_
  · exact ⟨0, .nils, Fr.refl F1.wf, (by simp [T.get_set]), (by simp [T.get_set]), (by simp [T.get_set]), (by simp [T.get_set]), (by simp [T.get_set]), (by simp [T.get_set]), (by simp [T.get_set]), by omega, GRecs.nil, rfl⟩
  rintro n env hh ⟨j, vo, F, g0, g1, g2, g3, g10, g13, g12, hj, gO, rfl⟩
  by_cases hlt : (j : Int) < t
  · obtain ⟨b', o', r', d1, d2, d3, d4, d5, d6⟩ := Rws.ix (Recs.fr sr F) j (by omega)
    have tk := take_snoc d6
    obtain ⟨h5, e_h5⟩ : ∃ h5, h5 = halloc hh (rc r') := ⟨_, rfl⟩
    have F_h5 : Fr [] hh h5 := e_h5 ▸ Fr.halloc F.wf _
    have o_h5 : Own h5 hh.next (rc r') := e_h5 ▸ Own.new F.wf _
    have e5' : halloc hh [.int .i64 r'.1, .bool r'.2.1, .bool r'.2.2] = h5 := e_h5.symm
    simp (disch := omega) only [evs, ↓reduceIte, Nat.reduceEqDiff, Nat.reduceAdd, Nat.reduceMul, Nat.reduceLeDiff, Nat.reduceLT, Int.reduceNeg, DF, eff, Nat.reduceSub, fwrap_i64, g0, g1, g2, g3, g10, g13, g12, eq_true hlt, d1, d5, List.length_cons, List.length_nil, e5']
    refine GRecs.append (x := r') F_h5.wf (gO.fr F_h5) rc_len (rc_ones _) (by omega) o_h5 (Nat.le_trans F.next F_h5.next) (by simp; omega) ?_
    intro v' h6 g6 F6
    have U6 := Gs.up (gO.fr F_h5) F6
    simp (disch := omega) only [evs, ↓reduceIte, Nat.reduceEqDiff, Nat.reduceAdd, Nat.reduceMul, Nat.reduceLeDiff, Nat.reduceLT, Int.reduceNeg, DF, eff, Nat.reduceSub, fwrap_i64, g0, g1, g2, g3, g10, g13, g12]
    refine (roundQ_norm _ _ _).2 ⟨t.toNat - (j + 1), by omega, j + 1, v', (F.then F_h5).ups F1.wf U6, (by simp [T.get_set, g0]), (by simp [T.get_set, g1]), (by simp [T.get_set, g2]), (by simp [T.get_set, g3]), (by simp [T.get_set, g10]), (by simp [T.get_set]), (by simp [T.get_set]), by omega, by rw [tk]; exact g6, rfl⟩
    done
  have ej : j = t.toNat := by omega
  subst ej
  simp (disch := omega) only [evs, ↓reduceIte, Nat.reduceEqDiff, Nat.reduceAdd, Nat.reduceMul, Nat.reduceLeDiff, Nat.reduceLT, Int.reduceNeg, DF, eff, Nat.reduceSub, fwrap_i64, g0, g1, g2, g3, g10, g13, g12, eq_false hlt]
  refine W_loop (fun n env hh => ∃ (j : Nat) (vo : V), Fr [] h1 hh ∧ env.get 0 = some v ∧ env.get 1 = some (.int .i64 a) ∧ env.get 2 = some (.int .i64 k) ∧ env.get 3 = some (.int .i64 t) ∧ env.get 10 = some vr ∧ env.get 14 = some (.int .i64 (a + j)) ∧ env.get 12 = some vo ∧ j ≤ k.toNat ∧ GRecs rc 3 hh h1.next vo (R.take t.toNat ++ (L.drop a.toNat).take j) ∧ n = k.toNat - j) k.toNat (by omega) ?_ ?_
  · exact ⟨0, vo, F, (by simp [T.get_set, g0]), (by simp [T.get_set, g1]), (by simp [T.get_set, g2]), (by simp [T.get_set, g3]), (by simp [T.get_set, g10]), (by simp [T.get_set]), (by simp [T.get_set, g12]), by omega, by simpa using gO, rfl⟩
  clear g0 g1 g2 g3 g10 g13 g12 gO F hlt hj
  rintro n env hh ⟨j, vo, F, g0, g1, g2, g3, g10, g14, g12, hj, gO, rfl⟩
  have ll : (R.take t.toNat ++ (L.drop a.toNat).take j).length ≤ 2048 := by simp; omega
  by_cases hlt : a + (j : Int) < a + k
  · obtain ⟨b', o', r', d1, d2, d3, d4, d5, d6⟩ := Rws.ix (Recs.fr al (F1.then F)) (a.toNat + j) (by omega)
    have ec : ((a.toNat + j : Nat) : Int) = a + j := by omega
    rw [ec] at d1
    have tk := take_snoc (L := L.drop a.toNat) (i := j) (r := r') (by rw [List.getElem?_drop]; exact d6)
    obtain ⟨h5, e_h5⟩ : ∃ h5, h5 = halloc hh (rc r') := ⟨_, rfl⟩
    have F_h5 : Fr [] hh h5 := e_h5 ▸ Fr.halloc F.wf _
    have o_h5 : Own h5 hh.next (rc r') := e_h5 ▸ Own.new F.wf _
    have e5' : halloc hh [.int .i64 r'.1, .bool r'.2.1, .bool r'.2.2] = h5 := e_h5.symm
    simp (disch := omega) only [evs, ↓reduceIte, Nat.reduceEqDiff, Nat.reduceAdd, Nat.reduceMul, Nat.reduceLeDiff, Nat.reduceLT, Int.reduceNeg, DF, eff, Nat.reduceSub, fwrap_i64, g0, g1, g2, g3, g10, g14, g12, eq_true hlt, d1, d5, List.length_cons, List.length_nil, e5']
    refine GRecs.append (x := r') F_h5.wf (gO.fr F_h5) rc_len (rc_ones _) (by omega) o_h5 (Nat.le_trans F.next F_h5.next) (by omega) ?_
    intro v' h6 g6 F6
    have U6 := Gs.up (gO.fr F_h5) F6
    simp (disch := omega) only [evs, ↓reduceIte, Nat.reduceEqDiff, Nat.reduceAdd, Nat.reduceMul, Nat.reduceLeDiff, Nat.reduceLT, Int.reduceNeg, DF, eff, Nat.reduceSub, fwrap_i64, g0, g1, g2, g3, g10, g14, g12]
    refine (roundQ_norm _ _ _).2 ⟨k.toNat - (j + 1), by omega, j + 1, v', (F.then F_h5).ups F1.wf U6, (by simp [T.get_set, g0]), (by simp [T.get_set, g1]), (by simp [T.get_set, g2]), (by simp [T.get_set, g3]), (by simp [T.get_set, g10]), by rw [T.get_set]; simp; omega, (by simp [T.get_set]), by omega, by rw [tk, ← List.append_assoc]; exact g6, rfl⟩
    done
  have ej : j = k.toNat := by omega
  subst ej
  simp (disch := omega) only [evs, ↓reduceIte, Nat.reduceEqDiff, Nat.reduceAdd, Nat.reduceMul, Nat.reduceLeDiff, Nat.reduceLT, Int.reduceNeg, DF, eff, Nat.reduceSub, fwrap_i64, g0, g1, g2, g3, g10, g14, g12, eq_false hlt]
  refine W_loop (fun n env hh => ∃ (j : Nat) (vo : V), Fr [] h1 hh ∧ env.get 10 = some vr ∧ env.get 15 = some (.int .i64 (t + j)) ∧ env.get 12 = some vo ∧ j ≤ R.length - t.toNat ∧ GRecs rc 3 hh h1.next vo (R.take t.toNat ++ (L.drop a.toNat).take k.toNat ++ (R.drop t.toNat).take j) ∧ n = R.length - t.toNat - j) (R.length - t.toNat) (by omega) ?_ ?_
  · exact ⟨0, vo, F, (by simp [T.get_set, g10]), (by simp [T.get_set]), (by simp [T.get_set, g12]), by omega, by simpa using gO, rfl⟩
  clear g0 g1 g2 g3 g10 g14 g12 gO F hlt hj
  rintro n env hh ⟨j, vo, F, g10, g15, g12, hj, gO, rfl⟩
  have sr2 := Recs.fr sr F
  have sn2 := sr2.len
  rw [lR, en] at sn2
  have ll : (R.take t.toNat ++ (L.drop a.toNat).take k.toNat ++ (R.drop t.toNat).take j).length ≤ 4096 := by simp; omega
  by_cases hlt : t + (j : Int) < (L.length : Int) - k
  · obtain ⟨b', o', r', d1, d2, d3, d4, d5, d6⟩ := Rws.ix sr2 (t.toNat + j) (by omega)
    have ec : ((t.toNat + j : Nat) : Int) = t + j := by omega
    rw [ec] at d1
    have tk := take_snoc (L := R.drop t.toNat) (i := j) (r := r') (by rw [List.getElem?_drop]; exact d6)
    obtain ⟨h5, e_h5⟩ : ∃ h5, h5 = halloc hh (rc r') := ⟨_, rfl⟩
    have F_h5 : Fr [] hh h5 := e_h5 ▸ Fr.halloc F.wf _
    have o_h5 : Own h5 hh.next (rc r') := e_h5 ▸ Own.new F.wf _
    have e5' : halloc hh [.int .i64 r'.1, .bool r'.2.1, .bool r'.2.2] = h5 := e_h5.symm
    simp (disch := omega) only [evs, ↓reduceIte, Nat.reduceEqDiff, Nat.reduceAdd, Nat.reduceMul, Nat.reduceLeDiff, Nat.reduceLT, Int.reduceNeg, DF, eff, Nat.reduceSub, fwrap_i64, g10, g15, g12, sn2, eq_true hlt, d1, d5, List.length_cons, List.length_nil, e5']
    refine GRecs.append (x := r') F_h5.wf (gO.fr F_h5) rc_len (rc_ones _) (by omega) o_h5 (Nat.le_trans F.next F_h5.next) (by omega) ?_
    intro v' h6 g6 F6
    have U6 := Gs.up (gO.fr F_h5) F6
    simp (disch := omega) only [evs, ↓reduceIte, Nat.reduceEqDiff, Nat.reduceAdd, Nat.reduceMul, Nat.reduceLeDiff, Nat.reduceLT, Int.reduceNeg, DF, eff, Nat.reduceSub, fwrap_i64, g10, g15, g12]
    refine (roundQ_norm _ _ _).2 ⟨R.length - t.toNat - (j + 1), by omega, j + 1, v', (F.then F_h5).ups F1.wf U6, (by simp [T.get_set, g10]), by rw [T.get_set]; simp; omega, (by simp [T.get_set]), by omega, by rw [tk, ← List.append_assoc]; exact g6, rfl⟩
    done
  have ej : j = R.length - t.toNat := by omega
  subst ej
  simp (disch := omega) only [evs, ↓reduceIte, Nat.reduceEqDiff, Nat.reduceAdd, Nat.reduceMul, Nat.reduceLeDiff, Nat.reduceLT, Int.reduceNeg, DF, eff, Nat.reduceSub, fwrap_i64, g10, g15, g12, sn2, eq_false hlt]
  rw [if_neg nm]
  refine ⟨F1.then F, vo, rfl, ?_⟩
  rw [List.take_of_length_le (l := R.drop t.toNat) (by simp)] at gO
  have : movL L a.toNat k.toNat t.toNat = R.take t.toNat ++ (L.drop a.toNat).take k.toNat ++ R.drop t.toNat := by rw [eR]; rfl
  rw [this]
  exact GRecs.low gO F1.next
end Go.Ev.Lay

/- The definition: Insert. -/
namespace Go.Ev.Lay
set_option maxRecDepth 4000
/-- new rows -/
def newR (m : List Int) (st : List Bool) : List (Int × Bool × Bool) := (m.zip st).map fun p => (p.1, false, p.2)
def insR (L : List (Int × Bool × Bool)) (i : Nat) (m : List Int) (st : List Bool) : List (Int × Bool × Bool) := L.take i ++ newR m st ++ L.drop i
theorem newR_len {m : List Int} {st : List Bool} (h : st.length = m.length) : (newR m st).length = m.length := by simp [newR, h]
theorem newR_get {m : List Int} {st : List Bool} {j : Nat} {x : Int} {y : Bool} (e1 : m[j]? = some x) (e2 : st[j]? = some y) : (newR m st)[j]? = some (x, false, y) := by
  have hz : (m.zip st)[j]? = some (x, y) := by rw [List.getElem?_zip_eq_some]; exact ⟨e1, e2⟩
  simp [newR, hz]
def rinsE (L : List (Int × Bool × Bool)) (i : Int) (m : List Int) (st : List Bool) : Int := if st.length = m.length then xinsE (sz L) i m else 1
theorem rIns_ok {h : Heap} {v um us : V} {L : List (Int × Bool × Bool)} {i : Int} {m : List Int} {st : List Bool} (w : WF h) (al : Rws h v L) (f : Fit (sz L)) (hl : L.length ≤ 1024) (am : Ints h um m) (as : Bools h us st) (hm : m.length ≤ 4096) (i0 : -9223372036854775808 ≤ i) (i1 : i ≤ 9223372036854775807) :
    Does go 34 [v, .int .i64 i, um, us] h fun u h' => Fr [] h h' ∧ if rinsE L i m st = 0 then ∃ v', u = .tup [v', .int .i64 0] ∧ GRecs rc 3 h' h.next v' (insR L i.toNat m st) else u = .tup [v, .int .i64 (rinsE L i m st)] := by
  have an := al.len
  have mn := am.len
  have sn := as.len
  unfold rinsE
  by_cases c0 : st.length = m.length
  case neg =>
    refine does_fn g34 rfl ?_
    simp (disch := omega) only [fn34, evs, ↓reduceIte, Nat.reduceEqDiff, Nat.reduceAdd, Nat.reduceMul, Nat.reduceLeDiff, Nat.reduceLT, Int.reduceNeg, DF, eff, Nat.reduceSub, fwrap_i64, mn, sn, eq_false (show ¬ (m.length : Int) = st.length by omega)]
    rw [if_neg c0, if_neg (by omega)]
    exact ⟨Fr.refl w, by first | rfl | trivial⟩
  rw [c0] at sn
  simp only [if_pos c0]
  unfold xinsE
  rw [sz_len]
  by_cases c1 : i < 0
  · refine does_fn g34 rfl ?_
    simp (disch := omega) only [fn34, evs, ↓reduceIte, Nat.reduceEqDiff, Nat.reduceAdd, Nat.reduceMul, Nat.reduceLeDiff, Nat.reduceLT, Int.reduceNeg, DF, eff, Nat.reduceSub, fwrap_i64, mn, sn, eq_true c1]
    rw [if_neg (show ¬ (0 ≤ i ∧ i ≤ (L.length : Int)) by omega), if_neg (by omega)]
    exact ⟨Fr.refl w, by first | rfl | trivial⟩
  by_cases c2 : (L.length : Int) < i
  · refine does_fn g34 rfl ?_
    simp (disch := omega) only [fn34, evs, ↓reduceIte, Nat.reduceEqDiff, Nat.reduceAdd, Nat.reduceMul, Nat.reduceLeDiff, Nat.reduceLT, Int.reduceNeg, DF, eff, Nat.reduceSub, fwrap_i64, mn, sn, eq_false c1, an, eq_true c2]
    rw [if_neg (show ¬ (0 ≤ i ∧ i ≤ (L.length : Int)) by omega), if_neg (by omega)]
    exact ⟨Fr.refl w, by first | rfl | trivial⟩
  simp only [if_pos (show 0 ≤ i ∧ i ≤ (L.length : Int) by omega)]
  by_cases c3 : 1024 < (L.length : Int) + m.length
  · refine does_fn g34 rfl ?_
    simp (disch := omega) only [fn34, evs, ↓reduceIte, Nat.reduceEqDiff, Nat.reduceAdd, Nat.reduceMul, Nat.reduceLeDiff, Nat.reduceLT, Int.reduceNeg, DF, eff, Nat.reduceSub, fwrap_i64, mn, sn, eq_false c1, an, eq_false c2, eq_true c3]
    rw [if_pos (show 1024 - (L.length : Int) < m.length by omega), if_neg (by omega)]
    exact ⟨Fr.refl w, by first | rfl | trivial⟩
  simp only [if_neg (show ¬ 1024 - (L.length : Int) < m.length by omega)]
  have f1 := f.nn
  have f2 := f.2.1
  refine does_fn g34 rfl ?_
  simp (disch := omega) only [fn34, evs, ↓reduceIte, Nat.reduceEqDiff, Nat.reduceAdd, Nat.reduceMul, Nat.reduceLeDiff, Nat.reduceLT, Int.reduceNeg, DF, eff, Nat.reduceSub, fwrap_i64, mn, sn, eq_false c1, an, eq_false c2, eq_false c3]
  refine OQ_does (rTotal_ok al f) ?_
  rintro _ _ ⟨rfl, hh⟩
  replace hh := hh.symm
  subst hh
  simp (disch := omega) only [evs, ↓reduceIte, Nat.reduceEqDiff, Nat.reduceAdd, Nat.reduceMul, Nat.reduceLeDiff, Nat.reduceLT, Int.reduceNeg, DF, eff, Nat.reduceSub, fwrap_i64]
  refine OQ_does (rSum_ok am (by omega) f1 f2) ?_
  rintro _ _ ⟨rfl, hh⟩
  replace hh := hh.symm
  subst hh
  obtain ⟨E, eE⟩ : ∃ E, E = (if sumE 0 m = 0 then (if 4611686018427387904 - m.sum < (sz L).sum then 13 else 0) else sumE 0 m) := ⟨_, rfl⟩
  rw [← eE]
  have sumE_nn : ∀ (m : List Int) (t : Int), 0 ≤ sumE t m := by
    intro m
    induction m with
    | nil => intro t; simp [sumE]
    | cons x m ih => intro t; rw [sumE]; split; omega; split; omega; exact ih _
  have E0 : 0 ≤ E := by
    rw [eE]; have := sumE_nn m 0; split
    · split <;> omega
    · omega
  by_cases c4 : 0 < E
  · simp (disch := omega) only [evs, ↓reduceIte, Nat.reduceEqDiff, Nat.reduceAdd, Nat.reduceMul, Nat.reduceLeDiff, Nat.reduceLT, Int.reduceNeg, DF, eff, Nat.reduceSub, fwrap_i64, eq_true c4]
    rw [if_neg (by omega)]
    exact ⟨Fr.refl w, by first | rfl | trivial⟩
  have E00 : E = 0 := by omega
  rw [E00]
  obtain ⟨n0, rfl⟩ : ∃ n0 : Nat, i = n0 := ⟨i.toNat, by omega⟩
  rw [Int.toNat_natCast]
  simp (disch := omega) only [evs, ↓reduceIte, Nat.reduceEqDiff, Nat.reduceAdd, Nat.reduceMul, Nat.reduceLeDiff, Nat.reduceLT, Int.reduceNeg, DF, eff, Nat.reduceSub, fwrap_i64, eq_false (show ¬ (0 : Int) < 0 by omega)]
  refine W_loop (fun n env hh => ∃ (j : Nat) (vo : V), Fr [] h hh ∧ env.get 0 = some v ∧ env.get 1 = some (.int .i64 n0) ∧ env.get 2 = some um ∧ env.get 3 = some us ∧ env.get 12 = some (.int .i64 j) ∧ env.get 11 = some vo ∧ j ≤ n0 ∧ GRecs rc 3 hh h.next vo (L.take j) ∧ n = n0 - j) n0 (by omega) ?_ ?_
  · exact ⟨0, .nils, Fr.refl w, (by simp [T.get_set]), (by simp [T.get_set]), (by simp [T.get_set]), (by simp [T.get_set]), (by simp [T.get_set]), (by simp [T.get_set]), by omega, GRecs.nil, rfl⟩
  rintro n env hh ⟨j, vo, F, g0, g1, g2, g3, g12, g11, hj, gO, rfl⟩
  by_cases hlt : (j : Int) < n0
  · obtain ⟨b', o', r', d1, d2, d3, d4, d5, d6⟩ := Rws.ix (Recs.fr al F) j (by omega)
    have tk := take_snoc d6
    obtain ⟨h5, e_h5⟩ : ∃ h5, h5 = halloc hh (rc r') := ⟨_, rfl⟩
    have F_h5 : Fr [] hh h5 := e_h5 ▸ Fr.halloc F.wf _
    have o_h5 : Own h5 hh.next (rc r') := e_h5 ▸ Own.new F.wf _
    have e5' : halloc hh [.int .i64 r'.1, .bool r'.2.1, .bool r'.2.2] = h5 := e_h5.symm
    simp (disch := omega) only [evs, ↓reduceIte, Nat.reduceEqDiff, Nat.reduceAdd, Nat.reduceMul, Nat.reduceLeDiff, Nat.reduceLT, Int.reduceNeg, DF, eff, Nat.reduceSub, fwrap_i64, g0, g1, g2, g3, g12, g11, eq_true hlt, d1, d5, List.length_cons, List.length_nil, e5']
    refine GRecs.append (x := r') F_h5.wf (gO.fr F_h5) rc_len (rc_ones _) (by omega) o_h5 (Nat.le_trans F.next F_h5.next) (by simp; omega) ?_
    intro v' h6 g6 F6
    have U6 := Gs.up (gO.fr F_h5) F6
    simp (disch := omega) only [evs, ↓reduceIte, Nat.reduceEqDiff, Nat.reduceAdd, Nat.reduceMul, Nat.reduceLeDiff, Nat.reduceLT, Int.reduceNeg, DF, eff, Nat.reduceSub, fwrap_i64, g0, g1, g2, g3, g12, g11]
    refine (roundQ_norm _ _ _).2 ⟨n0 - (j + 1), by omega, j + 1, v', (F.then F_h5).ups w U6, (by simp [T.get_set, g0]), (by simp [T.get_set, g1]), (by simp [T.get_set, g2]), (by simp [T.get_set, g3]), (by simp [T.get_set]), (by simp [T.get_set]), by omega, by rw [tk]; exact g6, rfl⟩
    done
  have ej : j = n0 := by omega
  subst ej
  simp (disch := omega) only [evs, ↓reduceIte, Nat.reduceEqDiff, Nat.reduceAdd, Nat.reduceMul, Nat.reduceLeDiff, Nat.reduceLT, Int.reduceNeg, DF, eff, Nat.reduceSub, fwrap_i64, g0, g1, g2, g3, g12, g11, eq_false hlt]
  refine W_loop (fun n env hh => ∃ (i : Nat) (vo : V), Fr [] h hh ∧ env.get 0 = some v ∧ env.get 1 = some (.int .i64 j) ∧ env.get 2 = some um ∧ env.get 3 = some us ∧ env.get 13 = some (.int .i64 i) ∧ env.get 11 = some vo ∧ i ≤ m.length ∧ GRecs rc 3 hh h.next vo (L.take j ++ (newR m st).take i) ∧ n = m.length - i) m.length (by omega) ?_ ?_
  · exact ⟨0, vo, F, (by simp [T.get_set, g0]), (by simp [T.get_set, g1]), (by simp [T.get_set, g2]), (by simp [T.get_set, g3]), (by simp [T.get_set]), (by simp [T.get_set, g11]), by omega, by simpa using gO, rfl⟩
  clear g0 g1 g2 g3 g12 g11 gO F hlt hj
  rintro n env hh ⟨i, vo, F, g0, g1, g2, g3, g13, g11, hj, gO, rfl⟩
  have ll : (L.take j ++ (newR m st).take i).length ≤ 8000 := by simp [newR_len c0]; omega
  have mn2 := (am.fr F).len
  by_cases hlt : (i : Int) < m.length
  · obtain ⟨b1, o1, x, p1, p2, p3⟩ := (am.fr F).ix .i64 i (by omega) hlt
    obtain ⟨b2, o2, y, q1, q2, q3⟩ := (as.fr F).ix .i64 i (by omega) (by omega)
    simp only [Int.toNat_natCast] at p3 q3
    have tk := take_snoc (newR_get p3 q3)
    obtain ⟨h5, e_h5⟩ : ∃ h5, h5 = halloc hh (rc (x, false, y)) := ⟨_, rfl⟩
    have F_h5 : Fr [] hh h5 := e_h5 ▸ Fr.halloc F.wf _
    have o_h5 : Own h5 hh.next (rc (x, false, y)) := e_h5 ▸ Own.new F.wf _
    have e5' : halloc hh [.int .i64 x, .bool false, .bool y] = h5 := e_h5.symm
    simp (disch := omega) only [evs, ↓reduceIte, Nat.reduceEqDiff, Nat.reduceAdd, Nat.reduceMul, Nat.reduceLeDiff, Nat.reduceLT, Int.reduceNeg, DF, eff, Nat.reduceSub, fwrap_i64, g0, g1, g2, g3, g13, g11, mn2, eq_true hlt, p1, p2, q1, q2, List.length_cons, List.length_nil, e5']
    refine GRecs.append (x := (x, false, y)) F_h5.wf (gO.fr F_h5) rc_len (rc_ones _) (by omega) o_h5 (Nat.le_trans F.next F_h5.next) (by omega) ?_
    intro v' h6 g6 F6
    have U6 := Gs.up (gO.fr F_h5) F6
    simp (disch := omega) only [evs, ↓reduceIte, Nat.reduceEqDiff, Nat.reduceAdd, Nat.reduceMul, Nat.reduceLeDiff, Nat.reduceLT, Int.reduceNeg, DF, eff, Nat.reduceSub, fwrap_i64, g0, g1, g2, g3, g13, g11, p2, q2]
    refine (roundQ_norm _ _ _).2 ⟨m.length - (i + 1), by omega, i + 1, v', (F.then F_h5).ups w U6, (by simp [T.get_set, g0]), (by simp [T.get_set, g1]), (by simp [T.get_set, g2]), (by simp [T.get_set, g3]), (by simp [T.get_set]), (by simp [T.get_set]), by omega, by rw [tk, ← List.append_assoc]; exact g6, rfl⟩
    done
  have ei : i = m.length := by omega
  subst ei
  rw [List.take_of_length_le (l := newR m st) (by rw [newR_len c0]; omega)] at gO
  simp (disch := omega) only [evs, ↓reduceIte, Nat.reduceEqDiff, Nat.reduceAdd, Nat.reduceMul, Nat.reduceLeDiff, Nat.reduceLT, Int.reduceNeg, DF, eff, Nat.reduceSub, fwrap_i64, g0, g1, g2, g3, g13, g11, mn2, eq_false hlt]
  refine W_loop (fun n env hh => ∃ (i : Nat) (vo : V), Fr [] h hh ∧ env.get 0 = some v ∧ env.get 14 = some (.int .i64 ((j : Int) + i)) ∧ env.get 11 = some vo ∧ i ≤ L.length - j ∧ GRecs rc 3 hh h.next vo (L.take j ++ newR m st ++ (L.drop j).take i) ∧ n = L.length - j - i) (L.length - j) (by omega) ?_ ?_
  · exact ⟨0, vo, F, (by simp [T.get_set, g0]), (by simp [T.get_set]), (by simp [T.get_set, g11]), by omega, by simpa using gO, rfl⟩
  clear g0 g1 g2 g3 g13 g11 gO F hlt hj mn2 ll
  rintro n env hh ⟨i, vo, F, g0, g14, g11, hj, gO, rfl⟩
  have ll : (L.take j ++ newR m st ++ (L.drop j).take i).length ≤ 8000 := by simp [newR_len c0]; omega
  have an2 := (Recs.fr al F).len
  by_cases hlt : (j : Int) + i < L.length
  · obtain ⟨b', o', r', d1, d2, d3, d4, d5, d6⟩ := Rws.ix (Recs.fr al F) (j + i) (by omega)
    have ec : ((j + i : Nat) : Int) = j + i := by omega
    rw [ec] at d1
    have tk := take_snoc (L := L.drop j) (i := i) (r := r') (by rw [List.getElem?_drop]; exact d6)
    obtain ⟨h5, e_h5⟩ : ∃ h5, h5 = halloc hh (rc r') := ⟨_, rfl⟩
    have F_h5 : Fr [] hh h5 := e_h5 ▸ Fr.halloc F.wf _
    have o_h5 : Own h5 hh.next (rc r') := e_h5 ▸ Own.new F.wf _
    have e5' : halloc hh [.int .i64 r'.1, .bool r'.2.1, .bool r'.2.2] = h5 := e_h5.symm
    simp (disch := omega) only [evs, ↓reduceIte, Nat.reduceEqDiff, Nat.reduceAdd, Nat.reduceMul, Nat.reduceLeDiff, Nat.reduceLT, Int.reduceNeg, DF, eff, Nat.reduceSub, fwrap_i64, g0, g14, g11, an2, eq_true hlt, d1, d5, List.length_cons, List.length_nil, e5']
    refine GRecs.append (x := r') F_h5.wf (gO.fr F_h5) rc_len (rc_ones _) (by omega) o_h5 (Nat.le_trans F.next F_h5.next) (by omega) ?_
    intro v' h6 g6 F6
    have U6 := Gs.up (gO.fr F_h5) F6
    simp (disch := omega) only [evs, ↓reduceIte, Nat.reduceEqDiff, Nat.reduceAdd, Nat.reduceMul, Nat.reduceLeDiff, Nat.reduceLT, Int.reduceNeg, DF, eff, Nat.reduceSub, fwrap_i64, g0, g14, g11]
    refine (roundQ_norm _ _ _).2 ⟨L.length - j - (i + 1), by omega, i + 1, v', (F.then F_h5).ups w U6, (by simp [T.get_set, g0]), by rw [T.get_set]; simp; omega, (by simp [T.get_set]), by omega, by rw [tk, ← List.append_assoc]; exact g6, rfl⟩
    done
  have ei : i = L.length - j := by omega
  subst ei
  rw [List.take_of_length_le (l := L.drop j) (by simp)] at gO
  simp (disch := omega) only [evs, ↓reduceIte, Nat.reduceEqDiff, Nat.reduceAdd, Nat.reduceMul, Nat.reduceLeDiff, Nat.reduceLT, Int.reduceNeg, DF, eff, Nat.reduceSub, fwrap_i64, g0, g14, g11, an2, eq_false hlt]
  exact ⟨F, vo, rfl, gO⟩
theorem LInsArg_ok {h : Heap} {b : Nat} {l m : List Int} {ks bs st : List Bool} {i : Int} {u v : V} (w : WF h) (am : Ints h u m) (as : Bools h v st) (hst : st.length ≠ m.length) :
    Does go 9 [.ptr b 0, .int .i64 i, u, v] h fun z h' => z = .int .i64 1 ∧ h' = h := by
  refine does_fn g9 rfl ?_
  simp (disch := omega) only [fn9, evs, ↓reduceIte, Nat.reduceEqDiff, Nat.reduceAdd, Nat.reduceMul, Nat.reduceLeDiff, Nat.reduceLT, Int.reduceNeg, DF, eff, Nat.reduceSub, fwrap_i64, am.len, as.len, eq_false (show ¬ (m.length : Int) = st.length by omega)]
end Go.Ev.Lay

/- printed by cutfn.py: parts of fn5 -/
namespace Go.Ev.Lay
def scK0e : IC := (.seq (.ops [⟨none, .p (.faddr 1) [.v 9], none⟩, ⟨none, .ld 1 false (.l 0), none⟩, ⟨none, .cf 34 [.v 6, .l 0, .v 14, .v 15], none⟩, ⟨none, .p (.ext 0) [.l 0], none⟩, ⟨none, .p (.ext 1) [.l 1], none⟩, ⟨none, .p .mv [.l 1], some 11⟩, ⟨none, .p .mv [.l 0], some 12⟩]) (.ops [⟨none, .p (.faddr 1) [.v 9], none⟩, ⟨none, .ld 1 false (.l 0), none⟩, ⟨none, .cf 9 [.v 7, .l 0, .v 14, .v 15], none⟩, ⟨none, .p .mv [.l 0], some 13⟩]))
def scK0 : IC := (.seq (.ops [⟨none, .p .mv [.c .nils], some 14⟩]) (.seq (.ops [⟨none, .p .mv [.c .nils], some 15⟩]) (.seq (.seq (.ops [⟨none, .p .mv [.c (.int .i64 0)], some 16⟩]) (.block 5 (.loop (.seq (.seq (.ops [⟨none, .p (.faddr 5) [.v 9], none⟩, ⟨none, .ld 1 false (.l 0), none⟩, ⟨none, .p .lenS [.l 0], none⟩, ⟨none, .p (.ib .lss) [.v 16, .l 0], some 89⟩]) (.cond (.v 89) (.skip) (.exit 5))) (.seq (.block 6 (.seq (.ops [⟨none, .p .mv [.v 14], none⟩, ⟨none, .p (.faddr 5) [.v 9], none⟩, ⟨none, .ld 1 false (.l 0), none⟩, ⟨none, .p (.ixs 2) [.l 0, .v 16], none⟩, ⟨none, .p (.ixa 2 1) [.l 0, .c (.int .i64 0)], none⟩, ⟨none, .ld 1 false (.l 0), none⟩, ⟨none, .p (.conv .i64) [.l 0], none⟩, ⟨none, .bs [(.int .i64 0)] [(0, 1)] 1 [.l 0], none⟩, ⟨none, .ap 1 8 (.l 7) (.l 0), none⟩, ⟨none, .p .mv [.l 0], some 14⟩]) (.ops [⟨none, .p .mv [.v 15], none⟩, ⟨none, .p (.faddr 5) [.v 9], none⟩, ⟨none, .ld 1 false (.l 0), none⟩, ⟨none, .p (.ixs 2) [.l 0, .v 16], none⟩, ⟨none, .p (.ixa 2 1) [.l 0, .c (.int .i64 1)], none⟩, ⟨none, .ld 1 false (.l 0), none⟩, ⟨none, .p (.ib .rem) [.l 0, .c (.int .u8 3)], none⟩, ⟨none, .p (.ib .eql) [.l 0, .c (.int .u8 0)], none⟩, ⟨none, .bs [(.bool false)] [(0, 1)] 1 [.l 0], none⟩, ⟨none, .ap 1 1 (.l 8) (.l 0), none⟩, ⟨none, .p .mv [.l 0], some 15⟩]))) (.ops [⟨none, .p .mv [.v 16], none⟩, ⟨none, .p (.ib .add) [.l 0, .c (.int .i64 1)], none⟩, ⟨none, .p .mv [.l 0], some 16⟩])))))) (.seq (.seq (.ops [⟨none, .p .lenS [.v 14], none⟩, ⟨none, .p (.ib .gtr) [.l 0, .c (.int .i64 0)], some 115⟩]) (.cond (.v 115) (.ops [⟨none, .p (.faddr 4) [.v 9], none⟩, ⟨none, .ld 1 false (.l 0), none⟩, ⟨none, .p (.ixs 1) [.v 14, .c (.int .i64 0)], none⟩, ⟨none, .st 1 (.l 0) (.l 1), none⟩]) (.skip))) (.seq (.ops [⟨none, .p .mv [.v 15], none⟩, ⟨none, .p .mv [.v 15], none⟩, ⟨none, .p .lenS [.l 0], none⟩, ⟨none, .p .mv [.v 15], none⟩, ⟨none, .p .lenS [.l 0], none⟩, ⟨none, .p (.faddr 0) [.v 9], none⟩, ⟨none, .ld 1 false (.l 0), none⟩, ⟨none, .p (.ib .quo) [.l 0, .c (.int .u8 128)], none⟩, ⟨none, .p (.conv .i64) [.l 0], none⟩, ⟨none, .p .mn [.l 4, .l 0], none⟩, ⟨none, .p (.ib .sub) [.l 7, .l 0], none⟩, ⟨none, .p (.sl none 1 false true false) [.l 10, .l 0], none⟩, ⟨none, .p .mv [.l 0], some 15⟩]) scK0e)))))
def scK1 : IC := (.seq (.ops [⟨none, .p (.faddr 1) [.v 9], none⟩, ⟨none, .ld 1 false (.l 0), none⟩, ⟨none, .p (.faddr 2) [.v 9], none⟩, ⟨none, .ld 1 false (.l 0), none⟩, ⟨none, .cf 35 [.v 6, .l 2, .l 0], none⟩, ⟨none, .p (.ext 0) [.l 0], none⟩, ⟨none, .p (.ext 1) [.l 1], none⟩, ⟨none, .p .mv [.l 1], some 11⟩, ⟨none, .p .mv [.l 0], some 12⟩]) (.ops [⟨none, .p (.faddr 1) [.v 9], none⟩, ⟨none, .ld 1 false (.l 0), none⟩, ⟨none, .p (.faddr 2) [.v 9], none⟩, ⟨none, .ld 1 false (.l 0), none⟩, ⟨none, .cf 36 [.v 7, .l 2, .l 0], none⟩, ⟨none, .p .mv [.l 0], some 13⟩]))
def scK2 : IC := (.seq (.ops [⟨none, .p (.faddr 1) [.v 9], none⟩, ⟨none, .ld 1 false (.l 0), none⟩, ⟨none, .p (.faddr 2) [.v 9], none⟩, ⟨none, .ld 1 false (.l 0), none⟩, ⟨none, .p (.faddr 3) [.v 9], none⟩, ⟨none, .ld 1 false (.l 0), none⟩, ⟨none, .cf 37 [.v 6, .l 4, .l 2, .l 0], none⟩, ⟨none, .p (.ext 0) [.l 0], none⟩, ⟨none, .p (.ext 1) [.l 1], none⟩, ⟨none, .p .mv [.l 1], some 11⟩, ⟨none, .p .mv [.l 0], some 12⟩]) (.ops [⟨none, .p (.faddr 1) [.v 9], none⟩, ⟨none, .ld 1 false (.l 0), none⟩, ⟨none, .p (.faddr 2) [.v 9], none⟩, ⟨none, .ld 1 false (.l 0), none⟩, ⟨none, .p (.faddr 3) [.v 9], none⟩, ⟨none, .ld 1 false (.l 0), none⟩, ⟨none, .cf 38 [.v 7, .l 4, .l 2, .l 0], none⟩, ⟨none, .p .mv [.l 0], some 13⟩]))
def scK3 : IC := (.seq (.ops [⟨none, .p (.faddr 1) [.v 9], none⟩, ⟨none, .ld 1 false (.l 0), none⟩, ⟨none, .p (.faddr 4) [.v 9], none⟩, ⟨none, .ld 1 false (.l 0), none⟩, ⟨none, .p (.faddr 3) [.v 9], none⟩, ⟨none, .ld 1 false (.l 0), none⟩, ⟨none, .p (.ib .rem) [.l 0, .c (.int .i64 2)], none⟩, ⟨none, .p (.ib .eql) [.l 0, .c (.int .i64 0)], none⟩, ⟨none, .cf 39 [.v 6, .l 6, .l 4, .l 0], none⟩, ⟨none, .p (.ext 0) [.l 0], none⟩, ⟨none, .p (.ext 1) [.l 1], none⟩, ⟨none, .p .mv [.l 1], some 11⟩, ⟨none, .p .mv [.l 0], some 12⟩]) (.ops [⟨none, .p (.faddr 1) [.v 9], none⟩, ⟨none, .ld 1 false (.l 0), none⟩, ⟨none, .p (.faddr 4) [.v 9], none⟩, ⟨none, .ld 1 false (.l 0), none⟩, ⟨none, .p (.faddr 3) [.v 9], none⟩, ⟨none, .ld 1 false (.l 0), none⟩, ⟨none, .p (.ib .rem) [.l 0, .c (.int .i64 2)], none⟩, ⟨none, .p (.ib .eql) [.l 0, .c (.int .i64 0)], none⟩, ⟨none, .cf 40 [.v 7, .l 6, .l 4, .l 0], none⟩, ⟨none, .p .mv [.l 0], some 13⟩]))
def scK4 : IC := (.seq (.ops [⟨none, .ap 3 16 (.c .nils) (.v 6), none⟩, ⟨none, .p .mv [.l 0], some 11⟩]) (.seq (.seq (.ops [⟨none, .p (.faddr 1) [.v 9], none⟩, ⟨none, .ld 1 false (.l 0), none⟩, ⟨none, .p (.ib .lss) [.l 0, .c (.int .i64 0)], none⟩, ⟨(some (.l 0, false)), .p (.faddr 1) [.v 9], none⟩, ⟨(some (.l 1, false)), .ld 1 false (.l 0), none⟩, ⟨(some (.l 2, false)), .p .mv [.v 6], none⟩, ⟨(some (.l 3, false)), .p .lenS [.l 0], none⟩, ⟨(some (.l 4, false)), .p (.ib .geq) [.l 2, .l 0], none⟩, ⟨none, .p .pick [.l 5, .c (.bool true), .l 0], some 65⟩]) (.cond (.v 65) (.ops [⟨none, .p .mv [.c (.int .i64 4)], some 12⟩]) (.ops [⟨none, .p (.faddr 1) [.v 9], none⟩, ⟨none, .ld 1 false (.l 0), none⟩, ⟨none, .p (.faddr 3) [.v 9], none⟩, ⟨none, .ld 1 false (.l 0), none⟩, ⟨none, .p (.ib .rem) [.l 0, .c (.int .i64 2)], none⟩, ⟨none, .p (.ib .eql) [.l 0, .c (.int .i64 0)], none⟩, ⟨none, .p (.ixs 3) [.v 11, .l 4], none⟩, ⟨none, .p (.faddr 2) [.l 0], none⟩, ⟨none, .st 1 (.l 0) (.l 2), none⟩]))) (.ops [⟨none, .p (.faddr 1) [.v 9], none⟩, ⟨none, .ld 1 false (.l 0), none⟩, ⟨none, .p (.faddr 3) [.v 9], none⟩, ⟨none, .ld 1 false (.l 0), none⟩, ⟨none, .p (.ib .rem) [.l 0, .c (.int .i64 2)], none⟩, ⟨none, .p (.ib .eql) [.l 0, .c (.int .i64 0)], none⟩, ⟨none, .cf 41 [.v 7, .l 4, .l 0], none⟩, ⟨none, .p .mv [.l 0], some 13⟩])))
def scCmp : IC := (.seq (.seq (.ops [⟨none, .p (.ib .neq) [.v 13, .v 12], none⟩, ⟨(some (.l 0, false)), .p .mv [.v 10], none⟩, ⟨(some (.l 1, false)), .p .mv [.v 6], none⟩, ⟨(some (.l 2, false)), .cf 17 [.l 1, .l 0], none⟩, ⟨(some (.l 3, false)), .p (.ib .eql) [.l 0, .c (.int .i64 0)], none⟩, ⟨none, .p .pick [.l 4, .c (.bool true), .l 0], none⟩, ⟨(some (.l 0, false)), .p .mv [.v 7], none⟩, ⟨(some (.l 1, false)), .p .mv [.v 11], none⟩, ⟨(some (.l 2, false)), .cf 17 [.l 1, .l 0], none⟩, ⟨(some (.l 3, false)), .p (.ib .eql) [.l 0, .c (.int .i64 0)], none⟩, ⟨none, .p .pick [.l 4, .c (.bool true), .l 0], some 224⟩]) (.cond (.v 224) (.seq (.ops [⟨none, .p .mv [.c (.bool false)], some 4⟩]) (.ret)) (.skip))) (.ops [⟨none, .p .mv [.v 11], some 6⟩]))
def fn5x : IFn := ⟨2, .seq (.ops [⟨none, .bx (.v 0), some 2⟩, ⟨none, .p .mv [.c (.bool false)], some 4⟩]) (.seq (.seq (.ops [⟨none, .p .lenS [.v 1], none⟩, ⟨none, .p (.ib .gtr) [.l 0, .c (.int .i64 12)], some 19⟩]) (.cond (.v 19) (.seq (.ops [⟨none, .cf 20 [], none⟩, ⟨none, .p .mv [.l 0], some 4⟩]) (.ret)) (.skip))) (.seq (.seq (.ops [⟨none, .p .mv [.c (.int .i64 0)], some 5⟩]) (.block 0 (.loop (.seq (.seq (.ops [⟨none, .p .lenS [.v 1], none⟩, ⟨none, .p (.ib .lss) [.v 5, .l 0], some 24⟩]) (.cond (.v 24) (.skip) (.exit 0))) (.seq (.block 1 (.seq (.ops [⟨none, .p (.ixs 6) [.v 1, .v 5], none⟩, ⟨none, .p (.faddr 5) [.l 0], none⟩, ⟨none, .ld 1 false (.l 0), none⟩, ⟨none, .p .lenS [.l 0], none⟩, ⟨none, .p (.ib .gtr) [.l 0, .c (.int .i64 10)], some 33⟩]) (.cond (.v 33) (.seq (.ops [⟨none, .cf 20 [], none⟩, ⟨none, .p .mv [.l 0], some 4⟩]) (.ret)) (.skip)))) (.ops [⟨none, .p .mv [.v 5], none⟩, ⟨none, .p (.ib .add) [.l 0, .c (.int .i64 1)], none⟩, ⟨none, .p .mv [.l 0], some 5⟩])))))) (.seq (.ops [⟨none, .ld 1 true (.v 2), none⟩, ⟨none, .cf 21 [.l 0], none⟩, ⟨none, .p .mv [.l 0], some 6⟩]) (.seq (.ops [⟨none, .cf 7 [.v 6], none⟩, ⟨none, .p .mv [.l 0], some 7⟩]) (.seq (.seq (.ops [⟨none, .p .mv [.c (.int .i64 0)], some 8⟩]) (.block 2 (.loop (.seq (.seq (.ops [⟨none, .p .lenS [.v 1], none⟩, ⟨none, .p (.ib .lss) [.v 8, .l 0], some 42⟩]) (.cond (.v 42) (.skip) (.exit 2))) (.seq (.block 3 (.seq (.ops [⟨none, .p (.ixs 6) [.v 1, .v 8], none⟩, ⟨none, .ld 6 true (.l 0), none⟩, ⟨none, .al [(.int .u8 0), (.int .i64 0), (.int .i64 0), (.int .i64 0), (.int .i64 0), .nils], some 9⟩, ⟨none, .st 6 (.v 9) (.l 0), none⟩]) (.seq (.ops [⟨none, .cf 33 [.v 7], none⟩, ⟨none, .p .mv [.l 0], some 10⟩]) (.seq (.ops [⟨none, .p .mv [.c .nils], some 11⟩]) (.seq (.ops [⟨none, .p .mv [.c (.int .i64 0)], some 12⟩]) (.seq (.ops [⟨none, .p .mv [.c (.int .i64 0)], some 13⟩]) (.seq (.seq (.ops [⟨none, .p (.faddr 0) [.v 9], none⟩, ⟨none, .ld 1 false (.l 0), none⟩, ⟨none, .p (.ib .rem) [.l 0, .c (.int .u8 5)], some 53⟩]) (.block 4 (.seq (.ops [⟨none, .p (.ib .eql) [.v 53, .c (.int .u8 0)], none⟩, ⟨none, .p .mv [.l 0], some 83⟩]) (.cond (.v 83) scK0 (.seq (.ops [⟨none, .p (.ib .eql) [.v 53, .c (.int .u8 1)], none⟩, ⟨none, .p .mv [.l 0], some 147⟩]) (.cond (.v 147) scK1 (.seq (.ops [⟨none, .p (.ib .eql) [.v 53, .c (.int .u8 2)], none⟩, ⟨none, .p .mv [.l 0], some 164⟩]) (.cond (.v 164) scK2 (.seq (.ops [⟨none, .p (.ib .eql) [.v 53, .c (.int .u8 3)], none⟩, ⟨none, .p .mv [.l 0], some 185⟩]) (.cond (.v 185) scK3 scK4)))))))))) scCmp))))))) (.ops [⟨none, .p .mv [.v 8], none⟩, ⟨none, .p (.ib .add) [.l 0, .c (.int .i64 1)], none⟩, ⟨none, .p .mv [.l 0], some 8⟩])))))) (.seq (.ops [⟨none, .cf 20 [], none⟩, ⟨none, .p .mv [.l 0], some 4⟩]) (.ret))))))), [.t 4], [0, 1, 2, 4, 5, 6, 7, 8, 9, 10, 11, 12, 13, 14, 15, 16, 19, 24, 33, 42, 53, 65, 83, 89, 115, 147, 164, 185, 224]⟩
/-- paternoster/paternosterlaw34.LayoutsErrors -/
theorem g5x : F.get 5 = some fn5x := rfl
end Go.Ev.Lay
