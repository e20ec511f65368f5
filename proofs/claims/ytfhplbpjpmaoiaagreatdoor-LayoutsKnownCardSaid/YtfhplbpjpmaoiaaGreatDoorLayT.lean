/- An evaluator of the program and contracts proved over it: the texts LayKa LayKb LayKc. -/
import Derived.Test.YtfhplbpjpmaoiaaGreatDoorLayQ
set_option linter.unusedSimpArgs false
set_option linter.unusedVariables false
set_option linter.constructorNameAsVariable false
/- The definition: Set. -/
namespace Go.Ev.Lay
set_option maxRecDepth 4000
def rset (L : List (Int × Bool × Bool)) (i : Nat) (size : Int) (kn : Bool) : List (Int × Bool × Bool) := L.set i (size, kn, (sy L).getD i false)
theorem rset_sz (L : List (Int × Bool × Bool)) (i : Nat) (size : Int) (kn : Bool) : sz (rset L i size kn) = (sz L).set i size := by simp [rset, sz, List.map_set]
theorem rset_ky (L : List (Int × Bool × Bool)) (i : Nat) (size : Int) (kn : Bool) : ky (rset L i size kn) = (ky L).set i kn := by simp [rset, ky, List.map_set]
theorem rset_sy (L : List (Int × Bool × Bool)) (i : Nat) (size : Int) (kn : Bool) : sy (rset L i size kn) = sy L := by
  unfold rset
  have : sy (L.set i (size, kn, (sy L).getD i false)) = (sy L).set i ((sy L).getD i false) := by simp [sy, List.map_set]
  rw [this]
  apply List.ext_getElem?
  intro j
  rw [List.getElem?_set]
  by_cases c : i = j
  · subst c
    by_cases c2 : i < (sy L).length
    · rw [if_pos rfl, if_pos c2, List.getElem?_eq_getElem c2]; simp [List.getD, c2]
    · rw [if_pos rfl, if_neg c2, List.getElem?_eq_none (by omega)]
  · rw [if_neg c]
theorem rset_len (L : List (Int × Bool × Bool)) (i : Nat) (size : Int) (kn : Bool) : (rset L i size kn).length = L.length := by simp [rset]
theorem flat_set : ∀ (L : List (Int × Bool × Bool)) (i : Nat) (size : Int) (kn : Bool), i < L.length → ((L.flatMap rc).set (i * 3) (.int .i64 size)).set (i * 3 + 1) (.bool kn) = (rset L i size kn).flatMap rc
  | [], i, _, _, h => by simp at h
  | r :: L, 0, size, kn, _ => by simp [rset, rc, sy, List.flatMap_cons]
  | r :: L, i + 1, size, kn, h => by
    have ih := flat_set L i size kn (by simpa using h)
    have e1 : (i + 1) * 3 = i * 3 + 3 := by omega
    have e2 : rset (r :: L) (i + 1) size kn = r :: rset L i size kn := by simp [rset, sy]
    rw [e2, List.flatMap_cons, List.flatMap_cons, ← ih, e1]
    simp [rc]
theorem rSet_ok {h : Heap} {v : V} {L : List (Int × Bool × Bool)} {i size : Int} {kn : Bool} (w : WF h) (a : Rws h v L) (f : Fit (sz L)) (hl : L.length ≤ 1024) :
    Does go 39 [v, .int .i64 i, .int .i64 size, .bool kn] h fun u h' => Fr [] h h' ∧ if xsetE (sz L) i size = 0 then ∃ v', u = .tup [v', .int .i64 0] ∧ GRecs rc 3 h' h.next v' (rset L i.toNat size kn) else u = .tup [v, .int .i64 (xsetE (sz L) i size)] := by
  have al := a.len
  have f1 := f.nn
  have f2 := f.2.1
  unfold xsetE
  rw [sz_len]
  by_cases c0 : i < 0
  · refine does_fn g39 rfl ?_
    simp (disch := omega) only [fn39, evs, ↓reduceIte, Nat.reduceEqDiff, Nat.reduceAdd, Nat.reduceMul, Nat.reduceLeDiff, Nat.reduceLT, Int.reduceNeg, DF, eff, Nat.reduceSub, fwrap_i64, eq_true c0]
    refine ⟨Fr.refl w, ?_⟩
    rw [if_neg (show ¬ (0 ≤ i ∧ i < (L.length : Int)) by omega), if_neg (by omega)]
  by_cases c1 : (L.length : Int) ≤ i
  · refine does_fn g39 rfl ?_
    simp (disch := omega) only [fn39, evs, ↓reduceIte, Nat.reduceEqDiff, Nat.reduceAdd, Nat.reduceMul, Nat.reduceLeDiff, Nat.reduceLT, Int.reduceNeg, DF, eff, Nat.reduceSub, fwrap_i64, eq_false c0, al, eq_true c1]
    refine ⟨Fr.refl w, ?_⟩
    rw [if_neg (show ¬ (0 ≤ i ∧ i < (L.length : Int)) by omega), if_neg (by omega)]
  rw [if_pos (show 0 ≤ i ∧ i < (L.length : Int) by omega)]
  by_cases c2 : size < 1
  · refine does_fn g39 rfl ?_
    simp (disch := omega) only [fn39, evs, ↓reduceIte, Nat.reduceEqDiff, Nat.reduceAdd, Nat.reduceMul, Nat.reduceLeDiff, Nat.reduceLT, Int.reduceNeg, DF, eff, Nat.reduceSub, fwrap_i64, eq_false c0, al, eq_false c1, eq_true c2]
    refine ⟨Fr.refl w, ?_⟩
    simp
  by_cases c3 : 2305843009213693952 < size
  · refine does_fn g39 rfl ?_
    simp (disch := omega) only [fn39, evs, ↓reduceIte, Nat.reduceEqDiff, Nat.reduceAdd, Nat.reduceMul, Nat.reduceLeDiff, Nat.reduceLT, Int.reduceNeg, DF, eff, Nat.reduceSub, fwrap_i64, eq_false c0, al, eq_false c1, eq_false c2, eq_true c3]
    refine ⟨Fr.refl w, ?_⟩
    simp
  rw [if_neg (show ¬ (size < 1 ∨ 2305843009213693952 < size) by omega)]
  obtain ⟨n, rfl⟩ : ∃ n : Nat, i = n := ⟨i.toNat, by omega⟩
  rw [Int.toNat_natCast]
  obtain ⟨bb, o, r, e1, e2, e3, e4, e5, e6⟩ := Rws.ix a n (by omega)
  have sg : (sz L).getD n 0 = r.1 := by have := sz_get e6; simp [List.getD, this]
  have rb : 0 ≤ r.1 ∧ r.1 ≤ (sz L).sum := by
    have := getD_le (i := n) f.1
    rw [sg] at this; exact ⟨this.2, this.1⟩
  rw [sg]
  refine does_fn g39 rfl ?_
  simp (disch := omega) only [fn39, evs, ↓reduceIte, Nat.reduceEqDiff, Nat.reduceAdd, Nat.reduceMul, Nat.reduceLeDiff, Nat.reduceLT, Int.reduceNeg, DF, eff, Nat.reduceSub, fwrap_i64, eq_false c0, al, eq_false c1, eq_false c2, eq_false c3]
  refine OQ_does (rTotal_ok a f) ?_
  rintro _ _ ⟨rfl, hh⟩
  replace hh := hh.symm
  subst hh
  by_cases c4 : 4611686018427387904 - ((sz L).sum - r.1) < size
  · simp (disch := omega) only [evs, ↓reduceIte, Nat.reduceEqDiff, Nat.reduceAdd, Nat.reduceMul, Nat.reduceLeDiff, Nat.reduceLT, Int.reduceNeg, DF, eff, Nat.reduceSub, fwrap_i64, e1, e2, eq_true c4]
    refine ⟨Fr.refl w, ?_⟩
    simp
  simp (disch := omega) only [evs, ↓reduceIte, Nat.reduceEqDiff, Nat.reduceAdd, Nat.reduceMul, Nat.reduceLeDiff, Nat.reduceLT, Int.reduceNeg, DF, eff, Nat.reduceSub, fwrap_i64, e1, e2, eq_false c4]
  refine W_loop (fun k env hh => ∃ (j : Nat) (vo : V), Fr [] h hh ∧ env.get 0 = some v ∧ env.get 1 = some (.int .i64 n) ∧ env.get 2 = some (.int .i64 size) ∧ env.get 3 = some (.bool kn) ∧ env.get 11 = some (.int .i64 j) ∧ env.get 10 = some vo ∧ j ≤ L.length ∧ GRecs rc 3 hh h.next vo (L.take j) ∧ k = L.length - j) L.length (by omega) ?_ ?_
  · exact ⟨0, .nils, Fr.refl w, (by simp [T.get_set]), (by simp [T.get_set]), (by simp [T.get_set]), (by simp [T.get_set]), (by simp [T.get_set]), (by simp [T.get_set]), by omega, GRecs.nil, rfl⟩
  rintro k env hh ⟨j, vo, F, g0, g1, g2, g3, g11, g10, hj, gO, rfl⟩
  have a2 := Recs.fr a F
  have al2 := a2.len
  by_cases hlt : (j : Int) < L.length
  · obtain ⟨b', o', r', d1, d2, d3, d4, d5, d6⟩ := Rws.ix a2 j hlt
    have tk : L.take (j + 1) = L.take j ++ [r'] := by rw [List.take_add_one, d6]; simp
    obtain ⟨h5, e_h5⟩ : ∃ h5, h5 = halloc hh (rc r') := ⟨_, rfl⟩
    have F_h5 : Fr [] hh h5 := e_h5 ▸ Fr.halloc F.wf _
    have o_h5 : Own h5 hh.next (rc r') := e_h5 ▸ Own.new F.wf _
    have e5' : halloc hh [.int .i64 r'.1, .bool r'.2.1, .bool r'.2.2] = h5 := e_h5.symm
    simp (disch := omega) only [evs, ↓reduceIte, Nat.reduceEqDiff, Nat.reduceAdd, Nat.reduceMul, Nat.reduceLeDiff, Nat.reduceLT, Int.reduceNeg, DF, eff, Nat.reduceSub, fwrap_i64, g0, g1, g2, g3, g11, g10, al2, eq_true hlt, d1, d5, List.length_cons, List.length_nil, e5']
    refine GRecs.append (x := r') F_h5.wf (gO.fr F_h5) rc_len (rc_ones _) (by omega) o_h5 (Nat.le_trans F.next F_h5.next) (by simp; omega) ?_
    intro v' h6 g6 F6
    have U6 := Gs.up (gO.fr F_h5) F6
    simp (disch := omega) only [evs, ↓reduceIte, Nat.reduceEqDiff, Nat.reduceAdd, Nat.reduceMul, Nat.reduceLeDiff, Nat.reduceLT, Int.reduceNeg, DF, eff, Nat.reduceSub, fwrap_i64, g0, g1, g2, g3, g11, g10]
    refine (roundQ_norm _ _ _).2 ⟨L.length - (j + 1), by omega, j + 1, v', (F.then F_h5).ups w U6, (by simp [T.get_set, g0]), (by simp [T.get_set, g1]), (by simp [T.get_set, g2]), (by simp [T.get_set, g3]), (by simp [T.get_set]), (by simp [T.get_set]), by omega, by rw [tk]; exact g6, rfl⟩
    done
  · have ej : j = L.length := by omega
    subst ej
    rw [List.take_length] at gO
    rcases gO with ⟨_, e2'⟩ | ⟨b', q, rfl, hq, hq0, hB, oq⟩
    · have := congrArg List.length e2'
      rw [flat_len rc_len] at this; simp at this; omega
    rw [flat_len rc_len] at hq
    have : q = L.length := by omega
    subst this
    have ix := aP_ixU 3 b' 0 L.length 3 .i64 (n : Int) (by omega) (by omega)
    rw [Int.toNat_natCast, Nat.zero_add] at ix
    have fl := flat_len rc_len L
    simp (disch := omega) only [evs, ↓reduceIte, Nat.reduceEqDiff, Nat.reduceAdd, Nat.reduceMul, Nat.reduceLeDiff, Nat.reduceLT, Int.reduceNeg, DF, eff, Nat.reduceSub, fwrap_i64, g0, g1, g2, g3, g11, g10, al2, eq_false hlt, ix]
    refine store_step (c' := (L.flatMap rc).set (n * 3) (.int .i64 size)) F.wf oq rfl rfl (updO_set1 _ _ _ (by rw [fl]; omega)) ?_
    rintro h7 o7 F7 n7
    simp (disch := omega) only [evs, ↓reduceIte, Nat.reduceEqDiff, Nat.reduceAdd, Nat.reduceMul, Nat.reduceLeDiff, Nat.reduceLT, Int.reduceNeg, DF, eff, Nat.reduceSub, fwrap_i64, g0, g1, g2, g3, g11, g10, ix]
    refine store_step (c' := ((L.flatMap rc).set (n * 3) (.int .i64 size)).set (n * 3 + 1) (.bool kn)) F7.wf o7 rfl rfl (updO_set1 _ _ _ (by rw [List.length_set, fl]; omega)) ?_
    rintro h8 o8 F8 n8
    simp (disch := omega) only [evs, ↓reduceIte, Nat.reduceEqDiff, Nat.reduceAdd, Nat.reduceMul, Nat.reduceLeDiff, Nat.reduceLT, Int.reduceNeg, DF, eff, Nat.reduceSub, fwrap_i64, g10]
    rw [flat_set L n size kn (by omega)] at o8
    refine ⟨(F.fresh F7 w hB).fresh F8 w hB, ?_⟩
    exact ⟨.sliceU b' 0 L.length 3, rfl, .inr ⟨b', L.length, rfl, by rw [flat_len rc_len, rset_len], hq0, hB, o8⟩⟩
end Go.Ev.Lay

/- The definition: Settle. -/
namespace Go.Ev.Lay
set_option maxRecDepth 4000
def AttF (l : List Int) (bs : List Bool) (view over s : Int) (A : List Int) : Prop := ∃ hd, HdR l bs s l.length hd ∧ A = if l = [] then [] else attR (winL l view over s).1 (winL l view over s).2 hd l.length
inductive SetR (m : Int → Int) (bs : List Bool) (view over anchor delta : Int) (lo : Bool) : Int → Nat → List Int → List Bool → Int → Int → Int → List Int → List Bool → Prop
  | bad {s : Int} {r : Nat} {l : List Int} {ks : List Bool} {A l' : List Int} {ks' : List Bool} : AttF l bs view over (sAt l view anchor delta lo r s) A → (lookR m A l ks false).1 ≠ 0 → SetR m bs view over anchor delta lo s r l ks 0 0 (lookR m A l ks false).1 l' ks'
  | done {s : Int} {r : Nat} {l : List Int} {ks : List Bool} {A l' : List Int} {ks' : List Bool} : AttF l bs view over (sAt l view anchor delta lo r s) A → lookR m A l ks false = (0, l', ks', false) → SetR m bs view over anchor delta lo s r l ks (sAt l view anchor delta lo r s) r 0 l' ks'
  | more {s : Int} {r : Nat} {l : List Int} {ks : List Bool} {A l' : List Int} {ks' : List Bool} {s2 n2 e2 : Int} {l2 : List Int} {ks2 : List Bool} : AttF l bs view over (sAt l view anchor delta lo r s) A → lookR m A l ks false = (0, l', ks', true) →
      SetR m bs view over anchor delta lo (sAt l view anchor delta lo r s) (r + 1) l' ks' s2 n2 e2 l2 ks2 → SetR m bs view over anchor delta lo s r l ks s2 n2 e2 l2 ks2
theorem set_sum : ∀ (l : List Int) (i : Nat) (x : Int), i < l.length → (l.set i x).sum = l.sum - l.getD i 0 + x
  | [], i, x, h => by simp at h
  | y :: l, 0, x, _ => by simp [List.getD]; omega
  | y :: l, i + 1, x, h => by
    have := set_sum l i x (by simpa using h)
    simp only [List.set_cons_succ, List.sum_cons, this]
    simp [List.getD]; omega
theorem fit_set {l : List Int} {i x : Int} (f : Fit l) (z : xsetE l i x = 0) : Fit (l.set i.toNat x) := by
  obtain ⟨a1, a2, a3, a4⟩ := xset_zero z
  unfold xsetE at z
  rw [if_pos ⟨a1, a2⟩, if_neg (by omega)] at z
  refine ⟨fun y hy => ?_, ?_, by simpa using f.2.2⟩
  · rcases List.mem_or_eq_of_mem_set hy with q | q
    · exact f.1 y q
    · omega
  · rw [set_sum l i.toNat x (by omega)]
    split at z <;> omega
theorem lookR_fit (m : Int → Int) : ∀ (A l : List Int) (ks : List Bool) (mo : Bool), Fit l → Fit (lookR m A l ks mo).2.1
  | [], l, ks, mo, f => f
  | i :: A, l, ks, mo, f => by
    rw [lookR]
    split
    · split
      · exact lookR_fit m A l ks mo f
      · split
        · rename_i z; exact lookR_fit m A _ _ true (fit_set f z)
        · exact f
    · exact f
theorem att_same {l : List Int} {bs : List Bool} {view over s : Int} {A A' : List Int} (f : Fit l) (pos : ∀ x ∈ l, 1 ≤ x) (hl : bs.length = l.length) (ok : okF view over) (cl : clampL l view s = s) (a : AttL l bs view over s A) (b : AttF l bs view over s A') : A = A' := by
  obtain ⟨hd, h1, rfl⟩ := b
  unfold AttL at a
  by_cases c : l = []
  · rw [if_pos c] at a ⊢; exact a
  · rw [if_neg c] at a ⊢
    have hp := pos_sum pos c
    have := ok.1
    have hs : 0 ≤ s ∧ s < l.sum := by unfold clampL at cl; omega
    exact att_eq f hl hs.1 hs.2 c ok.1 ok.2.2.1 a h1
theorem sAt_clamp (l : List Int) (view anchor delta : Int) (lo : Bool) (r : Nat) (s : Int) : clampL l view (sAt l view anchor delta lo r s) = sAt l view anchor delta lo r s := clamp_idem _ _ _
theorem SetS.same {m : Int → Int} {bs : List Bool} {view over anchor delta : Int} {lo : Bool} {s : Int} {r : Nat} {l : List Int} {ks : List Bool} {s1 n1 e1 : Int} {l1 : List Int} {ks1 : List Bool} (ok : okF view over) (a : SetS m bs view over anchor delta lo s r l ks s1 n1 e1 l1 ks1) :
    ∀ {s2 n2 e2 : Int} {l2 : List Int} {ks2 : List Bool}, SetR m bs view over anchor delta lo s r l ks s2 n2 e2 l2 ks2 → Fit l → (∀ x ∈ l, 1 ≤ x) → bs.length = l.length → ks.length = l.length → s1 = s2 ∧ n1 = n2 ∧ e1 = e2 ∧ (e1 = 0 → l1 = l2 ∧ ks1 = ks2) := by
  induction a with
  | bad a1 a2 =>
    intro s2 n2 e2 l2 ks2 b f pos hl hk
    cases b with
    | bad b1 b2 => have := att_same f pos hl ok (sAt_clamp _ _ _ _ _ _ _) a1 b1; subst this; exact ⟨rfl, rfl, rfl, fun z => absurd z a2⟩
    | done b1 b2 => have := att_same f pos hl ok (sAt_clamp _ _ _ _ _ _ _) a1 b1; subst this; rw [b2] at a2; exact absurd rfl a2
    | more b1 b2 _ => have := att_same f pos hl ok (sAt_clamp _ _ _ _ _ _ _) a1 b1; subst this; rw [b2] at a2; exact absurd rfl a2
  | done a1 a2 =>
    intro s2 n2 e2 l2 ks2 b f pos hl hk
    cases b with
    | bad b1 b2 => have := att_same f pos hl ok (sAt_clamp _ _ _ _ _ _ _) a1 b1; subst this; rw [a2] at b2; exact absurd rfl b2
    | done b1 b2 => have := att_same f pos hl ok (sAt_clamp _ _ _ _ _ _ _) a1 b1; subst this; rw [a2] at b2; cases b2; exact ⟨rfl, rfl, rfl, fun _ => ⟨rfl, rfl⟩⟩
    | more b1 b2 _ => have := att_same f pos hl ok (sAt_clamp _ _ _ _ _ _ _) a1 b1; subst this; rw [a2] at b2; cases b2
  | @more s r l ks A l' ks' s2' n2' e2' l2' ks2' a1 a2 _ ih =>
    intro s2 n2 e2 l2 ks2 b f pos hl hk
    have sp := lookR_spec m A l ks false hk pos
    have ft := lookR_fit m A l ks false f
    rw [a2] at sp ft
    simp only [] at sp ft
    cases b with
    | bad b1 b2 => have := att_same f pos hl ok (sAt_clamp _ _ _ _ _ _ _) a1 b1; subst this; rw [a2] at b2; exact absurd rfl b2
    | done b1 b2 => have := att_same f pos hl ok (sAt_clamp _ _ _ _ _ _ _) a1 b1; subst this; rw [a2] at b2; cases b2
    | more b1 b2 b3 => have := att_same f pos hl ok (sAt_clamp _ _ _ _ _ _ _) a1 b1; subst this; rw [a2] at b2; cases b2; exact ih b3 ft sp.2.2.1 (by omega) (by omega)
end Go.Ev.Lay

/- The definition: Settle, the walk. -/
namespace Go.Ev.Lay
set_option maxRecDepth 4000
/-- sizes that rows are measured by -/
def mOf (M : List Int) : Int → Int := fun i => M.getD (i.toNat % M.length) 0
theorem attF_range {l : List Int} {bs : List Bool} {view over s : Int} {A : List Int} (a : AttF l bs view over s A) : A.length ≤ l.length ∧ ∀ i ∈ A, 0 ≤ i ∧ i < l.length := by
  obtain ⟨hd, _, rfl⟩ := a
  split
  · simp
  · refine ⟨attR_len _ _ _ _, fun i hi => ?_⟩
    simp only [attR, List.mem_map, List.mem_filter, List.mem_range] at hi
    obtain ⟨j, ⟨hj, _⟩, rfl⟩ := hi
    omega
theorem xset_pos {l : List Int} {i x : Int} (h : xsetE l i x ≠ 0) : 0 < xsetE l i x := by
  unfold xsetE at h ⊢
  split
  · split
    · omega
    · split
      · omega
      · rename_i a b c; rw [if_pos a, if_neg b, if_neg c] at h; omega
  · omega
theorem Good.rset {L : List (Int × Bool × Bool)} (g : Good L) {i : Nat} {x : Int} {kn : Bool} (z : xsetE (sz L) i x = 0) : Good (rset L i x kn) := by
  obtain ⟨_, _, x1, x2⟩ := xset_zero z
  refine ⟨by rw [rset_len]; exact g.len, fun r hr => ?_, ?_⟩
  · rcases List.mem_or_eq_of_mem_set hr with q | q
    · exact g.one r q
    · subst q; exact ⟨x1, x2⟩
  · rw [rset_sz]; have := (fit_set g.fit z).2.1; rw [Int.toNat_natCast] at this; exact this
theorem rSettle_ok {h : Heap} {v vm : V} {L : List (Int × Bool × Bool)} {M : List Int} {view over delta : Int} {an : Nat} {lo : Bool} (w : WF h) (a : Rws h v L) (am : Ints h vm M) (g : Good L) (ok : okF view over) (ha : an < L.length) (d0 : 0 ≤ delta) (d1 : delta ≤ 2305843009213693952)
    (hM : 0 < M.length) (hM2 : M.length ≤ 1000) :
    Does go 19 [v, .int .i64 view, .int .i64 over, .bool lo, .int .i64 (an : Int), .int .i64 delta, vm] h fun u h' => Fr [] h h' ∧ ∃ s n e L' v', u = .tup [v', .int .i64 s, .int .i64 n, .int .i64 e] ∧
      SetR (mOf M) (sy L) view over an delta lo 0 0 (sz L) (ky L) s n e (sz L') (ky L') ∧ (e = 0 → Rws h' v' L' ∧ sy L' = sy L ∧ Good L') := by
  have gl := g.len
  obtain ⟨k1, k2, k3, k4⟩ := ok
  have ok : okF view over := ⟨k1, k2, k3, k4⟩
  have hc0 : (ky L).count false ≤ (ky L).length := List.count_le_length
  rw [ky_len] at hc0
  refine does_fn g19 rfl ?_
  simp (disch := omega) only [fn19, evs, ↓reduceIte, Nat.reduceEqDiff, Nat.reduceAdd, Nat.reduceMul, Nat.reduceLeDiff, Nat.reduceLT, Int.reduceNeg, DF, eff, Nat.reduceSub, fwrap_i64]
  refine W_loop (fun k env hh => ∃ (r : Nat) (s : Int) (vn : V) (N : List (Int × Bool × Bool)), Fr [] h hh ∧ env.get 0 = some v ∧ env.get 1 = some (.int .i64 view) ∧ env.get 2 = some (.int .i64 over) ∧ env.get 3 = some (.bool lo) ∧ env.get 4 = some (.int .i64 (an : Int)) ∧ env.get 5 = some (.int .i64 delta) ∧ env.get 6 = some vm ∧
    env.get 18 = some vn ∧ env.get 19 = some (.int .i64 s) ∧ env.get 20 = some (.int .i64 r) ∧ Rws hh vn N ∧ Good N ∧ N.length = L.length ∧ sy N = sy L ∧ (ky N).count false ≤ k ∧ r + (ky N).count false ≤ 1024 ∧
    ∀ s2 n2 e2 l2 ks2, SetR (mOf M) (sy L) view over an delta lo s r (sz N) (ky N) s2 n2 e2 l2 ks2 → SetR (mOf M) (sy L) view over an delta lo 0 0 (sz L) (ky L) s2 n2 e2 l2 ks2) ((ky L).count false) (by omega) ?_ ?_
  · exact ⟨0, 0, v, L, Fr.refl w, (by simp [T.get_set]), (by simp [T.get_set]), (by simp [T.get_set]), (by simp [T.get_set]), (by simp [T.get_set]), (by simp [T.get_set]), (by simp [T.get_set]), (by simp [T.get_set]), (by simp [T.get_set]), (by simp [T.get_set]), a, g, rfl, rfl, Nat.le_refl _, by omega, fun _ _ _ _ _ x => x⟩
  rintro k env hh ⟨r, s, vn, N, F, g0, g1, g2, g3, g4, g5, g6, g18, g19, g20, aN, gN, lN, sN, hk, hr, up⟩
  have fit := gN.fit
  have f1 := fit.nn
  have f2 := fit.2.1
  have t1 := take_le fit an
  obtain ⟨s', hs'⟩ : ∃ s', s' = sAt (sz N) view an delta lo r s := ⟨_, rfl⟩
  have ci : clampL (sz N) view s' = s' := by rw [hs']; exact sAt_clamp _ _ _ _ _ _ _
  have sb : 0 ≤ s' ∧ (s' < (sz N).sum ∨ N = []) ∧ s' ≤ 4611686018427387904 := by
    by_cases c : N = []
    · unfold clampL at ci; exact ⟨by omega, .inr c, by omega⟩
    · have := gN.len_pos c
      unfold clampL at ci; exact ⟨by omega, .inl (by omega), by omega⟩
  have a2 := aN
  have three : (r : Int) = 0 ∨ (¬ (r : Int) = 0 ∧ lo = false) ∨ (¬ (r : Int) = 0 ∧ lo = true) := by cases lo <;> simp <;> omega
  rcases three with cr | ⟨cr, cl⟩ | ⟨cr, cl⟩
  case' inl =>
    have er : sAt (sz N) view an delta lo r s = clampL (sz N) view (((sz N).take an).sum + delta) := by
      unfold sAt; rw [if_pos ⟨by omega, .inl (by omega)⟩, Int.toNat_natCast]
    simp (disch := omega) only [evs, ↓reduceIte, Nat.reduceEqDiff, Nat.reduceAdd, Nat.reduceMul, Nat.reduceLeDiff, Nat.reduceLT, Int.reduceNeg, DF, eff, Nat.reduceSub, fwrap_i64, g0, g1, g2, g3, g4, g5, g6, g18, g19, g20, eq_true (show (0 : Int) ≤ an by omega), eq_true cr]
    refine OQ_does (rTop_ok aN fit (by omega)) ?_
    rintro _ _ ⟨rfl, hh⟩
    replace hh := hh.symm
    subst hh
    simp (disch := omega) only [evs, ↓reduceIte, Nat.reduceEqDiff, Nat.reduceAdd, Nat.reduceMul, Nat.reduceLeDiff, Nat.reduceLT, Int.reduceNeg, DF, eff, Nat.reduceSub, fwrap_i64, g0, g1, g2, g3, g4, g5, g6, g18, g19, g20]
    refine OQ_does (rClamp_ok aN fit k1 k2) ?_
    rintro _ _ ⟨rfl, hh⟩
    replace hh := hh.symm
    subst hh
    rw [← er, ← hs']
    simp (disch := omega) only [evs, ↓reduceIte, Nat.reduceEqDiff, Nat.reduceAdd, Nat.reduceMul, Nat.reduceLeDiff, Nat.reduceLT, Int.reduceNeg, DF, eff, Nat.reduceSub, fwrap_i64, g0, g1, g2, g3, g4, g5, g6, g18, g19, g20]
  case' inr.inl =>
    have g3' := g3
    rw [cl] at g3'
    have er : sAt (sz N) view an delta lo r s = clampL (sz N) view (((sz N).take an).sum + delta) := by
      unfold sAt; rw [if_pos ⟨by omega, .inr cl⟩, Int.toNat_natCast]
    simp (disch := omega) only [evs, ↓reduceIte, Nat.reduceEqDiff, Nat.reduceAdd, Nat.reduceMul, Nat.reduceLeDiff, Nat.reduceLT, Int.reduceNeg, DF, eff, Nat.reduceSub, fwrap_i64, g0, g1, g2, g3', g4, g5, g6, g18, g19, g20, eq_true (show (0 : Int) ≤ an by omega), eq_false cr]
    refine OQ_does (rTop_ok aN fit (by omega)) ?_
    rintro _ _ ⟨rfl, hh⟩
    replace hh := hh.symm
    subst hh
    simp (disch := omega) only [evs, ↓reduceIte, Nat.reduceEqDiff, Nat.reduceAdd, Nat.reduceMul, Nat.reduceLeDiff, Nat.reduceLT, Int.reduceNeg, DF, eff, Nat.reduceSub, fwrap_i64, g0, g1, g2, g3', g4, g5, g6, g18, g19, g20]
    refine OQ_does (rClamp_ok aN fit k1 k2) ?_
    rintro _ _ ⟨rfl, hh⟩
    replace hh := hh.symm
    subst hh
    rw [← er, ← hs']
    simp (disch := omega) only [evs, ↓reduceIte, Nat.reduceEqDiff, Nat.reduceAdd, Nat.reduceMul, Nat.reduceLeDiff, Nat.reduceLT, Int.reduceNeg, DF, eff, Nat.reduceSub, fwrap_i64, g0, g1, g2, g3', g4, g5, g6, g18, g19, g20]
  case' inr.inr =>
    have g3' := g3
    rw [cl] at g3'
    have er : sAt (sz N) view an delta lo r s = clampL (sz N) view s := by
      unfold sAt; rw [if_neg (by rw [cl]; simp; omega)]
    simp (disch := omega) only [evs, ↓reduceIte, Nat.reduceEqDiff, Nat.reduceAdd, Nat.reduceMul, Nat.reduceLeDiff, Nat.reduceLT, Int.reduceNeg, DF, eff, Nat.reduceSub, fwrap_i64, g0, g1, g2, g3', g4, g5, g6, g18, g19, g20, eq_true (show (0 : Int) ≤ an by omega), eq_false cr]
    refine OQ_does (rClamp_ok aN fit k1 k2) ?_
    rintro _ _ ⟨rfl, hh⟩
    replace hh := hh.symm
    subst hh
    rw [← er, ← hs']
    simp (disch := omega) only [evs, ↓reduceIte, Nat.reduceEqDiff, Nat.reduceAdd, Nat.reduceMul, Nat.reduceLeDiff, Nat.reduceLT, Int.reduceNeg, DF, eff, Nat.reduceSub, fwrap_i64, g0, g1, g2, g3', g4, g5, g6, g18, g19, g20]
  all_goals
    refine OQ_does (rAtt_ok F.wf aN fit k1 k2 k3 k4 sb.1 sb.2.1 sb.2.2) ?_
    rintro ur h1 ⟨F1, hd, hhd, iu⟩
    obtain ⟨A, hA⟩ : ∃ A, A = if N = [] then [] else attR (winL (sz N) view over s').1 (winL (sz N) view over s').2 hd N.length := ⟨_, rfl⟩
    rw [← hA] at iu
    have af : AttF (sz N) (sy L) view over s' A := by
      refine ⟨hd, by rw [sz_len, ← sN]; exact hhd, ?_⟩
      rw [hA, sz_len]
      by_cases c : N = []
      · rw [if_pos c, if_pos (by rw [c]; rfl)]
      · rw [if_neg c, if_neg (by intro e; apply c; have := congrArg List.length e; rw [sz_len] at this; exact List.length_eq_zero_iff.1 this)]
    have ar := attF_range af
    rw [sz_len] at ar
    have F01 := F.then F1
    simp (disch := omega) only [evs, ↓reduceIte, Nat.reduceEqDiff, Nat.reduceAdd, Nat.reduceMul, Nat.reduceLeDiff, Nat.reduceLT, Int.reduceNeg, DF, eff, Nat.reduceSub, fwrap_i64, g0, g1, g2, g3, g4, g5, g6, g18, g19, g20]
    refine W_loop (fun k env hh => ∃ (j : Nat) (vj : V) (J : List (Int × Bool × Bool)) (mo : Bool), Fr [] h1 hh ∧ env.get 0 = some v ∧ env.get 1 = some (.int .i64 view) ∧ env.get 2 = some (.int .i64 over) ∧ env.get 3 = some (.bool lo) ∧ env.get 4 = some (.int .i64 (an : Int)) ∧ env.get 5 = some (.int .i64 delta) ∧ env.get 6 = some vm ∧
      env.get 18 = some vj ∧ env.get 19 = some (.int .i64 s') ∧ env.get 20 = some (.int .i64 r) ∧ env.get 21 = some (.bool mo) ∧ env.get 22 = some ur ∧ env.get 23 = some (.int .i64 j) ∧ Rws hh vj J ∧ Good J ∧ J.length = L.length ∧ sy J = sy L ∧ j ≤ A.length ∧
      lookR (mOf M) A (sz N) (ky N) false = lookR (mOf M) (A.drop j) (sz J) (ky J) mo ∧ k = A.length - j) A.length (by omega) ?_ ?_
    · exact ⟨0, vn, N, false, Fr.refl F1.wf, (by simp [T.get_set, g0]), (by simp [T.get_set, g1]), (by simp [T.get_set, g2]), (by simp [T.get_set, g3]), (by simp [T.get_set, g4]), (by simp [T.get_set, g5]), (by simp [T.get_set, g6]), (by simp [T.get_set, g18]), (by simp [T.get_set]), (by simp [T.get_set, g20]), (by simp [T.get_set]), (by simp [T.get_set]), (by simp [T.get_set]), Recs.fr aN F1, gN, lN, sN, by omega, rfl, rfl⟩
    clear g0 g1 g2 g3 g4 g5 g6 g18 g19 g20
    rintro k2 env2 hh2 ⟨j, vj, J, mo, F2, g0, g1, g2, g3, g4, g5, g6, g18, g19, g20, g21, g22, g23, aJ, gJ, lJ, sJ, hj, lr, rfl⟩
    have F02 := F01.then F2
    have iu2 := Vals.fr iu F2
    have il := iu2.len
    by_cases hlt : (j : Int) < A.length
    · obtain ⟨b1, o1, x, e1, e2, e3⟩ := iu2.ix .i64 j (by omega) hlt
      simp only [Int.toNat_natCast] at e3
      have e2' : hload1 hh2 b1 o1 = some (.int .i64 x) := e2
      have rx := ar.2 x (List.mem_of_getElem? e3)
      obtain ⟨p, rfl⟩ : ∃ p : Nat, x = p := ⟨x.toNat, by omega⟩
      have dr : A.drop j = (p : Int) :: A.drop (j + 1) := by
        have hj' : j < A.length := by omega
        rw [List.drop_eq_getElem_cons hj']
        congr 1
        rw [List.getElem?_eq_getElem hj'] at e3
        exact Option.some.inj e3
      obtain ⟨b2, o2, rw', d1, d2, d3, d4, d5, d6⟩ := Rws.ix aJ p (by omega)
      have kg : (ky J).getD p false = rw'.2.1 := by simp [ky, List.getD, d6]
      have inr : (0 : Int) ≤ (p : Int) ∧ (p : Int) < (sz J).length := by rw [sz_len]; omega
      cases hk : rw'.2.1
      · rw [hk] at d3 kg
        have ams := Vals.fr am F02
        have aml := ams.len
        have tm := tmod_i64 (p : Int) (M.length : Int) (by omega)
        rw [show Int.tmod (p : Int) (M.length : Int) = ((p % M.length : Nat) : Int) from (Int.ofNat_tmod p M.length).symm] at tm
        have pl := Nat.mod_lt p hM
        obtain ⟨b3, o3, y, y1, y2, y3⟩ := ams.ix .i64 ((p % M.length : Nat) : Int) (by omega) (by omega)
        simp only [Int.toNat_natCast] at y3
        have y2' : hload1 hh2 b3 o3 = some (.int .i64 y) := y2
        have my : mOf M (p : Int) = y := by simp [mOf, List.getD, y3]
        have lr1 : lookR (mOf M) A (sz N) (ky N) false = if xsetE (sz J) p y = 0 then lookR (mOf M) (A.drop (j + 1)) ((sz J).set p y) ((ky J).set p true) true else (xsetE (sz J) p y, sz J, ky J, mo) := by
          rw [lr, dr, lookR, if_pos inr, Int.toNat_natCast, kg, my]; rfl
        simp (disch := omega) only [evs, ↓reduceIte, Nat.reduceEqDiff, Nat.reduceAdd, Nat.reduceMul, Nat.reduceLeDiff, Nat.reduceLT, Int.reduceNeg, DF, eff, Nat.reduceSub, fwrap_i64, g0, g1, g2, g3, g4, g5, g6, g18, g19, g20, g21, g22, g23, il, eq_true hlt, e1, e2', d1, d3, aml, tm, y1, y2']
        refine OQ_does (rSet_ok F2.wf aJ gJ.fit gJ.len) ?_
        rintro uu h3 ⟨F3, hu⟩
        rw [Int.toNat_natCast] at hu
        by_cases z : xsetE (sz J) p y = 0
        · rw [if_pos z] at hu lr1
          obtain ⟨v', rfl, gr⟩ := hu
          simp (disch := omega) only [evs, ↓reduceIte, Nat.reduceEqDiff, Nat.reduceAdd, Nat.reduceMul, Nat.reduceLeDiff, Nat.reduceLT, Int.reduceNeg, DF, eff, Nat.reduceSub, fwrap_i64, g0, g1, g2, g3, g4, g5, g6, g18, g19, g20, g21, g22, g23, e1, e2', d1, d3, y1, y2', eq_false (show ¬ (0 : Int) < 0 by omega)]
          refine (roundQ_norm _ _ _).2 ⟨A.length - (j + 1), by omega, j + 1, v', rset J p y true, true, F2.then F3, (by simp [T.get_set, g0]), (by simp [T.get_set, g1]), (by simp [T.get_set, g2]), (by simp [T.get_set, g3]), (by simp [T.get_set, g4]), (by simp [T.get_set, g5]), (by simp [T.get_set, g6]), (by simp [T.get_set]), (by simp [T.get_set, g19]), (by simp [T.get_set, g20]), (by simp [T.get_set]), (by simp [T.get_set, g22]), (by simp [T.get_set]), gr.recs rc_len (by omega), gJ.rset z, by rw [rset_len]; exact lJ, by rw [rset_sy]; exact sJ, by omega, by rw [rset_sz, rset_ky]; exact lr1, rfl⟩
          done
        · rw [if_neg z] at hu lr1
          subst hu
          have zp := xset_pos z
          simp (disch := omega) only [evs, ↓reduceIte, Nat.reduceEqDiff, Nat.reduceAdd, Nat.reduceMul, Nat.reduceLeDiff, Nat.reduceLT, Int.reduceNeg, DF, eff, Nat.reduceSub, fwrap_i64, g0, g1, g2, g3, g4, g5, g6, g18, g19, g20, g21, g22, g23, e1, e2', d1, d3, y1, y2', eq_true zp]
          refine ⟨F02.then F3, 0, 0, xsetE (sz J) p y, L, v, rfl, ?_, fun q => absurd q z⟩
          apply up
          have bd := SetR.bad (m := mOf M) (l' := sz L) (ks' := ky L) (hs' ▸ af) (ks := ky N) (by rw [lr1]; exact z)
          rw [lr1] at bd
          exact bd
      · rw [hk] at d3 kg
        have lr1 : lookR (mOf M) A (sz N) (ky N) false = lookR (mOf M) (A.drop (j + 1)) (sz J) (ky J) mo := by
          rw [lr, dr, lookR, if_pos inr, Int.toNat_natCast, if_pos kg]
        simp (disch := omega) only [evs, ↓reduceIte, Nat.reduceEqDiff, Nat.reduceAdd, Nat.reduceMul, Nat.reduceLeDiff, Nat.reduceLT, Int.reduceNeg, DF, eff, Nat.reduceSub, fwrap_i64, g0, g1, g2, g3, g4, g5, g6, g18, g19, g20, g21, g22, g23, il, eq_true hlt, e1, e2', d1, d3]
        refine (roundQ_norm _ _ _).2 ⟨A.length - (j + 1), by omega, j + 1, vj, J, mo, F2, (by simp [T.get_set, g0]), (by simp [T.get_set, g1]), (by simp [T.get_set, g2]), (by simp [T.get_set, g3]), (by simp [T.get_set, g4]), (by simp [T.get_set, g5]), (by simp [T.get_set, g6]), (by simp [T.get_set, g18]), (by simp [T.get_set, g19]), (by simp [T.get_set, g20]), (by simp [T.get_set, g21]), (by simp [T.get_set, g22]), (by simp [T.get_set]), aJ, gJ, lJ, sJ, by omega, lr1, rfl⟩
        done
    · have lr1 : lookR (mOf M) A (sz N) (ky N) false = (0, sz J, ky J, mo) := by
        rw [lr, show j = A.length by omega, List.drop_length]; rfl
      cases mo
      · simp (disch := omega) only [evs, ↓reduceIte, Nat.reduceEqDiff, Nat.reduceAdd, Nat.reduceMul, Nat.reduceLeDiff, Nat.reduceLT, Int.reduceNeg, DF, eff, Nat.reduceSub, fwrap_i64, g0, g1, g2, g3, g4, g5, g6, g18, g19, g20, g21, g22, g23, il, eq_false hlt]
        refine ⟨F02, s', r, 0, J, vj, rfl, ?_, fun _ => ⟨aJ, sJ, gJ⟩⟩
        apply up
        have dn := SetR.done (m := mOf M) (hs' ▸ af) lr1
        rw [← hs'] at dn
        exact dn
      · have sp := lookR_spec (mOf M) A (sz N) (ky N) false (by rw [ky_len, sz_len]) gN.pos
        rw [lr1] at sp
        simp only [] at sp
        have lt := sp.2.2.2.2 trivial
        simp only [Bool.false_eq_true, false_or] at lt
        simp (disch := omega) only [evs, ↓reduceIte, Nat.reduceEqDiff, Nat.reduceAdd, Nat.reduceMul, Nat.reduceLeDiff, Nat.reduceLT, Int.reduceNeg, DF, eff, Nat.reduceSub, fwrap_i64, g0, g1, g2, g3, g4, g5, g6, g18, g19, g20, g21, g22, g23, il, eq_false hlt]
        refine (roundQ_norm _ _ _).2 ⟨(ky J).count false, by omega, r + 1, s', vj, J, F02, (by simp [T.get_set, g0]), (by simp [T.get_set, g1]), (by simp [T.get_set, g2]), (by simp [T.get_set, g3]), (by simp [T.get_set, g4]), (by simp [T.get_set, g5]), (by simp [T.get_set, g6]), (by simp [T.get_set, g18]), (by simp [T.get_set, g19]), (by simp [T.get_set]), aJ, gJ, lJ, sJ, Nat.le_refl _, by omega, ?_⟩
        intro s2 n2 e2 l2 ks2 q
        apply up
        exact SetR.more (hs' ▸ af) lr1 (hs' ▸ q)
end Go.Ev.Lay
