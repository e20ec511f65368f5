/- An evaluator of the program and contracts proved over it: the texts LayLa LayLb LayLc LayLd LayLe. -/
import Derived.Test.YtfhplbpjpmaoiaaGreatDoorLayI
set_option linter.unusedSimpArgs false
set_option linter.unusedVariables false
set_option linter.constructorNameAsVariable false
/- The law's helpers: Rows, Lay. -/
namespace Go.Ev.Lay
set_option maxRecDepth 4000
/-- rows that fill their block -/
def RwF (h : Heap) (v : V) (L : List (Int × Bool × Bool)) : Prop := (v = .nils ∧ L = []) ∨ ∃ b, (v = .sliceU b 0 L.length 3 ∨ v = .slice b 0 L.length L.length) ∧ Own h b (L.flatMap rc) ∧ 0 < L.length
theorem RwF.rws {h : Heap} {v : V} {L : List (Int × Bool × Bool)} (a : RwF h v L) : Rws h v L := by
  rcases a with ⟨rfl, rfl⟩ | ⟨b, rfl | rfl, o, _⟩
  · exact Recs.nil
  · exact ⟨flat_len rc_len L, rfl, rfl, _, o, by rw [flat_len rc_len]; omega, by rw [List.drop_zero, List.take_of_length_le (by rw [flat_len rc_len]; omega)]⟩
  · exact Sl.lit o (flat_len rc_len L)
theorem RwF.fr {h h' : Heap} {v : V} {L : List (Int × Bool × Bool)} (a : RwF h v L) (f : Fr [] h h') : RwF h' v L := by
  rcases a with x | ⟨b, e, o, p⟩
  · exact .inl x
  · exact .inr ⟨b, e, f.get o, p⟩
theorem rc_noflc {L : List (Int × Bool × Bool)} (p : 0 < L.length) : ∀ n m ws, ws.length = 64 → L.flatMap rc ≠ flc n m ws := by
  intro n m ws _ e
  cases L with
  | nil => simp at p
  | cons r L =>
    have : V.bool r.2.1 ∈ flc n m ws := by rw [← e]; simp [rc]
    simp [flc, uw] at this
theorem RwF.frF {h h' : Heap} {v : V} {L : List (Int × Bool × Bool)} {b : Nat} {c : List V} (a : RwF h v L) (f : FrF b h h') (o : Own h b c) (hc : ∀ x ∈ c, ∀ k n, x ≠ .int k n) : RwF h' v L := by
  rcases a with x | ⟨q, e, oq, p⟩
  · exact .inl x
  · refine .inr ⟨q, e, f.own _ _ ?_ (rc_noflc p) oq, p⟩
    rintro rfl
    cases L with
    | nil => simp at p
    | cons r L => exact hc (.int .i64 r.1) (by rw [← oq.uniq o]; simp [rc]) _ _ rfl
theorem RwF.frF' {h h' : Heap} {v : V} {L : List (Int × Bool × Bool)} {b : Nat} (a : RwF h v L) (f : FrF b h h') (w : WF h) (hb : h.next ≤ b) : RwF h' v L := by
  rcases a with x | ⟨q, e, oq, p⟩
  · exact .inl x
  · exact .inr ⟨q, e, f.own _ _ (by have := oq.lt w; omega) (rc_noflc p) oq, p⟩
theorem GRecs.rwf {h : Heap} {B : Nat} {v : V} {L : List (Int × Bool × Bool)} (a : GRecs rc 3 h B v L) : RwF h v L := by
  rcases a with ⟨e, e2⟩ | ⟨b, n, rfl, hl, hn, _, o⟩
  · have := congrArg List.length e2
    rw [flat_len rc_len, List.length_nil] at this
    exact .inl ⟨e, List.length_eq_zero_iff.1 (by omega)⟩
  · rw [flat_len rc_len] at hl
    have : n = L.length := by omega
    subst this
    exact .inr ⟨b, .inl rfl, o, hn⟩
def uc (p : Nat × Nat) : List V := [.int .u8 (p.1 : Int), .int .u8 (p.2 : Int)]
theorem uc_len (p : Nat × Nat) : (uc p).length = 2 := rfl
def mkRow (p : Nat × Nat) : Int × Bool × Bool := (1 + ((p.1 % 128 : Nat) : Int), decide (128 ≤ p.1), decide (p.2 % 3 = 0))
theorem remu8 (a n : Nat) (b : Int) (hb : b = n) (h0 : 0 < n) : aP (.ib .rem) [.int .u8 (a : Int), .int .u8 b] = some (.int .u8 ((a % n : Nat) : Int)) := by
  subst hb
  rw [aP_rem _ _ _ (by omega), show Int.tmod (a : Int) n = ((a % n : Nat) : Int) from (Int.ofNat_tmod a n).symm]
theorem Rows_ok {h : Heap} {v : V} {ps : List (Nat × Nat)} (w : WF h) (a : Recs uc 2 h v ps) (hp : ∀ p ∈ ps, p.1 < 256 ∧ p.2 < 256) :
    Does go 21 [.agg [v]] h fun u h' => GRecs rc 3 h' h.next u ((ps.take 30).map mkRow) ∧ Fr [] h h' := by
  have v1 := cells_one (Sl.one a)
  obtain ⟨h1, e_h1⟩ : ∃ h1, h1 = halloc h [v] := ⟨_, rfl⟩
  have F_h1 : Fr [] h h1 := e_h1 ▸ Fr.halloc w _
  have o_h1 : Own h1 h.next [v] := e_h1 ▸ Own.new w _
  refine does_fn g21 rfl ?_
  simp (disch := omega) only [fn21, evs, ↓reduceIte, Nat.reduceEqDiff, Nat.reduceAdd, Nat.reduceMul, Nat.reduceLeDiff, Nat.reduceLT, Int.reduceNeg, DF, eff, Nat.reduceSub, fwrap_i64, v1, ← e_h1]
  refine W_loop (fun k env hh => ∃ (j : Nat) (vo : V), Fr [] h hh ∧ Own hh h.next [v] ∧ env.get 1 = some (.ptr h.next 0) ∧ env.get 4 = some (.int .i64 j) ∧ env.get 3 = some vo ∧ j ≤ ps.length ∧ j ≤ 30 ∧ GRecs rc 3 hh h.next vo ((ps.take j).map mkRow) ∧ k = 30 - j) 30 (by omega) ?_ ?_
  · exact ⟨0, .nils, F_h1, o_h1, (by simp [T.get_set]), (by simp [T.get_set]), (by simp [T.get_set]), by omega, by omega, GRecs.nil, rfl⟩
  · rintro k env hh ⟨j, vo, F, ob, g1, g4, g3, hj, h30, gO, rfl⟩
    have al := Recs.len (Recs.fr a F)
    by_cases c1 : (j : Int) < ps.length
    · by_cases c2 : (j : Int) < 30
      · obtain ⟨b, o, p, e1, e2, e3, e4⟩ := Recs.ix uc_len (Recs.fr a F) .i64 j (by omega) c1
        simp only [Int.toNat_natCast] at e4
        have q0 : hload1 hh b (o + 0) = some (.int .u8 (p.1 : Int)) := by have := e2 0 (by omega); simpa [uc] using this
        have q1 : hload1 hh b (o + 1) = some (.int .u8 (p.2 : Int)) := by have := e2 1 (by omega); simpa [uc] using this
        obtain ⟨r1, r2⟩ := hp p (List.mem_of_getElem? e4)
        have i0 := aP_ixa 1 b o 2 .i64 0 (by omega) (by omega)
        have i1 := aP_ixa 1 b o 2 .i64 1 (by omega) (by omega)
        rw [show o + (0 : Int).toNat * 1 = o + 0 by simp] at i0
        rw [show o + (1 : Int).toNat * 1 = o + 1 by simp] at i1
        have m1 := remu8 p.1 128 128 rfl (by omega)
        have m2 := remu8 p.2 3 3 rfl (by omega)
        have tk : (ps.take (j + 1)).map mkRow = (ps.take j).map mkRow ++ [mkRow p] := by rw [List.take_add_one, e4]; simp
        have d1 : decide ((128 : Int) ≤ (p.1 : Int)) = decide (128 ≤ p.1) := by rw [Bool.eq_iff_iff]; simp; omega
        have d2 : decide (((p.2 % 3 : Nat) : Int) = 0) = decide (p.2 % 3 = 0) := by rw [Bool.eq_iff_iff]; simp; omega
        obtain ⟨h5, e_h5⟩ : ∃ h5, h5 = halloc hh (rc (mkRow p)) := ⟨_, rfl⟩
        have F_h5 : Fr [] hh h5 := e_h5 ▸ Fr.halloc F.wf _
        have o_h5 : Own h5 hh.next (rc (mkRow p)) := e_h5 ▸ Own.new F.wf _
        have e5 : halloc hh [.int .i64 (1 + ((p.1 % 128 : Nat) : Int)), .bool (decide (128 ≤ p.1)), .bool (decide (p.2 % 3 = 0))] = h5 := e_h5.symm
        have q0' := q0
        rw [Nat.add_zero] at q0' i0
        simp (disch := omega) only [evs, ↓reduceIte, Nat.reduceEqDiff, Nat.reduceAdd, Nat.reduceMul, Nat.reduceLeDiff, Nat.reduceLT, Int.reduceNeg, DF, eff, Nat.reduceSub, fwrap_i64, g1, g4, g3, ob.ld1, al, c1, c2, e1, i0, i1, q0', q1, m1, m2, d1, d2, List.length_cons, List.length_nil, e5]
        refine GRecs.append (x := mkRow p) F_h5.wf (gO.fr F_h5) rc_len (rc_ones _) (by omega) o_h5 (Nat.le_trans F.next F_h5.next) (by simp; omega) ?_
        intro v' h6 g6 F6
        have U6 := Gs.up (gO.fr F_h5) F6
        have ob6 : Own h6 h.next [v] := by
          refine F6.own _ _ ?_ (F_h5.get ob)
          rcases gO with ⟨rfl, _⟩ | ⟨b', n', rfl, hl', _, _, og⟩
          · simp [vb]
          · simp only [vb, List.mem_singleton]
            rintro rfl
            have := congrArg List.length (og.uniq ob)
            rw [hl'] at this; simp at this; omega
        simp (disch := omega) only [evs, ↓reduceIte, Nat.reduceEqDiff, Nat.reduceAdd, Nat.reduceMul, Nat.reduceLeDiff, Nat.reduceLT, Int.reduceNeg, DF, eff, Nat.reduceSub, fwrap_i64, g1, g4, g3, ob.ld1, al, c1, c2, e1, i0, i1, q0', q1]
        refine (roundQ_norm _ _ _).2 ⟨30 - (j + 1), by omega, j + 1, v', (F.then F_h5).ups w U6, ob6, (by simp [T.get_set, g1]), (by simp [T.get_set]), (by simp [T.get_set]), by omega, by omega, by rw [tk]; exact g6, rfl⟩
        done
      · simp (disch := omega) only [evs, ↓reduceIte, Nat.reduceEqDiff, Nat.reduceAdd, Nat.reduceMul, Nat.reduceLeDiff, Nat.reduceLT, Int.reduceNeg, DF, eff, Nat.reduceSub, fwrap_i64, g1, g4, g3, ob.ld1, al, c1, c2]
        rw [show j = 30 by omega] at gO
        exact ⟨gO, F⟩
    · simp (disch := omega) only [evs, ↓reduceIte, Nat.reduceEqDiff, Nat.reduceAdd, Nat.reduceMul, Nat.reduceLeDiff, Nat.reduceLT, Int.reduceNeg, DF, eff, Nat.reduceSub, fwrap_i64, g1, g4, g3, ob.ld1, al, c1]
      rw [show (ps.take 30) = ps.take j by rw [List.take_of_length_le (by omega), List.take_of_length_le (by omega)]]
      exact ⟨gO, F⟩
end Go.Ev.Lay

/- The law's helpers: Lay. -/
namespace Go.Ev.Lay
set_option maxRecDepth 4000
structure Good (L : List (Int × Bool × Bool)) : Prop where
  len : L.length ≤ 1024
  one : ∀ r ∈ L, 1 ≤ r.1 ∧ r.1 ≤ 2305843009213693952
  sum : (sz L).sum ≤ 4611686018427387904
theorem Good.fit {L : List (Int × Bool × Bool)} (g : Good L) : Fit (sz L) := by
  refine ⟨fun x hx => ?_, g.sum, by rw [sz_len]; have := g.len; omega⟩
  simp only [sz, List.mem_map] at hx
  obtain ⟨r, hr, rfl⟩ := hx
  have := g.one r hr; omega
theorem Good.pos {L : List (Int × Bool × Bool)} (g : Good L) : ∀ x ∈ sz L, 1 ≤ x := by
  intro x hx
  simp only [sz, List.mem_map] at hx
  obtain ⟨r, hr, rfl⟩ := hx
  exact (g.one r hr).1
theorem sumE_ok : ∀ (l : List Int) (t : Int), (∀ x ∈ l, 1 ≤ x ∧ x ≤ 2305843009213693952) → t + l.sum ≤ 4611686018427387904 → sumE t l = 0
  | [], _, _, _ => rfl
  | s :: l, t, h, hs => by
    have h1 := h s (by simp)
    have nn := sum_nn (l := l) fun x hx => by have := h x (by simp [hx]); omega
    simp only [List.sum_cons] at hs
    rw [sumE, if_neg (by omega), if_neg (by omega)]
    exact sumE_ok l (t + s) (fun x hx => h x (by simp [hx])) (by omega)
def bc (x : Bool) : List V := [.bool x]
theorem bc_len (x : Bool) : (bc x).length = 1 := rfl
theorem bc_flat (A : List Bool) : A.flatMap bc = A.map V.bool := by induction A with
  | nil => rfl
  | cons x A ih => simp [List.flatMap_cons, bc, ih]
/-- growing one slice leaves another one -/
theorem GRecs.keep {α β : Type} {f : α → List V} {g : β → List V} {k k' B B' : Nat} {h h' : Heap} {v v' : V} {L : List α} {M : List β} (a : GRecs f k h B v L) (b : GRecs g k' h B' v' M) (F : Fr (vb v') h h')
    (hd : ∀ (n : Nat), L.flatMap f = M.flatMap g → (L.flatMap f).length = n * k → ¬ 0 < n) : GRecs f k h' B v L := by
  rcases a with x | ⟨q, n, rfl, hl, hn, hB, o⟩
  · exact .inl x
  · refine .inr ⟨q, n, rfl, hl, hn, hB, F.own _ _ ?_ o⟩
    rcases b with ⟨rfl, _⟩ | ⟨q', n', rfl, _, _, _, o'⟩
    · simp [vb]
    · simp only [vb, List.mem_singleton]
      rintro rfl
      exact hd n (o.uniq o') hl hn
theorem ic_bc {A : List Int} {B : List Bool} (h : A.flatMap ic = B.flatMap bc) : A = [] := by
  cases A with
  | nil => rfl
  | cons x A =>
    cases B with
    | nil => simp [List.flatMap_cons, ic] at h
    | cons y B => simp [List.flatMap_cons, ic, bc] at h
theorem Lay_ok {h : Heap} {v : V} {L : List (Int × Bool × Bool)} (w : WF h) (a : RwF h v L) (g : Good L) :
    Does go 7 [v] h fun u h' => ∃ b, u = .ptr b 0 ∧ h.next ≤ b ∧ Lo h' b (sz L) (ky L) (sy L) ∧ FrF b h h' := by
  have fit := g.fit
  have gl := g.len
  refine does_fn g7 rfl ?_
  simp (disch := omega) only [fn7, evs, ↓reduceIte, Nat.reduceEqDiff, Nat.reduceAdd, Nat.reduceMul, Nat.reduceLeDiff, Nat.reduceLT, Int.reduceNeg, DF, eff, Nat.reduceSub, fwrap_i64]
  refine OQ_does (LNew_ok w) ?_
  rintro _ h1 ⟨b, rfl, hb, lo1, ob1, F1⟩
  have a1 := (a.fr F1).rws
  simp (disch := omega) only [evs, ↓reduceIte, Nat.reduceEqDiff, Nat.reduceAdd, Nat.reduceMul, Nat.reduceLeDiff, Nat.reduceLT, Int.reduceNeg, DF, eff, Nat.reduceSub, fwrap_i64]
  refine W_loop (fun k env hh => ∃ (j : Nat) (v4 v5 : V), Fr [] h1 hh ∧ env.get 0 = some v ∧ env.get 3 = some (.ptr b 0) ∧ env.get 4 = some v4 ∧ env.get 5 = some v5 ∧ env.get 6 = some (.int .i64 j) ∧ j ≤ L.length ∧ GRecs ic 1 hh h1.next v4 (sz (L.take j)) ∧ GRecs bc 1 hh h1.next v5 (sy (L.take j)) ∧ k = L.length - j) L.length (by omega) ?_ ?_
  · exact ⟨0, .nils, .nils, Fr.refl F1.wf, (by simp [T.get_set]), (by simp [T.get_set]), (by simp [T.get_set]), (by simp [T.get_set]), (by simp [T.get_set]), by omega, GRecs.nil, GRecs.nil, rfl⟩
  rintro k env hh ⟨j, v4, v5, F, g0, g3, g4, g5, g6, hj, G4, G5, rfl⟩
  have a2 := Recs.fr a1 F
  by_cases hlt : (j : Int) < L.length
  · obtain ⟨bb, o, r, e1, e2, e3, e4, e5, e6⟩ := Rws.ix a2 j hlt
    have tk1 : sz (L.take (j + 1)) = sz (L.take j) ++ [r.1] := by rw [List.take_add_one, e6]; simp [sz]
    have tk2 : sy (L.take (j + 1)) = sy (L.take j) ++ [r.2.2] := by rw [List.take_add_one, e6]; simp [sy]
    have l1 : (sz (L.take j)).length ≤ 1024 := by rw [sz_len]; simp; omega
    have l2 : (sy (L.take j)).length ≤ 1024 := by rw [sy_len]; simp; omega
    obtain ⟨h2, e_h2⟩ : ∃ h2, h2 = halloc hh (ic r.1) := ⟨_, rfl⟩
    have F_h2 : Fr [] hh h2 := e_h2 ▸ Fr.halloc F.wf _
    have o_h2 : Own h2 hh.next (ic r.1) := e_h2 ▸ Own.new F.wf _
    have e2' : halloc hh [.int .i64 r.1] = h2 := e_h2.symm
    simp (disch := omega) only [evs, ↓reduceIte, Nat.reduceEqDiff, Nat.reduceAdd, Nat.reduceMul, Nat.reduceLeDiff, Nat.reduceLT, Int.reduceNeg, DF, eff, Nat.reduceSub, fwrap_i64, g0, g3, g4, g5, g6, a2.len, hlt, e1, e2, e2']
    refine GRecs.append (x := r.1) F_h2.wf (G4.fr F_h2) ic_len rfl (by omega) o_h2 (Nat.le_trans F.next F_h2.next) (by omega) ?_
    intro v4' h3 G4' F3
    have U3 := Gs.up (G4.fr F_h2) F3
    have F13 : Fr [] h1 h3 := (F.then F_h2).ups F1.wf U3
    have G5' : GRecs bc 1 h3 h1.next v5 (sy (L.take j)) := GRecs.keep (G5.fr F_h2) (G4.fr F_h2) F3 (fun n e hl => by
      have := ic_bc e.symm
      rw [← e.symm, this] at hl
      simp at hl; omega)
    obtain ⟨bb', o', r', d1, d2, d3, d4, d5, d6⟩ := Rws.ix (Recs.fr a1 F13) j hlt
    rw [e6] at d6; cases d6
    obtain ⟨h4, e_h4⟩ : ∃ h4, h4 = halloc h3 (bc r.2.2) := ⟨_, rfl⟩
    have F_h4 : Fr [] h3 h4 := e_h4 ▸ Fr.halloc F13.wf _
    have o_h4 : Own h4 h3.next (bc r.2.2) := e_h4 ▸ Own.new F13.wf _
    have e4' : halloc h3 [.bool r.2.2] = h4 := e_h4.symm
    simp (disch := omega) only [evs, ↓reduceIte, Nat.reduceEqDiff, Nat.reduceAdd, Nat.reduceMul, Nat.reduceLeDiff, Nat.reduceLT, Int.reduceNeg, DF, eff, Nat.reduceSub, fwrap_i64, g0, g3, g4, g5, g6, d1, d4, e4']
    refine GRecs.append (x := r.2.2) F_h4.wf (G5'.fr F_h4) bc_len rfl (by omega) o_h4 (Nat.le_trans F13.next F_h4.next) (by omega) ?_
    intro v5' h5 G5'' F5
    have U5 := Gs.up (G5'.fr F_h4) F5
    have G4'' : GRecs ic 1 h5 h1.next v4' (sz (L.take j) ++ [r.1]) := GRecs.keep (G4'.fr F_h4) (G5'.fr F_h4) F5 (fun n e hl => by
      have := ic_bc e
      simp at this)
    simp (disch := omega) only [evs, ↓reduceIte, Nat.reduceEqDiff, Nat.reduceAdd, Nat.reduceMul, Nat.reduceLeDiff, Nat.reduceLT, Int.reduceNeg, DF, eff, Nat.reduceSub, fwrap_i64, g0, g3, g4, g5, g6]
    refine (roundQ_norm _ _ _).2 ⟨L.length - (j + 1), by omega, j + 1, v4', v5', (F13.then F_h4).ups F1.wf U5, (by simp [T.get_set, g0]), (by simp [T.get_set, g3]), (by simp [T.get_set]), (by simp [T.get_set]), (by simp [T.get_set]), by omega, by rw [tk1]; exact G4'', by rw [tk2]; exact G5'', rfl⟩
    done
  · have ej : j = L.length := by omega
    subst ej
    rw [List.take_length] at G4 G5
    have im : Ints hh v4 (sz L) := by have := G4.recs ic_len (by omega); show Sl _ 1 _ _ _; rw [← ic_flat]; exact this
    have bm : Bools hh v5 (sy L) := by have := G5.recs bc_len (by omega); show Sl _ 1 _ _ _; rw [← bc_flat]; exact this
    have xz : xinsE [] 0 (sz L) = 0 := by
      unfold xinsE
      have : sumE 0 (sz L) = 0 := sumE_ok _ _ (fun x hx => by
        simp only [sz, List.mem_map] at hx
        obtain ⟨r, hr, rfl⟩ := hx
        exact g.one r hr) (by have := g.sum; omega)
      rw [if_pos (by simp), if_neg (by simp [sz_len]; omega), if_pos this, if_neg (by have := g.sum; simp; omega)]
    simp (disch := omega) only [evs, ↓reduceIte, Nat.reduceEqDiff, Nat.reduceAdd, Nat.reduceMul, Nat.reduceLeDiff, Nat.reduceLT, Int.reduceNeg, DF, eff, Nat.reduceSub, fwrap_i64, g0, g3, g4, g5, g6, a2.len, hlt]
    refine OQ_does (LIns_ok F.wf (lo1.fr F) im bm (by rw [sz_len]; omega) (by rw [sy_len, sz_len]) (by omega) (by omega)) ?_
    rintro _ h6 ⟨rfl, F6, hlo⟩
    rw [xz, if_pos rfl] at hlo
    rw [xz]
    have F06 : FrF b h h6 := (frF (F1.then F)).trans F6
    have lo6 : Lo h6 b (sz L) (List.replicate L.length false) (sy L) := by simpa [sz_len] using hlo
    have a6 := a.frF' F06 w hb
    simp (disch := omega) only [evs, ↓reduceIte, Nat.reduceEqDiff, Nat.reduceAdd, Nat.reduceMul, Nat.reduceLeDiff, Nat.reduceLT, Int.reduceNeg, DF, eff, Nat.reduceSub, fwrap_i64, g0, g3, g4, g5, g6]
    refine W_loop (fun k env hh => ∃ (j : Nat), FrF b h hh ∧ env.get 0 = some v ∧ env.get 3 = some (.ptr b 0) ∧ env.get 7 = some (.int .i64 j) ∧ j ≤ L.length ∧ Lo hh b (sz L) ((ky L).take j ++ List.replicate (L.length - j) false) (sy L) ∧ k = L.length - j) L.length (by omega) ?_ ?_
    · exact ⟨0, F06, (by simp [T.get_set, g0]), (by simp [T.get_set, g3]), (by simp [T.get_set]), by omega, by simpa using lo6, rfl⟩
    rintro k env hh ⟨j, FF, g0, g3, g7, hj, lo, rfl⟩
    have a7 := (a.frF' FF w hb).rws
    by_cases hlt2 : (j : Int) < L.length
    · obtain ⟨bb, o, r, e1, e2, e3, e4, e5, e6⟩ := Rws.ix a7 j hlt2
      have rg := g.one r (List.mem_of_getElem? e6)
      have kg : (ky L)[j]? = some r.2.1 := by simp [ky, e6]
      have kl : (ky L).length = L.length := ky_len L
      cases hk : r.2.1
      · rw [hk] at e3 kg
        simp (disch := omega) only [evs, ↓reduceIte, Nat.reduceEqDiff, Nat.reduceAdd, Nat.reduceMul, Nat.reduceLeDiff, Nat.reduceLT, Int.reduceNeg, DF, eff, Nat.reduceSub, fwrap_i64, g0, g3, g7, a7.len, hlt2, e1, e3]
        have ee : (ky L).take (j + 1) ++ List.replicate (L.length - (j + 1)) false = (ky L).take j ++ List.replicate (L.length - j) false := by
          rw [List.take_add_one, kg, show L.length - j = (L.length - (j + 1)) + 1 by omega, List.replicate_succ]; simp
        refine (roundQ_norm _ _ _).2 ⟨L.length - (j + 1), by omega, j + 1, FF, (by simp [T.get_set, g0]), (by simp [T.get_set, g3]), (by simp [T.get_set]), by omega, by rw [ee]; exact lo, rfl⟩
        done
      · rw [hk] at e3 kg
        have sg := sz_get e6
        have sgd : (sz L).getD j 0 = r.1 := by simp [List.getD, sg]
        have gs := g.sum
        have xs : xsetE (sz L) j r.1 = 0 := by
          unfold xsetE
          rw [if_pos ⟨by omega, by rw [sz_len]; omega⟩, if_neg (by omega), Int.toNat_natCast, sgd, if_neg (by omega)]
        simp (disch := omega) only [evs, ↓reduceIte, Nat.reduceEqDiff, Nat.reduceAdd, Nat.reduceMul, Nat.reduceLeDiff, Nat.reduceLT, Int.reduceNeg, DF, eff, Nat.reduceSub, fwrap_i64, g0, g3, g7, a7.len, hlt2, e1, e3, e2]
        refine OQ_does (LSet_ok FF.wf lo (by omega) (by omega) (by omega) (by omega)) ?_
        rintro _ h8 ⟨rfl, lo8, F8⟩
        rw [xs, if_pos rfl] at lo8
        rw [xs]
        simp only [Int.toNat_natCast] at lo8
        have es : (sz L).set j r.1 = sz L := by
          apply List.ext_getElem?
          intro i
          rw [List.getElem?_set]
          by_cases c : j = i
          · subst c; rw [if_pos rfl, if_pos (by rw [sz_len]; omega), sg]
          · rw [if_neg c]
        have ek := rep_set (ky L) j true kg
        rw [kl] at ek
        rw [es, ek] at lo8
        simp (disch := omega) only [evs, ↓reduceIte, Nat.reduceEqDiff, Nat.reduceAdd, Nat.reduceMul, Nat.reduceLeDiff, Nat.reduceLT, Int.reduceNeg, DF, eff, Nat.reduceSub, fwrap_i64, g0, g3, g7]
        refine (roundQ_norm _ _ _).2 ⟨L.length - (j + 1), by omega, j + 1, FF.trans F8, (by simp [T.get_set, g0]), (by simp [T.get_set, g3]), (by simp [T.get_set]), by omega, lo8, rfl⟩
        done
    · have ej : j = L.length := by omega
      subst ej
      rw [← ky_len L, List.take_length, Nat.sub_self, List.replicate_zero, List.append_nil] at lo
      simp (disch := omega) only [evs, ↓reduceIte, Nat.reduceEqDiff, Nat.reduceAdd, Nat.reduceMul, Nat.reduceLeDiff, Nat.reduceLT, Int.reduceNeg, DF, eff, Nat.reduceSub, fwrap_i64, g0, g3, g7, a7.len, hlt2]
      exact ⟨b, rfl, hb, lo, FF⟩
end Go.Ev.Lay

/- The law's helpers: same, ints. -/
namespace Go.Ev.Lay
set_option maxRecDepth 4000
theorem seq_same (a : Int) (b c : Bool) : aP (.seq true [0, 1, 1]) [.agg [.int .i64 a, .bool b, .bool c], .agg [.int .i64 a, .bool b, .bool c]] = some (.bool false) := by
  have h1 : ieq a a = true := by rw [ieq_eq]; simp
  simp only [aP, cmpL, kbeq_self, h1, cond_true, Bool.xor_self, cond_false, Option.map_some, Bool.not_true]
theorem same_ok {h : Heap} {b : Nat} {v : V} {L : List (Int × Bool × Bool)} (w : WF h) (lo : Lo h b (sz L) (ky L) (sy L)) (a : Rws h v L) (g : Good L) : Does go 17 [.ptr b 0, v] h fun u h' => u = .int .i64 1 ∧ Fr [] h h' := by
  have fit := g.fit
  have gl := g.len
  refine does_fn g17 rfl ?_
  simp (disch := omega) only [fn17, evs, ↓reduceIte, Nat.reduceEqDiff, Nat.reduceAdd, Nat.reduceMul, Nat.reduceLeDiff, Nat.reduceLT, Int.reduceNeg, DF, eff, Nat.reduceSub, fwrap_i64]
  refine OQ_does (LLen_ok w lo) ?_
  rintro _ h1 ⟨rfl, F1⟩
  have a1 := Recs.fr a F1
  rw [sz_len]
  simp (disch := omega) only [evs, ↓reduceIte, Nat.reduceEqDiff, Nat.reduceAdd, Nat.reduceMul, Nat.reduceLeDiff, Nat.reduceLT, Int.reduceNeg, DF, eff, Nat.reduceSub, fwrap_i64, a1.len]
  refine OQ_does (LTotal_ok F1.wf (lo.fr F1)) ?_
  rintro _ h2 ⟨rfl, F2⟩
  have F12 := F1.then F2
  simp (disch := omega) only [evs, ↓reduceIte, Nat.reduceEqDiff, Nat.reduceAdd, Nat.reduceMul, Nat.reduceLeDiff, Nat.reduceLT, Int.reduceNeg, DF, eff, Nat.reduceSub, fwrap_i64]
  refine OQ_does (rTotal_ok (Recs.fr a F12) fit) ?_
  rintro _ _ ⟨rfl, hh⟩
  replace hh := hh.symm
  subst hh
  simp (disch := omega) only [evs, ↓reduceIte, Nat.reduceEqDiff, Nat.reduceAdd, Nat.reduceMul, Nat.reduceLeDiff, Nat.reduceLT, Int.reduceNeg, DF, eff, Nat.reduceSub, fwrap_i64]
  refine W_loop (fun k env hh => ∃ j : Nat, Fr [] h hh ∧ env.get 0 = some (.ptr b 0) ∧ env.get 1 = some v ∧ env.get 5 = some (.int .i64 j) ∧ j ≤ L.length ∧ k = L.length - j) L.length (by omega) ?_ ?_
  · exact ⟨0, F12, (by simp [T.get_set]), (by simp [T.get_set]), (by simp [T.get_set]), by omega, rfl⟩
  rintro k env hh ⟨j, F, g0, g1, g5, hj, rfl⟩
  have a2 := Recs.fr a F
  by_cases hlt : (j : Int) < L.length
  · obtain ⟨bb, o, r, e1, e2, e3, e4, e5, e6⟩ := Rws.ix a2 j hlt
    have sg : (sz L).getD j 0 = r.1 := by have := sz_get e6; simp [List.getD, this]
    have kg : (ky L).getD j false = r.2.1 := by simp [ky, List.getD, e6]
    have yg := sy_get e6
    simp (disch := omega) only [evs, ↓reduceIte, Nat.reduceEqDiff, Nat.reduceAdd, Nat.reduceMul, Nat.reduceLeDiff, Nat.reduceLT, Int.reduceNeg, DF, eff, Nat.reduceSub, fwrap_i64, g0, g1, g5, a2.len, hlt]
    refine OQ_does (LSize_ok F.wf (lo.fr F)) ?_
    rintro _ h3 ⟨rfl, F3⟩
    rw [if_pos ⟨by omega, by rw [sz_len]; omega⟩, Int.toNat_natCast, sg]
    have F03 := F.then F3
    simp (disch := omega) only [evs, ↓reduceIte, Nat.reduceEqDiff, Nat.reduceAdd, Nat.reduceMul, Nat.reduceLeDiff, Nat.reduceLT, Int.reduceNeg, DF, eff, Nat.reduceSub, fwrap_i64, g0, g1, g5]
    refine OQ_does (LKnown_ok F3.wf (lo.fr F03)) ?_
    rintro _ h4 ⟨rfl, F4⟩
    rw [if_pos ⟨by omega, by rw [sz_len]; omega⟩, Int.toNat_natCast, kg]
    have F04 := F03.then F4
    simp (disch := omega) only [evs, ↓reduceIte, Nat.reduceEqDiff, Nat.reduceAdd, Nat.reduceMul, Nat.reduceLeDiff, Nat.reduceLT, Int.reduceNeg, DF, eff, Nat.reduceSub, fwrap_i64, g0, g1, g5]
    refine OQ_does (LSticky_ok F4.wf (lo.fr F04) (by omega) (by omega)) ?_
    rintro _ h5 ⟨rfl, F5⟩
    rw [if_pos ⟨by omega, by rw [sz_len]; omega⟩, Int.toNat_natCast, yg]
    have F05 := F04.then F5
    simp (disch := omega) only [evs, ↓reduceIte, Nat.reduceEqDiff, Nat.reduceAdd, Nat.reduceMul, Nat.reduceLeDiff, Nat.reduceLT, Int.reduceNeg, DF, eff, Nat.reduceSub, fwrap_i64, g0, g1, g5]
    refine OQ_does (LTop_ok F5.wf (lo.fr F05)) ?_
    rintro _ h6 ⟨rfl, F6⟩
    rw [if_pos ⟨by omega, by rw [sz_len]; omega⟩, Int.toNat_natCast]
    have F06 := F05.then F6
    have a6 := Recs.fr a F06
    simp (disch := omega) only [evs, ↓reduceIte, Nat.reduceEqDiff, Nat.reduceAdd, Nat.reduceMul, Nat.reduceLeDiff, Nat.reduceLT, Int.reduceNeg, DF, eff, Nat.reduceSub, fwrap_i64, g0, g1, g5]
    refine OQ_does (rTop_ok a6 fit (by omega)) ?_
    rintro _ _ ⟨rfl, hh⟩
    replace hh := hh.symm
    subst hh
    obtain ⟨bb', o', r', d1, d2, d3, d4, d5, d6⟩ := Rws.ix a6 j hlt
    rw [e6] at d6; cases d6
    simp (disch := omega) only [evs, ↓reduceIte, Nat.reduceEqDiff, Nat.reduceAdd, Nat.reduceMul, Nat.reduceLeDiff, Nat.reduceLT, Int.reduceNeg, DF, eff, Nat.reduceSub, fwrap_i64, g0, g1, g5, d1, d5, seq_same]
    refine (roundQ_norm _ _ _).2 ⟨L.length - (j + 1), by omega, j + 1, F06, (by simp [T.get_set, g0]), (by simp [T.get_set, g1]), (by simp [T.get_set]), by omega, rfl⟩
    done
  · simp (disch := omega) only [evs, ↓reduceIte, Nat.reduceEqDiff, Nat.reduceAdd, Nat.reduceMul, Nat.reduceLeDiff, Nat.reduceLT, Int.reduceNeg, DF, eff, Nat.reduceSub, fwrap_i64, g0, g1, g5, a2.len, hlt]
    exact F
theorem ints_ok {h : Heap} {u v : V} {A : List Int} (a : Ints h u A) (b : Ints h v A) (hA : A.length ≤ 1000000) : Does go 13 [u, v] h fun z h' => z = .int .i64 1 ∧ h' = h := by
  refine does_fn g13 rfl ?_
  simp (disch := omega) only [fn13, evs, ↓reduceIte, Nat.reduceEqDiff, Nat.reduceAdd, Nat.reduceMul, Nat.reduceLeDiff, Nat.reduceLT, Int.reduceNeg, DF, eff, Nat.reduceSub, fwrap_i64, a.len, b.len]
  refine W_loop (fun k env hh => h = hh ∧ ∃ j : Nat, env.get 0 = some u ∧ env.get 1 = some v ∧ env.get 5 = some (.int .i64 j) ∧ j ≤ A.length ∧ k = A.length - j) A.length (by omega) ?_ ?_
  · exact ⟨rfl, 0, (by simp [T.get_set]), (by simp [T.get_set]), (by simp [T.get_set]), by omega, rfl⟩
  rintro k env hh ⟨rfl, j, g0, g1, g5, hj, rfl⟩
  by_cases hlt : (j : Int) < A.length
  · obtain ⟨b1, o1, x, e1, e2, e3⟩ := a.ix .i64 j (by omega) hlt
    obtain ⟨b2, o2, y, d1, d2, d3⟩ := b.ix .i64 j (by omega) hlt
    rw [e3] at d3; cases d3
    simp (disch := omega) only [evs, ↓reduceIte, Nat.reduceEqDiff, Nat.reduceAdd, Nat.reduceMul, Nat.reduceLeDiff, Nat.reduceLT, Int.reduceNeg, DF, eff, Nat.reduceSub, fwrap_i64, g0, g1, g5, a.len, hlt, e1, e2, d1, d2]
    refine (roundQ_norm _ _ _).2 ⟨A.length - (j + 1), by omega, rfl, j + 1, (by simp [T.get_set, g0]), (by simp [T.get_set, g1]), (by simp [T.get_set]), by omega, rfl⟩
    done
  · simp (disch := omega) only [evs, ↓reduceIte, Nat.reduceEqDiff, Nat.reduceAdd, Nat.reduceMul, Nat.reduceLeDiff, Nat.reduceLT, Int.reduceNeg, DF, eff, Nat.reduceSub, fwrap_i64, g0, g1, g5, a.len, hlt]
end Go.Ev.Lay

/- The plain law of LayoutsSee. -/
namespace Go.Ev.Lay
theorem cnt_take_succ {bs : List Bool} {p : Nat} (h : bs.getD p false = true) : (bs.take (p + 1)).count true = (bs.take p).count true + 1 := by
  rw [List.take_add_one]
  cases hb : bs[p]? with
  | none => simp [List.getD, hb] at h
  | some x => simp [List.getD, hb] at h; subst h; simp
theorem cnt_take_false {bs : List Bool} {p : Nat} (h : bs.getD p false = false) : (bs.take (p + 1)).count true = (bs.take p).count true := by
  rw [List.take_add_one]
  cases hb : bs[p]? with
  | none => simp
  | some x => simp [List.getD, hb] at h; subst h; simp
theorem cnt_mono (bs : List Bool) {p q : Nat} (h : p ≤ q) : (bs.take p).count true ≤ (bs.take q).count true := by
  have : bs.take p = (bs.take q).take p := by rw [List.take_take, Nat.min_eq_left h]
  rw [this]
  exact List.Sublist.count_le _ (List.take_sublist _ _)
theorem cnt_gap {bs : List Bool} {p q : Nat} (h : p ≤ q) (hz : ∀ i, p ≤ i → i < q → bs.getD i false = false) : (bs.take q).count true = (bs.take p).count true := by
  obtain ⟨k, rfl⟩ : ∃ k, q = p + k := ⟨q - p, by omega⟩
  induction k with
  | zero => rfl
  | succ k ih => rw [show p + (k + 1) = (p + k) + 1 by omega, cnt_take_false (hz (p + k) (by omega) (by omega)), ih (by omega) (fun i a b => hz i a (by omega))]
theorem Sel.uniq {bs : List Bool} {k p q : Nat} (a : Sel bs k p) (b : Sel bs k q) : p = q := by
  obtain ⟨_, a2, a3⟩ := a
  obtain ⟨_, b2, b3⟩ := b
  rcases Nat.lt_trichotomy p q with h | h | h
  · have := cnt_mono bs (show p + 1 ≤ q by omega); rw [cnt_take_succ a2] at this; omega
  · exact h
  · have := cnt_mono bs (show q + 1 ≤ p by omega); rw [cnt_take_succ b2] at this; omega
/-- the head of the program is that of the definition -/
theorem head_eq {l : List Int} {bs : List Bool} {s hr he hd : Int} (f : Fit l) (hl : bs.length = l.length) (s0 : 0 ≤ s) (s1 : s < l.sum) (hne : l ≠ []) (a : HeadS l bs s hr he) (b : HdR l bs s l.length hd) :
    (hd = -1 ∧ he = 11 ∧ hr = 0) ∨ (∃ p : Nat, hd = p ∧ hr = p ∧ he = 0 ∧ p < l.length ∧ p ≤ (locate l s).1 ∧ bs.getD p false = true) := by
  have lt := locate_lt s0 s1
  unfold HeadS at a
  rw [if_neg (by simp [hne]), if_pos ⟨s0, s1⟩] at a
  rcases b with ⟨e, hno⟩ | ⟨p, e, h1, h2, h3, h4⟩
  · have z : (bs.take ((locate l s).1 + 1)).count true = 0 := by
      have := cnt_gap (bs := bs) (p := 0) (q := (locate l s).1 + 1) (by omega) (fun i _ hi => by
        cases hb : bs.getD i false
        · rfl
        · have := hno i (by omega) hb
          have := (loc_le f s0 s1 i).2 (by omega)
          omega)
      simpa using this
    rw [if_pos z] at a
    exact .inl ⟨e, a.2, a.1⟩
  · have hp := (loc_le f s0 s1 p).1 h3
    have c : (bs.take ((locate l s).1 + 1)).count true = (bs.take p).count true + 1 := by
      rw [← cnt_take_succ h2]
      refine cnt_gap (by omega) fun i a b => ?_
      cases hb : bs.getD i false
      · rfl
      · have := h4 i (by omega) (by omega) hb
        have := (loc_le f s0 s1 i).2 (by omega)
        omega
    rw [if_neg (by omega)] at a
    obtain ⟨e0, q, e1, sq⟩ := a
    have : q = p := Sel.uniq sq ⟨by omega, h2, by omega⟩
    subst this
    exact .inr ⟨q, e, e1, e0, h1, hp, h2⟩
theorem place_eq {l : List Int} {bs : List Bool} {s r r' : Int} {p : Nat} (hb : bs.getD p false = true) (hp : p < bs.length)
    (a : if (bs.take (p + 1)).count true = bs.count true then r = 0 else ∃ q, Sel bs ((bs.take (p + 1)).count true) q ∧ r = min 0 ((l.take q).sum - s - l.getD p 0)) (b : PlR l bs s p r') : r = r' := by
  rcases b with ⟨e, hno⟩ | ⟨q, h1, h2, h3, h4, e⟩
  · have : (bs.take (p + 1)).count true = bs.count true := by
      have := cnt_gap (bs := bs) (p := p + 1) (q := bs.length) (by omega) (fun i a b => hno i (by omega) b)
      rw [List.take_length] at this
      exact this.symm
    rw [if_pos this] at a
    omega
  · have c : (bs.take q).count true = (bs.take (p + 1)).count true := cnt_gap (by omega) (fun i a b => h4 i (by omega) b)
    have d := cnt_take_succ h3
    have m := cnt_mono bs (show q + 1 ≤ bs.length by omega)
    rw [List.take_length] at m
    rw [if_neg (by omega)] at a
    obtain ⟨q', sq, e'⟩ := a
    have : q' = q := Sel.uniq sq ⟨h2, h3, c⟩
    subst this
    omega
theorem att_form (f t hd : Int) (hf : 0 ≤ f) (hft : f ≤ t) (hh : hd < t) : ∀ j : Nat, attR f t hd j = (if 0 ≤ hd ∧ hd < f ∧ hd < (j : Int) then [hd] else []) ++ rng f (min (j : Int) t - f).toNat
  | 0 => by
    rw [if_neg (by omega), show (min ((0 : Nat) : Int) t - f).toNat = 0 by omega]; rfl
  | j + 1 => by
    have q := attR_succ f t hd j
    rw [att_form f t hd hf hft hh j] at q
    obtain ⟨X, hX⟩ : ∃ X, X = (if (f ≤ (j : Int) ∧ (j : Int) < t) ∨ (j : Int) = hd then [(j : Int)] else []) := ⟨_, rfl⟩
    rw [q]; clear q
    rw [← hX]
    by_cases c1 : f ≤ (j : Int) ∧ (j : Int) < t
    · rw [if_pos (.inl c1)] at hX
      rw [hX, List.append_assoc]
      have e1 : (min ((j + 1 : Nat) : Int) t - f).toNat = (min (j : Int) t - f).toNat + 1 := by omega
      rw [e1, rng_succ]
      have e2 : f + ((min (j : Int) t - f).toNat : Int) = j := by omega
      rw [e2]
      congr 1
      by_cases c2 : 0 ≤ hd ∧ hd < f ∧ hd < (j : Int)
      · rw [if_pos c2, if_pos (by omega)]
      · rw [if_neg c2, if_neg (by omega)]
    · by_cases c2 : (j : Int) = hd
      · rw [if_pos (.inr c2)] at hX
        rw [hX, if_neg (by omega), if_pos (by omega), show (min ((j + 1 : Nat) : Int) t - f).toNat = 0 by omega, show (min (j : Int) t - f).toNat = 0 by omega, c2]
        simp [rng]
      · rw [if_neg (by omega)] at hX
        rw [hX, List.append_nil]
        congr 1
        · by_cases c3 : 0 ≤ hd ∧ hd < f ∧ hd < (j : Int)
          · rw [if_pos c3, if_pos (by omega)]
          · rw [if_neg c3, if_neg (by omega)]
        · congr 1; omega
theorem att_eq {l : List Int} {bs : List Bool} {view over s hd : Int} {A : List Int} (f : Fit l) (hl : bs.length = l.length) (s0 : 0 ≤ s) (s1 : s < l.sum) (hne : l ≠ []) (h1 : 1 ≤ view) (o0 : 0 ≤ over) (a : AttS l bs view over s A) (b : HdR l bs s l.length hd) :
    A = attR (winL l view over s).1 (winL l view over s).2 hd l.length := by
  obtain ⟨hr, he, hs, e⟩ := a
  have lt1 := locate_lt s0 s1
  have hlen := List.length_pos_iff.2 hne
  have ll : ((locate l s).1 : Int) ≤ lastL l view s ∧ lastL l view s < l.length := by
    unfold lastL
    split
    · have := locate_mono l (x := s) (y := s + view - 1) (by omega)
      have := locate_lt (l := l) (x := s + view - 1) (by omega) (by assumption); omega
    · omega
  obtain ⟨fr, hfr⟩ : ∃ fr, fr = (winL l view over s).1 := ⟨_, rfl⟩
  obtain ⟨to', hto⟩ : ∃ t, t = (winL l view over s).2 := ⟨_, rfl⟩
  rw [← hfr, ← hto] at e ⊢
  have e1 : fr = max 0 (((locate l s).1 : Int) - over) := hfr
  have e2 : to' = min (l.length : Int) (lastL l view s + 1 + over) := hto
  rcases head_eq f hl s0 s1 hne hs b with ⟨x1, x2, x3⟩ | ⟨p, x1, x2, x3, x4, x5, _⟩
  · rw [att_form fr to' hd (by omega) (by omega) (by omega) l.length, if_neg (by omega), e, if_neg (by omega), show min (l.length : Int) to' = to' by omega]
  · rw [att_form fr to' hd (by omega) (by omega) (by omega) l.length, e, show min (l.length : Int) to' = to' by omega]
    congr 1
    by_cases c : hr < fr
    · rw [if_pos ⟨x3, c⟩, if_pos (by omega), x1, x2]
    · rw [if_neg (by omega), if_neg (by omega)]
end Go.Ev.Lay

/- printed by cutfn.py: parts of fn4 -/
namespace Go.Ev.Lay
def see4 : IC := (.seq (.ops [⟨none, .p (.ib .neq) [.v 22, .v 29], none⟩, ⟨(some (.l 0, false)), .p .mv [.v 24], none⟩, ⟨(some (.l 1, false)), .p .mv [.v 29], none⟩, ⟨(some (.l 2, false)), .p (.ib .neq) [.l 1, .l 0], none⟩, ⟨none, .p .pick [.l 3, .c (.bool true), .l 0], none⟩, ⟨(some (.l 0, false)), .p .mv [.v 29], none⟩, ⟨(some (.l 1, false)), .p (.ib .neq) [.l 0, .c (.int .i64 0)], none⟩, ⟨(some (.l 2, false)), .p .mv [.l 0], none⟩, ⟨(some (.l 0, true)), .p .mv [.v 21], none⟩, ⟨(some (.l 1, true)), .p (.ib .neq) [.l 0, .c (.int .i64 0)], none⟩, ⟨(some (.l 2, true)), .p .mv [.l 0], none⟩, ⟨(some (.l 0, false)), .p .mv [.v 23], none⟩, ⟨(some (.l 1, false)), .p (.ib .neq) [.l 0, .c (.int .i64 0)], none⟩, ⟨(some (.l 5, true)), .p .pick [.l 2, .c (.bool true), .l 0], none⟩, ⟨(some (.l 9, false)), .p .pick [.l 6, .l 0, .c (.bool false)], none⟩, ⟨none, .p .pick [.l 10, .c (.bool true), .l 0], none⟩, ⟨(some (.l 0, false)), .p .mv [.v 29], none⟩, ⟨(some (.l 1, false)), .p (.ib .eql) [.l 0, .c (.int .i64 0)], none⟩, ⟨(some (.l 2, false)), .p .mv [.l 0], none⟩, ⟨(some (.l 0, true)), .p .mv [.v 21], none⟩, ⟨(some (.l 1, true)), .p .mv [.v 30], none⟩, ⟨(some (.l 2, true)), .p (.ib .neq) [.l 1, .l 0], none⟩, ⟨(some (.l 3, true)), .p .mv [.l 0], none⟩, ⟨(some (.l 0, false)), .p .mv [.v 23], none⟩, ⟨(some (.l 1, false)), .p .mv [.v 7], none⟩, ⟨(some (.l 2, false)), .p .mv [.v 2], none⟩, ⟨(some (.l 3, false)), .p .mv [.v 30], none⟩, ⟨(some (.l 4, false)), .cf 32 [.l 2, .l 1, .l 0], none⟩, ⟨(some (.l 5, false)), .p (.ib .neq) [.l 4, .l 0], none⟩, ⟨(some (.l 10, true)), .p .pick [.l 6, .c (.bool true), .l 0], none⟩, ⟨(some (.l 14, false)), .p .pick [.l 11, .l 0, .c (.bool false)], none⟩, ⟨none, .p .pick [.l 15, .c (.bool true), .l 0], some 280⟩]) (.cond (.v 280) (.seq (.ops [⟨none, .p .mv [.c (.bool false)], some 6⟩]) (.ret)) (.skip)))
def see3 : IC := (.seq (.ops [⟨none, .cf 27 [.v 8, .v 2], none⟩, ⟨none, .p (.ext 0) [.l 0], none⟩, ⟨none, .p (.ext 1) [.l 1], none⟩, ⟨none, .p .mv [.l 1], some 21⟩, ⟨none, .p .mv [.l 0], some 22⟩]) (.seq (.ops [⟨none, .cf 12 [.v 8, .v 2], none⟩, ⟨none, .p (.ext 0) [.l 0], none⟩, ⟨none, .p (.ext 1) [.l 1], none⟩, ⟨none, .p .mv [.l 1], some 23⟩, ⟨none, .p .mv [.l 0], some 24⟩]) (.seq (.ops [⟨none, .cf 28 [.v 8, .v 2], none⟩, ⟨none, .p (.ext 0) [.l 0], none⟩, ⟨none, .p (.ext 1) [.l 1], none⟩, ⟨none, .p (.ext 2) [.l 2], none⟩, ⟨none, .p .mv [.l 2], some 25⟩, ⟨none, .p .mv [.l 1], some 26⟩, ⟨none, .p .mv [.l 0], some 27⟩]) (.seq (.ops [⟨none, .cf 29 [.v 7, .v 2], none⟩, ⟨none, .p .mv [.l 0], some 28⟩]) (.seq (.seq (.ops [⟨none, .p (.ib .lss) [.v 28, .c (.int .i64 0)], none⟩, ⟨(some (.l 0, true)), .p .mv [.v 27], none⟩, ⟨(some (.l 1, true)), .p (.ib .neq) [.l 0, .c (.int .i64 4)], none⟩, ⟨(some (.l 2, true)), .p .mv [.l 0], none⟩, ⟨(some (.l 0, false)), .p .mv [.v 25], none⟩, ⟨(some (.l 1, false)), .p (.ib .neq) [.l 0, .c (.int .i64 0)], none⟩, ⟨(some (.l 5, true)), .p .pick [.l 2, .c (.bool true), .l 0], none⟩, ⟨(some (.l 6, true)), .p .mv [.l 0], none⟩, ⟨(some (.l 0, false)), .p .mv [.v 26], none⟩, ⟨(some (.l 1, false)), .p (.ib .neq) [.l 0, .c (.int .i64 0)], none⟩, ⟨(some (.l 9, true)), .p .pick [.l 2, .c (.bool true), .l 0], none⟩, ⟨none, .p .pick [.l 10, .l 0, .c (.bool false)], none⟩, ⟨(some (.l 0, false)), .p .mv [.v 28], none⟩, ⟨(some (.l 1, false)), .p (.ib .geq) [.l 0, .c (.int .i64 0)], none⟩, ⟨(some (.l 2, false)), .p .mv [.l 0], none⟩, ⟨(some (.l 0, true)), .p .mv [.v 27], none⟩, ⟨(some (.l 1, true)), .p (.ib .neq) [.l 0, .c (.int .i64 0)], none⟩, ⟨(some (.l 2, true)), .p .mv [.l 0], none⟩, ⟨(some (.l 0, false)), .p .mv [.v 25], none⟩, ⟨(some (.l 1, false)), .p .mv [.v 28], none⟩, ⟨(some (.l 2, false)), .p (.ib .neq) [.l 1, .l 0], none⟩, ⟨(some (.l 6, true)), .p .pick [.l 3, .c (.bool true), .l 0], none⟩, ⟨(some (.l 7, true)), .p .mv [.l 0], none⟩, ⟨(some (.l 0, false)), .p .mv [.v 26], none⟩, ⟨(some (.l 1, false)), .p .mv [.v 2], none⟩, ⟨(some (.l 2, false)), .p .mv [.v 7], none⟩, ⟨(some (.l 3, false)), .p .mv [.v 28], none⟩, ⟨(some (.l 4, false)), .cf 30 [.l 1, .l 0], none⟩, ⟨(some (.l 5, false)), .p (.ib .sub) [.l 3, .l 0], none⟩, ⟨(some (.l 6, false)), .p (.ib .neq) [.l 5, .l 0], none⟩, ⟨(some (.l 15, true)), .p .pick [.l 7, .c (.bool true), .l 0], none⟩, ⟨(some (.l 19, false)), .p .pick [.l 16, .l 0, .c (.bool false)], none⟩, ⟨none, .p .pick [.l 20, .c (.bool true), .l 0], some 227⟩]) (.cond (.v 227) (.seq (.ops [⟨none, .p .mv [.c (.bool false)], some 6⟩]) (.ret)) (.skip))) (.seq (.ops [⟨none, .p .mv [.c (.int .i64 0)], some 29⟩]) (.seq (.ops [⟨none, .cf 31 [.v 7, .v 2], none⟩, ⟨none, .p .mv [.l 0], some 30⟩]) (.seq (.seq (.ops [⟨none, .p (.ib .lss) [.v 28, .c (.int .i64 0)], none⟩, ⟨(some (.l 0, true)), .p .mv [.v 2], none⟩, ⟨(some (.l 1, true)), .p (.ib .neq) [.l 0, .c (.int .i64 0)], none⟩, ⟨(some (.l 2, true)), .p .mv [.l 0], none⟩, ⟨(some (.l 0, false)), .p .mv [.v 7], none⟩, ⟨(some (.l 1, false)), .p .lenS [.l 0], none⟩, ⟨(some (.l 2, false)), .p (.ib .gtr) [.l 0, .c (.int .i64 0)], none⟩, ⟨(some (.l 6, true)), .p .pick [.l 3, .c (.bool true), .l 0], none⟩, ⟨none, .p .pick [.l 7, .l 0, .c (.bool false)], some 241⟩]) (.cond (.v 241) (.ops [⟨none, .p .mv [.c (.int .i64 4)], some 29⟩]) (.seq (.ops [⟨none, .p (.ib .lss) [.v 30, .c (.int .i64 0)], some 243⟩]) (.cond (.v 243) (.ops [⟨none, .p .mv [.c (.int .i64 11)], some 29⟩]) (.skip))))) see4))))))))
def see2 : IC := (.seq (.seq (.ops [⟨none, .p (.ib .eql) [.v 11, .v 2], some 117⟩]) (.cond (.v 117) (.seq (.ops [⟨none, .p (.faddr 0) [.v 9], none⟩, ⟨none, .ld 1 false (.l 0), none⟩, ⟨none, .p (.faddr 1) [.v 9], none⟩, ⟨none, .ld 1 false (.l 0), none⟩, ⟨none, .cf 25 [.v 7, .l 2, .l 0, .v 2], none⟩, ⟨none, .p (.ext 0) [.l 0], none⟩, ⟨none, .p (.ext 1) [.l 1], none⟩, ⟨none, .p .mv [.l 1], some 19⟩, ⟨none, .p .mv [.l 0], some 20⟩]) (.seq (.ops [⟨none, .p (.ib .neq) [.v 14, .v 19], none⟩, ⟨(some (.l 0, false)), .p .mv [.v 15], none⟩, ⟨(some (.l 1, false)), .p .mv [.v 20], none⟩, ⟨(some (.l 2, false)), .p (.ib .neq) [.l 1, .l 0], none⟩, ⟨none, .p .pick [.l 3, .c (.bool true), .l 0], none⟩, ⟨(some (.l 0, false)), .p .mv [.v 17], none⟩, ⟨(some (.l 1, false)), .p .mv [.v 7], none⟩, ⟨(some (.l 2, false)), .p (.faddr 0) [.v 9], none⟩, ⟨(some (.l 3, false)), .ld 1 false (.l 0), none⟩, ⟨(some (.l 4, false)), .p (.faddr 1) [.v 9], none⟩, ⟨(some (.l 5, false)), .ld 1 false (.l 0), none⟩, ⟨(some (.l 6, false)), .p .mv [.v 2], none⟩, ⟨(some (.l 7, false)), .cf 26 [.l 5, .l 3, .l 1, .l 0], none⟩, ⟨(some (.l 8, false)), .cf 13 [.l 7, .l 0], none⟩, ⟨(some (.l 9, false)), .p (.ib .eql) [.l 0, .c (.int .i64 0)], none⟩, ⟨none, .p .pick [.l 10, .c (.bool true), .l 0], none⟩, ⟨(some (.l 0, false)), .p .mv [.v 17], none⟩, ⟨(some (.l 1, false)), .p .capS [.l 0], none⟩, ⟨(some (.l 2, false)), .p .mv [.v 17], none⟩, ⟨(some (.l 3, false)), .p .lenS [.l 0], none⟩, ⟨(some (.l 4, false)), .p (.ib .neq) [.l 2, .l 0], none⟩, ⟨none, .p .pick [.l 5, .c (.bool true), .l 0], some 154⟩]) (.cond (.v 154) (.seq (.ops [⟨none, .p .mv [.c (.bool false)], some 6⟩]) (.ret)) (.skip)))) (.seq (.ops [⟨none, .p (.ib .neq) [.v 16, .c (.int .i64 4)], none⟩, ⟨(some (.l 0, false)), .p .mv [.v 14], none⟩, ⟨(some (.l 1, false)), .p (.ib .neq) [.l 0, .c (.int .i64 0)], none⟩, ⟨none, .p .pick [.l 2, .c (.bool true), .l 0], none⟩, ⟨(some (.l 0, false)), .p .mv [.v 15], none⟩, ⟨(some (.l 1, false)), .p (.ib .neq) [.l 0, .c (.int .i64 0)], none⟩, ⟨none, .p .pick [.l 2, .c (.bool true), .l 0], none⟩, ⟨(some (.l 0, false)), .p .mv [.v 17], none⟩, ⟨(some (.l 1, false)), .p .lenS [.l 0], none⟩, ⟨(some (.l 2, false)), .p (.ib .gtr) [.l 0, .c (.int .i64 0)], none⟩, ⟨none, .p .pick [.l 3, .c (.bool true), .l 0], some 169⟩]) (.cond (.v 169) (.seq (.ops [⟨none, .p .mv [.c (.bool false)], some 6⟩]) (.ret)) (.skip))))) see3)
def see1 : IC := (.seq (.ops [⟨none, .p (.faddr 0) [.v 9], none⟩, ⟨none, .ld 1 false (.l 0), none⟩, ⟨none, .cf 23 [.v 7, .l 0, .v 2], none⟩, ⟨none, .p .mv [.l 0], some 11⟩]) (.seq (.ops [⟨none, .ld 3 true (.v 9), none⟩, ⟨none, .cf 10 [.v 8, .l 0, .v 2], none⟩, ⟨none, .p (.ext 0) [.l 0], none⟩, ⟨none, .p (.ext 1) [.l 1], none⟩, ⟨none, .p .mv [.l 1], some 12⟩, ⟨none, .p .mv [.l 0], some 13⟩]) (.seq (.ops [⟨none, .ld 3 true (.v 9), none⟩, ⟨none, .cf 24 [.v 8, .l 0, .v 2], none⟩, ⟨none, .p (.ext 0) [.l 0], none⟩, ⟨none, .p (.ext 1) [.l 1], none⟩, ⟨none, .p (.ext 2) [.l 2], none⟩, ⟨none, .p .mv [.l 2], some 14⟩, ⟨none, .p .mv [.l 1], some 15⟩, ⟨none, .p .mv [.l 0], some 16⟩]) (.seq (.ops [⟨none, .ld 3 true (.v 9), none⟩, ⟨none, .cf 11 [.v 8, .l 0, .v 2], none⟩, ⟨none, .p (.ext 0) [.l 0], none⟩, ⟨none, .p (.ext 1) [.l 1], none⟩, ⟨none, .p .mv [.l 1], some 17⟩, ⟨none, .p .mv [.l 0], some 18⟩]) (.seq (.seq (.ops [⟨none, .p (.ib .neq) [.v 13, .c (.int .i64 0)], none⟩, ⟨(some (.l 0, false)), .p .mv [.v 12], none⟩, ⟨(some (.l 1, false)), .p .mv [.v 11], none⟩, ⟨(some (.l 2, false)), .p (.ib .neq) [.l 1, .l 0], none⟩, ⟨none, .p .pick [.l 3, .c (.bool true), .l 0], none⟩, ⟨(some (.l 0, false)), .p .mv [.v 16], none⟩, ⟨(some (.l 1, false)), .p .mv [.v 18], none⟩, ⟨(some (.l 2, false)), .p (.ib .neq) [.l 1, .l 0], none⟩, ⟨none, .p .pick [.l 3, .c (.bool true), .l 0], none⟩, ⟨(some (.l 0, false)), .p .mv [.v 16], none⟩, ⟨(some (.l 1, false)), .p (.ib .eql) [.l 0, .c (.int .i64 0)], none⟩, ⟨(some (.l 2, false)), .p .mv [.v 11], none⟩, ⟨(some (.l 3, false)), .p .mv [.v 2], none⟩, ⟨(some (.l 4, false)), .p (.ib .eql) [.l 1, .l 0], none⟩, ⟨(some (.l 5, false)), .p (.bb true) [.l 3, .l 0], none⟩, ⟨none, .p .pick [.l 6, .c (.bool true), .l 0], some 114⟩]) (.cond (.v 114) (.seq (.ops [⟨none, .p .mv [.c (.bool false)], some 6⟩]) (.ret)) (.skip))) see2)))))
def fn4x : IFn := ⟨3, .seq (.ops [⟨none, .bx (.v 0), some 3⟩, ⟨none, .bx (.v 1), some 4⟩, ⟨none, .p .mv [.c (.bool false)], some 6⟩]) (.seq (.ops [⟨none, .ld 1 true (.v 3), none⟩, ⟨none, .cf 21 [.l 0], none⟩, ⟨none, .p .mv [.l 0], some 7⟩]) (.seq (.ops [⟨none, .cf 7 [.v 7], none⟩, ⟨none, .p .mv [.l 0], some 8⟩]) (.seq (.ops [⟨none, .p (.ixa 2 1) [.v 4, .c (.int .i64 0)], none⟩, ⟨none, .ld 1 false (.l 0), none⟩, ⟨none, .p (.ib .rem) [.l 0, .c (.int .u16 300)], none⟩, ⟨none, .p (.conv .i64) [.l 0], none⟩, ⟨none, .p (.ib .add) [.c (.int .i64 1), .l 0], none⟩, ⟨none, .p (.ixa 2 1) [.v 4, .c (.int .i64 1)], none⟩, ⟨none, .ld 1 false (.l 0), none⟩, ⟨none, .p (.ib .rem) [.l 0, .c (.int .u16 17)], none⟩, ⟨none, .p (.conv .i64) [.l 0], none⟩, ⟨none, .p (.build [(.int .i64 0), (.int .i64 0), (.bool false)] [(0, 1), (1, 1)]) [.l 4, .l 0], none⟩, ⟨none, .al [(.int .i64 0), (.int .i64 0), (.bool false)], some 9⟩, ⟨none, .st 3 (.v 9) (.l 0), none⟩]) (.seq (.seq (.ops [⟨none, .p (.nil 0 false) [.v 8, .c .nilp], some 46⟩]) (.cond (.v 46) (.seq (.ops [⟨none, .p .mv [.c (.bool false)], some 6⟩]) (.ret)) (.skip))) (.seq (.seq (.ops [⟨none, .p .mv [.c (.int .i64 0)], some 10⟩]) (.block 0 (.loop (.seq (.seq (.ops [⟨none, .p (.ib .lss) [.v 10, .c (.int .i64 2)], some 48⟩]) (.cond (.v 48) (.skip) (.exit 0))) (.seq (.block 1 (.seq (.seq (.ops [⟨none, .p (.ib .gtr) [.v 10, .c (.int .i64 0)], none⟩, ⟨(some (.l 0, true)), .p .mv [.v 7], none⟩, ⟨(some (.l 1, true)), .p .lenS [.l 0], none⟩, ⟨(some (.l 2, true)), .p (.ib .gtr) [.l 0, .c (.int .i64 0)], none⟩, ⟨none, .p .pick [.l 3, .l 0, .c (.bool false)], some 57⟩]) (.cond (.v 57) (.dops [⟨none, .p .mv [.v 2], none⟩, ⟨none, .p .mv [.v 7], none⟩, ⟨none, .cf 22 [.l 0], none⟩, ⟨none, .p (.ib .rem) [.l 2, .l 0], none⟩, ⟨none, .p .mv [.v 7], none⟩, ⟨none, .cf 22 [.l 0], none⟩, ⟨none, .p (.ib .add) [.l 2, .l 0], none⟩, ⟨none, .p .mv [.v 7], none⟩, ⟨none, .cf 22 [.l 0], none⟩, ⟨none, .p (.ib .rem) [.l 2, .l 0], none⟩, ⟨none, .p .mv [.l 0], none⟩] [] [0, 0, 2, 7, 0, 22, 63, 0, 182, 511, 1023] [0, 1, 2, 3, 4, 5, 6, 7, 8, 9, 10] [] [(2, 10)]) (.skip))) see1)) (.ops [⟨none, .p .mv [.v 10], none⟩, ⟨none, .p (.ib .add) [.l 0, .c (.int .i64 1)], none⟩, ⟨none, .p .mv [.l 0], some 10⟩])))))) (.seq (.ops [⟨none, .cf 17 [.v 8, .v 7], none⟩, ⟨none, .p (.ib .eql) [.l 0, .c (.int .i64 1)], none⟩, ⟨(some (.l 0, true)), .cf 20 [], none⟩, ⟨none, .p .pick [.l 1, .l 0, .c (.bool false)], none⟩, ⟨none, .p .mv [.l 0], some 6⟩]) (.ret))))))), [.t 6], [0, 1, 2, 3, 4, 6, 7, 8, 9, 10, 11, 12, 13, 14, 15, 16, 17, 18, 19, 20, 21, 22, 23, 24, 25, 26, 27, 28, 29, 30, 46, 48, 57, 114, 117, 154, 169, 227, 241, 243, 280]⟩
/-- paternoster/paternosterlaw34.LayoutsScript -/
theorem g4x : F.get 4 = some fn4x := rfl
end Go.Ev.Lay
