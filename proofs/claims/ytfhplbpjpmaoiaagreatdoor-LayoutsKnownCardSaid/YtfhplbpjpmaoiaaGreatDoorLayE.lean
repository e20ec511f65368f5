/- An evaluator of the program and contracts proved over it: the texts LayQ LayR LayS LayU LayV. -/
import Derived.Test.YtfhplbpjpmaoiaaGreatDoorLayD
import Derived.Test.YtfhplbpjpmaoiaaGreatDoorLayO
set_option linter.unusedSimpArgs false
set_option linter.unusedVariables false
set_option linter.constructorNameAsVariable false
/- Flags: put, check, Get, Set, list, become, Insert. -/
namespace Go.Ev.Lay
set_option maxRecDepth 4000
theorem flc_set (n m : Int) (ws : List Nat) (k y : Nat) : (flc n m ws).set (2 + k) (.int .u64 (y : Int)) = flc n m (ws.set k y) := by
  rw [Nat.add_comm]; simp [flc, List.map_set, uw]
theorem flc_len (n m : Int) (ws : List Nat) : (flc n m ws).length = ws.length + 2 := by simp [flc]
theorem updO_nilv (l : List V) : updO l 0 [] = some l := by cases l <;> rfl
theorem flc_upd1 (n m m' : Int) (ws : List Nat) : updO (flc n m ws) 1 [.int .i64 m'] = some (flc n m' ws) := by
  show updO (.int .i64 n :: .int .i64 m :: ws.map uw) (0 + 1) [.int .i64 m'] = _
  rw [updO_succ, updO_zero_cons, updO_nilv]; rfl
theorem flc_upd0 (n n' m : Int) (ws : List Nat) : updO (flc n m ws) 0 [.int .i64 n'] = some (flc n' m ws) := by
  show updO (.int .i64 n :: .int .i64 m :: ws.map uw) 0 [.int .i64 n'] = _
  rw [updO_zero_cons, updO_nilv]; rfl
theorem one_shl (k : IntKind) (j : Nat) (hj : j < 64) : aP (.sh true) [.int .u64 1, .int k (j : Int)] = some (.int .u64 ((2 ^ j : Nat) : Int)) := by
  have h2 : 2 ^ j < 2 ^ 64 := Nat.pow_lt_pow_right (by omega) hj
  rw [aP_shl _ _ _ _ (by omega)]
  simp only [Int.toNat_natCast, IntKind.bits, Nat.min_eq_left (show j ≤ 64 by omega), Int.one_mul]
  rw [fwrap_u64 _ (Int.natCast_nonneg _) (Int.ofNat_le.2 (Nat.le_of_lt_succ (by simpa using h2)))]
theorem fput_ok {h : Heap} {b : Nat} {bs : List Bool} {i : Nat} {v : Bool} (w : WF h) (f : Fl h b bs) (hi : i < bs.length) : Does go 87 [.ptr b 0, .int .i64 (i : Int), .bool v] h fun u h' => u = .tup [] ∧ Fl h' b (bs.set i v) ∧ Fr [b] h h' ∧ h'.next = h.next := by
  have f0 := f
  obtain ⟨ws, o, ok, hn⟩ := f
  obtain ⟨x, e1, e2, e3⟩ := ok.w (i / 64) (by omega)
  have q1 := (quo64 i).resolve_right (by omega)
  have q2 := rem64 i
  have q3 := aP_ixa 1 b 2 64 .i64 ((i / 64 : Nat) : Int) (by omega) (by omega)
  simp only [Int.toNat_natCast, Nat.mul_one] at q3
  have q4 : hload1 h b (2 + i / 64) = some (.int .u64 (x : Int)) := by rw [o.ld1, flc_nth, e1]; rfl
  have q5 := one_shl .i64 (i % 64) (by omega)
  have h2 : 2 ^ (i % 64) < 2 ^ 64 := Nat.pow_lt_pow_right (by omega) (by omega)
  have q6 := aP_xorN x (2 ^ (i % 64)) _ _ rfl rfl e2 (by simpa using h2)
  have cnt_le : bs.count true ≤ bs.length := List.count_le_length
  refine does_fn g87 rfl ?_
  simp (disch := omega) only [fn87, evs, ↓reduceIte, Nat.reduceEqDiff, Nat.reduceAdd, Nat.reduceMul, Nat.reduceLeDiff, Nat.reduceLT, Int.reduceNeg, DF, eff, Nat.reduceSub]
  refine OQ_does (get_ok f0 hi) ?_
  rintro _ _ ⟨rfl, hh⟩
  subst hh
  by_cases hv : bs.getD i false = v
  · simp (disch := omega) only [evs, ↓reduceIte, Nat.reduceEqDiff, Nat.reduceAdd, Nat.reduceMul, Nat.reduceLeDiff, Nat.reduceLT, Int.reduceNeg, DF, eff, Nat.reduceSub, fwrap_i64, eq_true hv]
    rw [← hv, set_same]
    exact ⟨f0, Fr.refl w⟩
  · simp (disch := omega) only [evs, ↓reduceIte, Nat.reduceEqDiff, Nat.reduceAdd, Nat.reduceMul, Nat.reduceLeDiff, Nat.reduceLT, Int.reduceNeg, DF, eff, Nat.reduceSub, fwrap_i64, eq_false hv, q1, q2, q3, q4, q5, q6]
    refine store_step (c' := flc bs.length (bs.count true) (ws.set (i / 64) (x ^^^ 2 ^ (i % 64)))) w o rfl rfl ?_ ?_
    · rw [show V.cells (.int .u64 ((x ^^^ 2 ^ (i % 64) : Nat) : Int)) = [.int .u64 ((x ^^^ 2 ^ (i % 64) : Nat) : Int)] from rfl, updO_set1 _ _ _ (by rw [flc_len, ok.len]; omega), flc_set]
    rintro h1 o1 F1 n1
    have cs := count_set bs i v hi hv
    have okf := ok.flip hi hn e1 hv
    have ln : ((bs.set i v).length : Int) = bs.length := by simp
    cases v
    · simp (disch := omega) only [evs, ↓reduceIte, Nat.reduceEqDiff, Nat.reduceAdd, Nat.reduceMul, Nat.reduceLeDiff, Nat.reduceLT, Int.reduceNeg, DF, eff, Nat.reduceSub, fwrap_i64, q4, o1.ld1, flc]
      refine store_step (c' := flc bs.length ((bs.count true : Int) - 1) (ws.set (i / 64) (x ^^^ 2 ^ (i % 64)))) F1.wf o1 rfl rfl (flc_upd1 _ _ _ _) ?_
      rintro h2 o2 F2 n2
      simp (disch := omega) only [evs, ↓reduceIte, Nat.reduceEqDiff, Nat.reduceAdd, Nat.reduceMul, Nat.reduceLeDiff, Nat.reduceLT, Int.reduceNeg, DF, eff, Nat.reduceSub, fwrap_i64]
      simp only [Bool.false_eq_true, if_false] at cs
      refine ⟨⟨_, by rw [ln, cs, show (bs.count true : Int) + -1 = bs.count true - 1 by omega]; exact o2, okf, by simpa using hn⟩, F1.trans F2 w (fun x hx => .inl hx) (fun x hx => .inl hx), n2.trans n1⟩
    · simp (disch := omega) only [evs, ↓reduceIte, Nat.reduceEqDiff, Nat.reduceAdd, Nat.reduceMul, Nat.reduceLeDiff, Nat.reduceLT, Int.reduceNeg, DF, eff, Nat.reduceSub, fwrap_i64, q4, o1.ld1, flc]
      refine store_step (c' := flc bs.length ((bs.count true : Int) + 1) (ws.set (i / 64) (x ^^^ 2 ^ (i % 64)))) F1.wf o1 rfl rfl (flc_upd1 _ _ _ _) ?_
      rintro h2 o2 F2 n2
      simp (disch := omega) only [evs, ↓reduceIte, Nat.reduceEqDiff, Nat.reduceAdd, Nat.reduceMul, Nat.reduceLeDiff, Nat.reduceLT, Int.reduceNeg, DF, eff, Nat.reduceSub, fwrap_i64]
      simp only [if_true] at cs
      refine ⟨⟨_, by rw [ln, cs]; exact o2, okf, by simpa using hn⟩, F1.trans F2 w (fun x hx => .inl hx) (fun x hx => .inl hx), n2.trans n1⟩
/-- the error of some bits from a place on -/
def fchk (n : Nat) (a k : Int) : Int := if a < 0 ∨ k < 0 ∨ n < a ∨ n - a < k then 4 else 0
theorem fcheck_ok {h : Heap} {b : Nat} {bs : List Bool} {a k : Int} (f : Fl h b bs) (a0 : -9223372036854775808 ≤ a) (a1 : a ≤ 9223372036854775807) : Does go 84 [.ptr b 0, .int .i64 a, .int .i64 k] h fun u h' => u = .int .i64 (fchk bs.length a k) ∧ h' = h := by
  obtain ⟨ws, o, ok, hn⟩ := f
  have q : hload1 h b 0 = some (.int .i64 (bs.length : Int)) := o.ld1 0
  unfold fchk
  by_cases c1 : a < 0
  · refine does_fn g84 rfl ?_
    simp (disch := omega) only [fn84, evs, ↓reduceIte, Nat.reduceEqDiff, Nat.reduceAdd, Nat.reduceMul, Nat.reduceLeDiff, Nat.reduceLT, Int.reduceNeg, DF, eff, Nat.reduceSub, fwrap_i64, q, c1]
    simp
  · by_cases c2 : k < 0
    · refine does_fn g84 rfl ?_
      simp (disch := omega) only [fn84, evs, ↓reduceIte, Nat.reduceEqDiff, Nat.reduceAdd, Nat.reduceMul, Nat.reduceLeDiff, Nat.reduceLT, Int.reduceNeg, DF, eff, Nat.reduceSub, fwrap_i64, q, c1, c2]
      simp
    · by_cases c3 : (bs.length : Int) < a
      · refine does_fn g84 rfl ?_
        simp (disch := omega) only [fn84, evs, ↓reduceIte, Nat.reduceEqDiff, Nat.reduceAdd, Nat.reduceMul, Nat.reduceLeDiff, Nat.reduceLT, Int.reduceNeg, DF, eff, Nat.reduceSub, fwrap_i64, q, c1, c2, c3]
        simp
      · by_cases c4 : (bs.length : Int) - a < k
        · refine does_fn g84 rfl ?_
          simp (disch := omega) only [fn84, evs, ↓reduceIte, Nat.reduceEqDiff, Nat.reduceAdd, Nat.reduceMul, Nat.reduceLeDiff, Nat.reduceLT, Int.reduceNeg, DF, eff, Nat.reduceSub, fwrap_i64, q, c1, c2, c3, c4]
          simp
        · refine does_fn g84 rfl ?_
          simp (disch := omega) only [fn84, evs, ↓reduceIte, Nat.reduceEqDiff, Nat.reduceAdd, Nat.reduceMul, Nat.reduceLeDiff, Nat.reduceLT, Int.reduceNeg, DF, eff, Nat.reduceSub, fwrap_i64, q, c1, c2, c3, c4]
          simp
theorem fGet_ok {h : Heap} {b : Nat} {bs : List Bool} {i : Int} (f : Fl h b bs) (a0 : -9223372036854775808 ≤ i) (a1 : i ≤ 9223372036854775807) : Does go 76 [.ptr b 0, .int .i64 i] h fun u h' => (u = if 0 ≤ i ∧ i < bs.length then .tup [.bool (bs.getD i.toNat false), .int .i64 0] else .tup [.bool false, .int .i64 4]) ∧ h' = h := by
  refine does_fn g76 rfl ?_
  simp (disch := omega) only [fn76, evs, ↓reduceIte, Nat.reduceEqDiff, Nat.reduceAdd, Nat.reduceMul, Nat.reduceLeDiff, Nat.reduceLT, Int.reduceNeg, DF, eff, Nat.reduceSub, fwrap_i64]
  refine OQ_does (fcheck_ok f a0 a1) ?_
  rintro _ _ ⟨rfl, hh⟩
  subst hh
  by_cases c : 0 ≤ i ∧ i < bs.length
  · have e : fchk bs.length i 1 = 0 := by unfold fchk; rw [if_neg (by omega)]
    obtain ⟨j, rfl⟩ : ∃ j : Nat, i = j := ⟨i.toNat, by omega⟩
    rw [e, if_pos c]
    simp (disch := omega) only [evs, ↓reduceIte, Nat.reduceEqDiff, Nat.reduceAdd, Nat.reduceMul, Nat.reduceLeDiff, Nat.reduceLT, Int.reduceNeg, DF, eff, Nat.reduceSub, fwrap_i64]
    refine OQ_does (get_ok f (by omega)) ?_
    rintro _ _ ⟨rfl, hh⟩
    subst hh
    simp (disch := omega) only [evs, ↓reduceIte, Nat.reduceEqDiff, Nat.reduceAdd, Nat.reduceMul, Nat.reduceLeDiff, Nat.reduceLT, Int.reduceNeg, DF, eff, Nat.reduceSub, fwrap_i64, Int.toNat_natCast]
  · have e : fchk bs.length i 1 = 4 := by unfold fchk; rw [if_pos (by omega)]
    rw [e, if_neg c]
    simp (disch := omega) only [evs, ↓reduceIte, Nat.reduceEqDiff, Nat.reduceAdd, Nat.reduceMul, Nat.reduceLeDiff, Nat.reduceLT, Int.reduceNeg, DF, eff, Nat.reduceSub, fwrap_i64, show ¬ (4 : Int) = 0 by omega]
theorem fSet_ok {h : Heap} {b : Nat} {bs : List Bool} {i : Int} {v : Bool} (w : WF h) (f : Fl h b bs) (a0 : -9223372036854775808 ≤ i) (a1 : i ≤ 9223372036854775807) : Does go 51 [.ptr b 0, .int .i64 i, .bool v] h fun u h' =>
    (u = .int .i64 (if 0 ≤ i ∧ i < bs.length then 0 else 4)) ∧ Fl h' b (if 0 ≤ i ∧ i < bs.length then bs.set i.toNat v else bs) ∧ Fr [b] h h' ∧ h'.next = h.next := by
  refine does_fn g51 rfl ?_
  simp (disch := omega) only [fn51, evs, ↓reduceIte, Nat.reduceEqDiff, Nat.reduceAdd, Nat.reduceMul, Nat.reduceLeDiff, Nat.reduceLT, Int.reduceNeg, DF, eff, Nat.reduceSub, fwrap_i64]
  refine OQ_does (fcheck_ok f a0 a1) ?_
  rintro _ _ ⟨rfl, hh⟩
  subst hh
  by_cases c : 0 ≤ i ∧ i < bs.length
  · have e : fchk bs.length i 1 = 0 := by unfold fchk; rw [if_neg (by omega)]
    obtain ⟨j, rfl⟩ : ∃ j : Nat, i = j := ⟨i.toNat, by omega⟩
    rw [e, if_pos c, if_pos c]
    simp (disch := omega) only [evs, ↓reduceIte, Nat.reduceEqDiff, Nat.reduceAdd, Nat.reduceMul, Nat.reduceLeDiff, Nat.reduceLT, Int.reduceNeg, DF, eff, Nat.reduceSub, fwrap_i64]
    refine OQ_does (fput_ok w f (by omega)) ?_
    rintro _ h1 ⟨rfl, f1, F1, n1⟩
    simp (disch := omega) only [evs, ↓reduceIte, Nat.reduceEqDiff, Nat.reduceAdd, Nat.reduceMul, Nat.reduceLeDiff, Nat.reduceLT, Int.reduceNeg, DF, eff, Nat.reduceSub, fwrap_i64, Int.toNat_natCast]
    exact ⟨f1, F1, n1⟩
  · have e : fchk bs.length i 1 = 4 := by unfold fchk; rw [if_pos (by omega)]
    rw [e, if_neg c, if_neg c]
    simp (disch := omega) only [evs, ↓reduceIte, Nat.reduceEqDiff, Nat.reduceAdd, Nat.reduceMul, Nat.reduceLeDiff, Nat.reduceLT, Int.reduceNeg, DF, eff, Nat.reduceSub, fwrap_i64, show ¬ (4 : Int) = 0 by omega]
    exact ⟨f, Fr.refl w⟩
theorem zeroF (h : Heap) : WOK (List.replicate 64 0) [] := ⟨by simp, fun k hk => ⟨0, by rw [List.getElem?_replicate, if_pos hk], by omega, fun j _ => by simp⟩⟩
theorem fNew_ok {h : Heap} (w : WF h) : Does go 49 [.int .i64 0] h fun u h' => ∃ b, u = .tup [.ptr b 0, .int .i64 0] ∧ h.next ≤ b ∧ Fl h' b [] ∧ Fr [] h h' := by
  refine does_fn g49 rfl ?_
  simp (disch := omega) only [fn49, evs, ↓reduceIte, Nat.reduceEqDiff, Nat.reduceAdd, Nat.reduceMul, Nat.reduceLeDiff, Nat.reduceLT, Int.reduceNeg, DF, eff, Nat.reduceSub, fwrap_i64, show ¬ (0 : Int) < 0 by omega, show ¬ (4096 : Int) < 0 by omega]
  exact ⟨_, rfl, Nat.le_refl _, ⟨List.replicate 64 0, Own.new w _, zeroF h, by simp⟩, Fr.halloc w _⟩
theorem fCount_ok {h : Heap} {b : Nat} {bs : List Bool} (f : Fl h b bs) : Does go 55 [.ptr b 0] h fun u h' => u = .int .i64 (bs.count true : Nat) ∧ h' = h := by
  obtain ⟨ws, o, ok, hn⟩ := f
  have q : hload1 h b 1 = some (.int .i64 (bs.count true : Int)) := o.ld1 1
  refine does_fn g55 rfl ?_
  simp (disch := omega) only [fn55, evs, ↓reduceIte, Nat.reduceEqDiff, Nat.reduceAdd, Nat.reduceMul, Nat.reduceLeDiff, Nat.reduceLT, Int.reduceNeg, DF, eff, Nat.reduceSub, fwrap_i64, q]
end Go.Ev.Lay

/- Flags: list, become, Insert. -/
namespace Go.Ev.Lay
set_option maxRecDepth 4000
theorem Sl.frb {h h' : Heap} {esz : Nat} {v : V} {n : Nat} {cs : List V} {b : Nat} {c c' : List V} (a : Sl h esz v n cs) (f : Fr [b] h h') (o : Own h b c) (o' : Own h' b c') (hl : c'.length = c.length) (hd : cs ≠ [] → ∃ x ∈ cs, x ∉ c) : Sl h' esz v n cs := by
  obtain ⟨e1, e2⟩ := a
  have main : ∀ (bb oo : Nat), (∃ d, Own h bb d ∧ oo + n * esz ≤ d.length ∧ cs = (d.drop oo).take (n * esz)) → ∃ d, Own h' bb d ∧ oo + n * esz ≤ d.length ∧ cs = (d.drop oo).take (n * esz) := by
    rintro bb oo ⟨d, od, h1, h2⟩
    by_cases e : bb = b
    · subst e
      have := od.uniq o
      subst this
      by_cases hL : cs = []
      · subst hL
        have : n * esz = 0 := by simpa using e1.symm
        exact ⟨c', o', by omega, by simp [this]⟩
      · obtain ⟨x, hx, hn⟩ := hd hL
        rw [h2] at hx
        exact absurd (List.mem_of_mem_drop (List.mem_of_mem_take hx)) hn
    · exact ⟨d, f.own _ _ (by simpa using e) od, h1, h2⟩
  refine ⟨e1, ?_⟩
  cases v with
  | slice bb oo len cap => obtain ⟨x1, x2, x3⟩ := e2; exact ⟨x1, x2, main bb oo x3⟩
  | sliceU bb oo len cap => obtain ⟨x1, x2, x3⟩ := e2; exact ⟨x1, x2, main bb oo x3⟩
  | _ => exact e2
theorem Bools.frb {h h' : Heap} {v : V} {bs : List Bool} {b : Nat} {n m n' m' : Int} {ws ws' : List Nat} (a : Bools h v bs) (f : Fr [b] h h') (o : Own h b (flc n m ws)) (o' : Own h' b (flc n' m' ws')) (hl : ws'.length = ws.length) : Bools h' v bs := by
  refine Sl.frb a f o o' (by simp [flc_len, hl]) fun hne => ?_
  cases bs with
  | nil => simp at hne
  | cons x bs => exact ⟨.bool x, by simp, by simp [flc, uw]⟩
theorem set_mid (bs : List Bool) (i : Nat) (x : Bool) (h : bs[i]? = some x) : ((bs.take i).map V.bool ++ List.replicate (bs.length - i) (V.bool false)).set i (V.bool x) = (bs.take (i + 1)).map V.bool ++ List.replicate (bs.length - (i + 1)) (V.bool false) := by
  have hi : i < bs.length := by
    rcases Nat.lt_or_ge i bs.length with y | y
    · exact y
    · rw [List.getElem?_eq_none y] at h; cases h
  have hl : ((bs.take i).map V.bool).length = i := by simp; omega
  rw [List.set_append, if_neg (by omega), hl, Nat.sub_self, show bs.length - i = (bs.length - (i + 1)) + 1 by omega, List.replicate_succ, List.set_cons_zero, List.take_add_one, h]
  simp
theorem flist_ok {h : Heap} {b : Nat} {bs : List Bool} (w : WF h) (f : Fl h b bs) : Does go 85 [.ptr b 0] h fun u h' => Bools h' u bs ∧ (∃ c, u = .slice c 0 bs.length bs.length) ∧ Fr [] h h' := by
  have f0 := f
  obtain ⟨ws, o, ok, hn⟩ := f
  have q : hload1 h b 0 = some (.int .i64 (bs.length : Int)) := o.ld1 0
  refine does_fn g85 rfl ?_
  simp (disch := omega) only [fn85, evs, ↓reduceIte, Nat.reduceEqDiff, Nat.reduceAdd, Nat.reduceMul, Nat.reduceLeDiff, Nat.reduceLT, Int.reduceNeg, DF, eff, Nat.reduceSub, fwrap_i64, q]
  refine (amake_ok _ _ _ _ _ _ _ _ (by omega) (by omega) (by omega) (by omega)).2 ?_
  simp only [Int.toNat_natCast]
  rw [repL_one]
  obtain ⟨h1, e_h1⟩ : ∃ h1, h1 = halloc h (List.replicate bs.length (.bool false)) := ⟨_, rfl⟩
  have F_h1 : Fr [] h h1 := e_h1 ▸ Fr.halloc w _
  have o_h1 : Own h1 h.next (List.replicate bs.length (.bool false)) := e_h1 ▸ Own.new w _
  simp (disch := omega) only [evs, ↓reduceIte, Nat.reduceEqDiff, Nat.reduceAdd, Nat.reduceMul, Nat.reduceLeDiff, Nat.reduceLT, Int.reduceNeg, DF, eff, Nat.reduceSub, fwrap_i64, ← e_h1]
  refine W_loop (fun k env hh => ∃ i : Nat, env.get 12 = some (.int .i64 i) ∧ env.get 11 = some (.int .i64 bs.length) ∧ env.get 3 = some (.slice h.next 0 bs.length bs.length) ∧ env.get 0 = some (.ptr b 0) ∧ i ≤ bs.length ∧ Fr [] h hh ∧
    Own hh h.next ((bs.take i).map V.bool ++ List.replicate (bs.length - i) (.bool false)) ∧ k = bs.length - i) bs.length (by omega) ?_ ?_
  · exact ⟨0, (by simp [T.get_set]), (by simp [T.get_set]), (by simp [T.get_set]), (by simp [T.get_set]), by omega, F_h1, by simpa using o_h1, rfl⟩
  · rintro k env hh ⟨i, g12, g11, g3, g0, hi, F, oo, rfl⟩
    by_cases hlt : (i : Int) < bs.length
    · have ei : bs[i]? = some (bs.getD i false) := by simp [List.getD, show i < bs.length by omega]
      simp (disch := omega) only [evs, ↓reduceIte, Nat.reduceEqDiff, Nat.reduceAdd, Nat.reduceMul, Nat.reduceLeDiff, Nat.reduceLT, Int.reduceNeg, DF, eff, Nat.reduceSub, fwrap_i64, g12, g11, g3, g0, hlt]
      refine OQ_does (get_ok (f0.fr F) (by omega)) ?_
      rintro _ _ ⟨rfl, hh'⟩
      subst hh'
      have ix := aP_ixS 1 h.next 0 bs.length bs.length .i64 i (by omega) hlt
      simp only [Int.toNat_natCast, Nat.mul_one, Nat.zero_add] at ix
      simp (disch := omega) only [evs, ↓reduceIte, Nat.reduceEqDiff, Nat.reduceAdd, Nat.reduceMul, Nat.reduceLeDiff, Nat.reduceLT, Int.reduceNeg, DF, eff, Nat.reduceSub, fwrap_i64, g12, g11, g3, g0, ix]
      refine store_step (c' := (bs.take (i + 1)).map V.bool ++ List.replicate (bs.length - (i + 1)) (.bool false)) F.wf oo rfl rfl ?_ ?_
      · show updO _ i [.bool (bs.getD i false)] = _
        rw [updO_set1 _ _ _ (by simp; omega), set_mid bs i _ ei]
      rintro h2 o2 F2 n2
      simp (disch := omega) only [evs, ↓reduceIte, Nat.reduceEqDiff, Nat.reduceAdd, Nat.reduceMul, Nat.reduceLeDiff, Nat.reduceLT, Int.reduceNeg, DF, eff, Nat.reduceSub, fwrap_i64, g12, g11, g3, g0]
      refine (roundQ_norm _ _ _).2 ⟨bs.length - (i + 1), by omega, i + 1, (by simp [T.get_set]), (by simp [T.get_set, g11]), (by simp [T.get_set, g3]), (by simp [T.get_set, g0]), by omega, F.fresh F2 w (Nat.le_refl _), o2, rfl⟩
      done
    · simp (disch := omega) only [evs, ↓reduceIte, Nat.reduceEqDiff, Nat.reduceAdd, Nat.reduceMul, Nat.reduceLeDiff, Nat.reduceLT, Int.reduceNeg, DF, eff, Nat.reduceSub, fwrap_i64, g12, g11, g3, g0, hlt]
      have : i = bs.length := by omega
      subst this
      simp only [List.take_length, Nat.sub_self, List.replicate_zero, List.append_nil] at oo
      exact ⟨Sl.lit oo (by simp), ⟨_, rfl⟩, F⟩
theorem rep_set (B : List Bool) (k : Nat) (x : Bool) (h : B[k]? = some x) : (B.take k ++ List.replicate (B.length - k) false).set k x = B.take (k + 1) ++ List.replicate (B.length - (k + 1)) false := by
  have hi : k < B.length := by
    rcases Nat.lt_or_ge k B.length with y | y
    · exact y
    · rw [List.getElem?_eq_none y] at h; cases h
  have hl : (B.take k).length = k := by simp; omega
  rw [List.set_append, if_neg (by omega), hl, Nat.sub_self, show B.length - k = (B.length - (k + 1)) + 1 by omega, List.replicate_succ, List.set_cons_zero, List.take_add_one, h]
  simp
theorem Fl.falses {h : Heap} {b N : Nat} (o : Own h b (flc N 0 (List.replicate 64 0))) (hN : N ≤ 4096) : Fl h b (List.replicate N false) := by
  refine ⟨List.replicate 64 0, by simpa [List.count_replicate] using o, ⟨by simp, fun k hk => ⟨0, by rw [List.getElem?_replicate, if_pos hk], by omega, fun j _ => ?_⟩⟩, by simpa using hN⟩
  simp only [Nat.zero_testBit, List.getD_eq_getElem?_getD, List.getElem?_replicate]
  split <;> rfl
theorem Bools.noint {h : Heap} {v : V} {bs : List Bool} (a : Bools h v bs) : ∀ k n, v ≠ .int k n := by
  rintro k n rfl
  exact a.2
theorem become_ok {h : Heap} {b : Nat} {bs0 : List Bool} {vl : V} {Ls : List (V × List Bool)} (w : WF h) (f : Fl h b bs0) (a : Vals Prod.fst h vl Ls) (al : ∀ p ∈ Ls, Bools h p.1 p.2) (hN : (Ls.flatMap Prod.snd).length ≤ 4096) (hl : Ls.length ≤ 100) :
    Does go 86 [.ptr b 0, vl] h fun u h' => u = .tup [] ∧ Fl h' b (Ls.flatMap Prod.snd) ∧ Fr [b] h h' := by
  obtain ⟨ws, o, ok, hn⟩ := f
  obtain ⟨B, hB⟩ : ∃ B, B = Ls.flatMap Prod.snd := ⟨_, rfl⟩
  rw [← hB] at hN ⊢
  have stay : ∀ {hh : Heap} {n' m' : Int} {ws' : List Nat}, Fr [b] h hh → Own hh b (flc n' m' ws') → ws'.length = 64 → Vals Prod.fst hh vl Ls ∧ ∀ p ∈ Ls, Bools hh p.1 p.2 := by
    intro hh n' m' ws' F o' hl'
    refine ⟨Sl.frb a F o o' (by rw [flc_len, flc_len, hl', ok.len]) fun hne => ?_, fun p hp => Bools.frb (al p hp) F o o' (by rw [hl', ok.len])⟩
    cases Ls with
    | nil => simp at hne
    | cons p Ls =>
      refine ⟨p.1, by simp, ?_⟩
      have := (al p (by simp)).noint
      simp only [flc, List.mem_cons, List.mem_map, not_or, not_exists, not_and]
      exact ⟨this _ _, this _ _, fun x _ hx => this _ _ hx.symm⟩
  have stayF : ∀ {hh : Heap} {bs : List Bool}, Fr [b] h hh → Fl hh b bs → Vals Prod.fst hh vl Ls ∧ ∀ p ∈ Ls, Bools hh p.1 p.2 := fun F ⟨_, o', ok', _⟩ => stay F o' ok'.len
  refine does_fn g86 rfl ?_
  simp (disch := omega) only [fn86, evs, ↓reduceIte, Nat.reduceEqDiff, Nat.reduceAdd, Nat.reduceMul, Nat.reduceLeDiff, Nat.reduceLT, Int.reduceNeg, DF, eff, Nat.reduceSub, fwrap_i64]
  refine store_step (c' := flc 0 0 (List.replicate 64 0)) w o rfl rfl ?_ ?_
  · rw [updO_at _ _ _ (by rw [flc_len, ok.len]; simp [V.cells])]
    simp only [List.take_zero, List.nil_append, V.cells]
    rw [List.drop_of_length_le (by rw [flc_len, ok.len]; simp)]
    rfl
  rintro h1 o1 F1 n1
  obtain ⟨a1, al1⟩ := stay F1 o1 (by simp)
  simp (disch := omega) only [evs, ↓reduceIte, Nat.reduceEqDiff, Nat.reduceAdd, Nat.reduceMul, Nat.reduceLeDiff, Nat.reduceLT, Int.reduceNeg, DF, eff, Nat.reduceSub, fwrap_i64, a1.len]
  refine W_loop (fun k env hh => ∃ i : Nat, env.get 16 = some (.int .i64 i) ∧ env.get 15 = some (.int .i64 Ls.length) ∧ env.get 14 = some vl ∧ env.get 0 = some (.ptr b 0) ∧ env.get 1 = some vl ∧ i ≤ Ls.length ∧ Fr [b] h hh ∧
    Own hh b (flc ((Ls.take i).flatMap Prod.snd).length 0 (List.replicate 64 0)) ∧ k = Ls.length - i) Ls.length (by omega) ?_ ?_
  · exact ⟨0, (by simp [T.get_set]), (by simp [T.get_set]), (by simp [T.get_set]), (by simp [T.get_set]), (by simp [T.get_set]), by omega, F1, by simpa using o1, rfl⟩
  rintro k env hh ⟨i, g16, g15, g14, g0, g1, hi, F, oo, rfl⟩
  obtain ⟨a2, al2⟩ := stay F oo (by simp)
  by_cases hlt : (i : Int) < Ls.length
  · obtain ⟨bb, po, p, e1, e2, e3⟩ := a2.ix .i64 i (by omega) hlt
    simp only [Int.toNat_natCast] at e3
    have lp := al2 p (List.mem_of_getElem? e3)
    have tk : (Ls.take (i + 1)).flatMap Prod.snd = (Ls.take i).flatMap Prod.snd ++ p.2 := by rw [List.take_add_one, e3]; simp
    have hle : ((Ls.take (i + 1)).flatMap Prod.snd).length ≤ B.length := by
      rw [hB]
      conv => rhs; rw [← List.take_append_drop (i + 1) Ls]
      rw [List.flatMap_append, List.length_append]; omega
    rw [tk, List.length_append] at hle
    simp (disch := omega) only [evs, ↓reduceIte, Nat.reduceEqDiff, Nat.reduceAdd, Nat.reduceMul, Nat.reduceLeDiff, Nat.reduceLT, Int.reduceNeg, DF, eff, Nat.reduceSub, fwrap_i64, g16, g15, g14, g0, g1, hlt, e1, e2, oo.ld1, flc, lp.len]
    refine store_step (c' := flc ((Ls.take (i + 1)).flatMap Prod.snd).length 0 (List.replicate 64 0)) F.wf oo rfl rfl ?_ ?_
    · rw [tk, List.length_append, Int.natCast_add]
      exact flc_upd0 _ _ _ _
    rintro h2 o2 F2 n2
    simp (disch := omega) only [evs, ↓reduceIte, Nat.reduceEqDiff, Nat.reduceAdd, Nat.reduceMul, Nat.reduceLeDiff, Nat.reduceLT, Int.reduceNeg, DF, eff, Nat.reduceSub, fwrap_i64, g16, g15, g14, g0, g1]
    refine (roundQ_norm _ _ _).2 ⟨Ls.length - (i + 1), by omega, i + 1, (by simp [T.get_set]), (by simp [T.get_set, g15]), (by simp [T.get_set, g14]), (by simp [T.get_set, g0]), (by simp [T.get_set, g1]), by omega, F.trans F2 w (fun x hx => .inl hx) (fun x hx => .inl hx), o2, rfl⟩
    done
  · have : i = Ls.length := by omega
    subst this
    rw [List.take_length, ← hB] at oo
    have fl0 := Fl.falses oo hN
    simp (disch := omega) only [evs, ↓reduceIte, Nat.reduceEqDiff, Nat.reduceAdd, Nat.reduceMul, Nat.reduceLeDiff, Nat.reduceLT, Int.reduceNeg, DF, eff, Nat.reduceSub, fwrap_i64, g16, g15, g14, g0, g1, hlt, a2.len]
    refine W_loop (fun k env hh => ∃ j : Nat, env.get 32 = some (.int .i64 j) ∧ env.get 31 = some (.int .i64 Ls.length) ∧ env.get 30 = some vl ∧ env.get 0 = some (.ptr b 0) ∧
      env.get 6 = some (.int .i64 ((Ls.take j).flatMap Prod.snd).length) ∧ j ≤ Ls.length ∧ Fr [b] h hh ∧ Fl hh b (B.take ((Ls.take j).flatMap Prod.snd).length ++ List.replicate (B.length - ((Ls.take j).flatMap Prod.snd).length) false) ∧ k = Ls.length - j) Ls.length (by omega) ?_ ?_
    · exact ⟨0, (by simp [T.get_set]), (by simp [T.get_set]), (by simp [T.get_set]), (by simp [T.get_set, g0]), (by simp [T.get_set]), by omega, F, by simpa using fl0, rfl⟩
    rintro k env hh ⟨j, g32, g31, g30, g0, g6, hj, F, fj, rfl⟩
    obtain ⟨a3, al3⟩ := stayF F fj
    by_cases hlt : (j : Int) < Ls.length
    · obtain ⟨bb, po, p, e1, e2, e3⟩ := a3.ix .i64 j (by omega) hlt
      simp only [Int.toNat_natCast] at e3
      have lp := al3 p (List.mem_of_getElem? e3)
      obtain ⟨K, hK⟩ : ∃ K, K = ((Ls.take j).flatMap Prod.snd).length := ⟨_, rfl⟩
      rw [← hK] at g6 fj
      have tk : ((Ls.take (j + 1)).flatMap Prod.snd).length = K + p.2.length := by rw [List.take_add_one, e3, hK]; simp
      have eB : B = (Ls.take j).flatMap Prod.snd ++ (p.2 ++ (Ls.drop (j + 1)).flatMap Prod.snd) := by
        rw [hB]
        conv => lhs; rw [← List.take_append_drop j Ls, drop_cons e3]
        rw [List.flatMap_append, List.flatMap_cons]
      have lB : K + p.2.length ≤ B.length := by rw [eB, List.length_append, List.length_append]; omega
      have nB : ∀ q, q < p.2.length → B[K + q]? = p.2[q]? := fun q hq => by
        rw [eB, List.getElem?_append_right (by omega), List.getElem?_append_left (by omega)]; congr 1; omega
      simp (disch := omega) only [evs, ↓reduceIte, Nat.reduceEqDiff, Nat.reduceAdd, Nat.reduceMul, Nat.reduceLeDiff, Nat.reduceLT, Int.reduceNeg, DF, eff, Nat.reduceSub, fwrap_i64, g32, g31, g30, g0, g6, hlt, e1, e2, lp.len]
      refine W_loop (fun k env' hh => (∀ s, s = 32 ∨ s = 31 ∨ s = 30 ∨ s = 0 → env'.get s = env.get s) ∧ ∃ q : Nat, env'.get 38 = some (.int .i64 q) ∧ env'.get 37 = some (.int .i64 p.2.length) ∧ env'.get 36 = some p.1 ∧ env'.get 6 = some (.int .i64 ((K + q : Nat) : Int)) ∧ q ≤ p.2.length ∧ Fr [b] h hh ∧
        Fl hh b (B.take (K + q) ++ List.replicate (B.length - (K + q)) false) ∧ k = p.2.length - q) p.2.length (by omega) ?_ ?_
      · exact ⟨fun s hs => by rcases hs with rfl | rfl | rfl | rfl <;> simp [T.get_set], 0, (by simp [T.get_set]), (by simp [T.get_set]), (by simp [T.get_set]), (by simp [T.get_set, g6]), by omega, F, by simpa using fj, rfl⟩
      rintro k env1 hh ⟨same, q, g38, g37, g36, g6', hq, F, fq, rfl⟩
      have n32 := (same 32 (by simp)).trans g32
      have n31 := (same 31 (by simp)).trans g31
      have n30 := (same 30 (by simp)).trans g30
      have n0 := (same 0 (by simp)).trans g0
      obtain ⟨a4, al4⟩ := stayF F fq
      have lp4 := al4 p (List.mem_of_getElem? e3)
      by_cases hlt2 : (q : Int) < p.2.length
      · obtain ⟨b5, p5, x, d1, d2, d3⟩ := lp4.ix .i64 q (by omega) hlt2
        simp only [Int.toNat_natCast] at d3
        simp (disch := omega) only [evs, ↓reduceIte, Nat.reduceEqDiff, Nat.reduceAdd, Nat.reduceMul, Nat.reduceLeDiff, Nat.reduceLT, Int.reduceNeg, DF, eff, Nat.reduceSub, fwrap_i64, n32, n31, n30, n0, g38, g37, g36, g6', hlt2, d1, d2]
        refine OQ_does (fput_ok F.wf fq (by simp; omega)) ?_
        rintro _ h5 ⟨rfl, f5, F5, n5⟩
        rw [rep_set B (K + q) x ((nB q (by omega)).trans d3)] at f5
        simp (disch := omega) only [evs, ↓reduceIte, Nat.reduceEqDiff, Nat.reduceAdd, Nat.reduceMul, Nat.reduceLeDiff, Nat.reduceLT, Int.reduceNeg, DF, eff, Nat.reduceSub, fwrap_i64, n32, n31, n30, n0, g38, g37, g36, g6']
        refine (roundQ_norm _ _ _).2 ⟨p.2.length - (q + 1), by omega, fun s hs => by rcases hs with rfl | rfl | rfl | rfl <;> simp [T.get_set, n32, n31, n30, n0, g32, g31, g30, g0], q + 1, (by simp [T.get_set]), (by simp [T.get_set, g37]), (by simp [T.get_set, g36]), (by simp [T.get_set]; omega), by omega, F.trans F5 w (fun x hx => .inl hx) (fun x hx => .inl hx), f5, rfl⟩
        done
      · have : q = p.2.length := by omega
        subst this
        simp (disch := omega) only [evs, ↓reduceIte, Nat.reduceEqDiff, Nat.reduceAdd, Nat.reduceMul, Nat.reduceLeDiff, Nat.reduceLT, Int.reduceNeg, DF, eff, Nat.reduceSub, fwrap_i64, n32, n31, n30, n0, g38, g37, g36, g6', hlt2]
        refine (roundQ_norm _ _ _).2 ⟨Ls.length - (j + 1), by omega, j + 1, (by simp [T.get_set]), (by simp [T.get_set, n31]), (by simp [T.get_set, n30]), (by simp [T.get_set, n0]), (by simp [T.get_set, g6', tk]), by omega, F, by rw [tk]; exact fq, rfl⟩
        done
    · have : j = Ls.length := by omega
      subst this
      rw [List.take_length, ← hB] at fj
      simp only [List.take_length, Nat.sub_self, List.replicate_zero, List.append_nil] at fj
      simp (disch := omega) only [evs, ↓reduceIte, Nat.reduceEqDiff, Nat.reduceAdd, Nat.reduceMul, Nat.reduceLeDiff, Nat.reduceLT, Int.reduceNeg, DF, eff, Nat.reduceSub, fwrap_i64, g32, g31, g30, g0, g6, hlt]
      exact ⟨fj, F⟩
end Go.Ev.Lay

/- Flags: Insert, Rank, Select. -/
namespace Go.Ev.Lay
set_option maxRecDepth 4000
theorem rep_set' (n i : Nat) (v : Bool) (hi : i < n) : ((List.replicate i v).map V.bool ++ List.replicate (n - i) (V.bool false)).set i (V.bool v) = (List.replicate (i + 1) v).map V.bool ++ List.replicate (n - (i + 1)) (V.bool false) := by
  have hl : ((List.replicate i v).map V.bool).length = i := by simp
  rw [List.set_append, if_neg (by omega), hl, Nat.sub_self, show n - i = (n - (i + 1)) + 1 by omega, List.replicate_succ, List.set_cons_zero, List.replicate_succ']
  simp
theorem Vals.one {α : Type} {f : α → V} {h : Heap} {v : V} {l : List α} (a : Vals f h v l) : v.one = true := Sl.one a
theorem fIns_ok {h : Heap} {b : Nat} {bs : List Bool} {a n : Nat} {v : Bool} (w : WF h) (f : Fl h b bs) (ha : a ≤ bs.length) (hn : n + bs.length ≤ 4096) :
    Does go 50 [.ptr b 0, .int .i64 (a : Int), .int .i64 (n : Int), .bool v] h fun u h' => u = .int .i64 0 ∧ Fl h' b (bs.take a ++ List.replicate n v ++ bs.drop a) ∧ Fr [b] h h' := by
  have f0 := f
  obtain ⟨ws, o, ok, hn0⟩ := f
  have q : hload1 h b 0 = some (.int .i64 (bs.length : Int)) := o.ld1 0
  refine does_fn g50 rfl ?_
  simp (disch := omega) only [fn50, evs, ↓reduceIte, Nat.reduceEqDiff, Nat.reduceAdd, Nat.reduceMul, Nat.reduceLeDiff, Nat.reduceLT, Int.reduceNeg, DF, eff, Nat.reduceSub, fwrap_i64]
  refine OQ_does (fcheck_ok f0 (by omega) (by omega)) ?_
  rintro _ _ ⟨rfl, hh⟩
  replace hh := hh.symm
  subst hh
  have e : fchk bs.length a 0 = 0 := by unfold fchk; rw [if_neg (by omega)]
  rw [e]
  simp (disch := omega) only [evs, ↓reduceIte, Nat.reduceEqDiff, Nat.reduceAdd, Nat.reduceMul, Nat.reduceLeDiff, Nat.reduceLT, Int.reduceNeg, DF, eff, Nat.reduceSub, fwrap_i64, show ¬ (n : Int) < 0 by omega, q, show ¬ 4096 - (bs.length : Int) < n by omega]
  refine (amake_ok _ _ _ _ _ _ _ _ (by omega) (by omega) (by omega) (by omega)).2 ?_
  simp only [Int.toNat_natCast]
  rw [repL_one]
  obtain ⟨h0, e0⟩ : ∃ h0, h0 = h := ⟨h, rfl⟩
  subst e0
  obtain ⟨h1, e_h1⟩ : ∃ h1, h1 = halloc h0 (List.replicate n (V.bool false)) := ⟨_, rfl⟩
  have F_h1 : Fr [] h0 h1 := e_h1 ▸ Fr.halloc w _
  have o_h1 : Own h1 h0.next (List.replicate n (V.bool false)) := e_h1 ▸ Own.new w _
  rw [← e_h1]
  simp (disch := omega) only [evs, ↓reduceIte, Nat.reduceEqDiff, Nat.reduceAdd, Nat.reduceMul, Nat.reduceLeDiff, Nat.reduceLT, Int.reduceNeg, DF, eff, Nat.reduceSub, fwrap_i64]
  refine W_loop (fun k env hh => ∃ i : Nat, env.get 34 = some (.int .i64 i) ∧ env.get 33 = some (.int .i64 n) ∧ env.get 10 = some (.slice h0.next 0 n n) ∧ env.get 0 = some (.ptr b 0) ∧ env.get 1 = some (.int .i64 a) ∧ env.get 3 = some (.bool v) ∧ i ≤ n ∧ Fr [] h0 hh ∧
    Own hh h0.next ((List.replicate i v).map V.bool ++ List.replicate (n - i) (V.bool false)) ∧ k = n - i) n (by omega) ?_ ?_
  · exact ⟨0, (by simp [T.get_set]), (by simp [T.get_set]), (by simp [T.get_set]), (by simp [T.get_set]), (by simp [T.get_set]), (by simp [T.get_set]), by omega, F_h1, by simpa using o_h1, rfl⟩
  · rintro k env hh ⟨i, g34, g33, g10, g0, g1, g3, hi, F, oo, rfl⟩
    by_cases hlt : (i : Int) < n
    · have ix := aP_ixS 1 h0.next 0 n n .i64 i (by omega) hlt
      simp only [Int.toNat_natCast, Nat.mul_one, Nat.zero_add] at ix
      simp (disch := omega) only [evs, ↓reduceIte, Nat.reduceEqDiff, Nat.reduceAdd, Nat.reduceMul, Nat.reduceLeDiff, Nat.reduceLT, Int.reduceNeg, DF, eff, Nat.reduceSub, fwrap_i64, g34, g33, g10, g0, g1, g3, hlt, ix]
      refine store_step (c' := (List.replicate (i + 1) v).map V.bool ++ List.replicate (n - (i + 1)) (V.bool false)) F.wf oo rfl rfl ?_ ?_
      · show updO _ i [.bool v] = _
        rw [updO_set1 _ _ _ (by simp; omega), rep_set' _ _ _ (by omega)]
      rintro h2 o2 F2 n2
      simp (disch := omega) only [evs, ↓reduceIte, Nat.reduceEqDiff, Nat.reduceAdd, Nat.reduceMul, Nat.reduceLeDiff, Nat.reduceLT, Int.reduceNeg, DF, eff, Nat.reduceSub, fwrap_i64, g34, g33, g10, g0, g1, g3]
      refine (roundQ_norm _ _ _).2 ⟨n - (i + 1), by omega, i + 1, (by simp [T.get_set]), (by simp [T.get_set, g33]), (by simp [T.get_set, g10]), (by simp [T.get_set, g0]), (by simp [T.get_set, g1]), (by simp [T.get_set, g3]), by omega, F.fresh F2 w (Nat.le_refl _), o2, rfl⟩
      done
    · have : i = n := by omega
      subst this
      simp only [Nat.sub_self, List.replicate_zero, List.append_nil] at oo
      have bm : Bools hh (.slice h0.next 0 i i) (List.replicate i v) := by
        have := Sl.lit (esz := 1) (n := i) oo (by simp)
        show Sl hh 1 _ _ _; simpa using this
      simp (disch := omega) only [evs, ↓reduceIte, Nat.reduceEqDiff, Nat.reduceAdd, Nat.reduceMul, Nat.reduceLeDiff, Nat.reduceLT, Int.reduceNeg, DF, eff, Nat.reduceSub, fwrap_i64, g34, g33, g10, g0, g1, g3, hlt]
      refine OQ_does (flist_ok F.wf (f0.fr F)) ?_
      rintro _ h2 ⟨bl, ⟨c, rfl⟩, F2⟩
      obtain ⟨v1, s1, b1⟩ := bl.upto (by simp) .i64 a (by omega) (by omega)
      obtain ⟨v3, s3, b3⟩ := bl.from' (by simp) .i64 a (by omega) (by omega)
      simp only [Int.toNat_natCast] at b1 b3
      have c1 := cells_one (Vals.one b1)
      have c3 := cells_one (Vals.one b3)
      obtain ⟨h3, e_h3⟩ : ∃ h3, h3 = halloc h2 [v1, .slice h0.next 0 i i, v3] := ⟨_, rfl⟩
      have F_h3 : Fr [] h2 h3 := e_h3 ▸ Fr.halloc F2.wf _
      have o_h3 : Own h3 h2.next [v1, .slice h0.next 0 i i, v3] := e_h3 ▸ Own.new F2.wf _
      have e3 : halloc h2 [v1, .slice h0.next 0 i i, v3] = h3 := e_h3.symm
      simp (disch := omega) only [evs, ↓reduceIte, Nat.reduceEqDiff, Nat.reduceAdd, Nat.reduceMul, Nat.reduceLeDiff, Nat.reduceLT, Int.reduceNeg, DF, eff, Nat.reduceSub, fwrap_i64, g34, g33, g10, g0, g1, g3, s1, s3, c1, c3, List.length_cons, List.length_nil, Nat.zero_add, e3]
      have F03 := (F.then F2).then F_h3
      refine OQ_does (become_ok (Ls := [(v1, bs.take a), (.slice h0.next 0 i i, List.replicate i v), (v3, bs.drop a)]) F_h3.wf (f0.fr F03) (Sl.lit (n := 3) o_h3 rfl) ?_ ?_ (by simp)) ?_
      · intro p hp
        simp only [List.mem_cons, List.not_mem_nil, or_false] at hp
        rcases hp with rfl | rfl | rfl
        · exact b1.fr F_h3
        · exact bm.fr (F2.then F_h3)
        · exact b3.fr F_h3
      · simp; omega
      rintro _ h4 ⟨rfl, f4, F4⟩
      simp (disch := omega) only [evs, ↓reduceIte, Nat.reduceEqDiff, Nat.reduceAdd, Nat.reduceMul, Nat.reduceLeDiff, Nat.reduceLT, Int.reduceNeg, DF, eff, Nat.reduceSub, fwrap_i64]
      refine ⟨by simpa [List.flatMap_cons] using f4, F03.trans F4 w (by simp) (fun x hx => .inl hx)⟩
end Go.Ev.Lay

/- Flags: Rank, Select. -/
namespace Go.Ev.Lay
set_option maxRecDepth 4000
theorem shlN (k : IntKind) (x n : Nat) (hn : n ≤ 64) : aP (.sh true) [.int .u64 (x : Int), .int k (n : Int)] = some (.int .u64 ((x * 2 ^ n % 18446744073709551616 : Nat) : Int)) := by
  rw [aP_shl _ _ _ _ (by omega)]
  simp only [Int.toNat_natCast, IntKind.bits, Nat.min_eq_left hn]
  rw [fwrap_eq, ← Int.natCast_mul]
  simp only [IntKind.wrap, IntKind.bits, IntKind.signed]
  simp
theorem flc_words {h : Heap} {b : Nat} {n m : Int} {ws : List Nat} (o : Own h b (flc n m ws)) (hl : ws.length = 64) (k : Nat) (hk : k ≤ 64) : Vals uw h (.slice b 2 k 64) (ws.take k) := by
  have e : (ws.take k).length = k := by simp; omega
  refine ⟨by simp, ?_⟩
  rw [e]
  exact ⟨rfl, hk, _, o, by rw [flc_len, hl]; omega, by simp [flc]⟩
theorem Rank_ok {h : Heap} {b : Nat} {bs : List Bool} {i : Nat} (f : Fl h b bs) (hi : i ≤ bs.length) : Does go 54 [.ptr b 0, .int .i64 (i : Int)] h fun u h' => u = .tup [.int .i64 ((bs.take i).count true : Nat), .int .i64 0] ∧ h' = h := by
  have f0 := f
  obtain ⟨ws, o, ok, hn⟩ := f
  have q1 := (quo64 i).resolve_right (by omega)
  have q2 := rem64 i
  have cle : ∀ n, (bs.take n).count true ≤ 4096 := fun n => Nat.le_trans List.count_le_length (by simp; omega)
  have sl : aP (.sl (some 64) 1 false true false) [.ptr b 2, .int .i64 ((i / 64 : Nat) : Int)] = some (.slice b 2 (i / 64) 64) := by
    have hb := abound_ok .i64 ((i / 64 : Nat) : Int) 64 (by omega) (by omega)
    simp only [Int.toNat_natCast] at hb
    simp only [aP, aslarr, abounds, hb, Option.map_some, Option.getD_none, beq_ff (show (64 : Nat) ≠ 0 by omega), cond_false, Nat.zero_mul, Nat.add_zero, Nat.sub_zero]
  refine does_fn g54 rfl ?_
  simp (disch := omega) only [fn54, evs, ↓reduceIte, Nat.reduceEqDiff, Nat.reduceAdd, Nat.reduceMul, Nat.reduceLeDiff, Nat.reduceLT, Int.reduceNeg, DF, eff, Nat.reduceSub, fwrap_i64]
  refine OQ_does (fcheck_ok f0 (by omega) (by omega)) ?_
  rintro _ _ ⟨rfl, hh⟩
  replace hh := hh.symm
  subst hh
  have e : fchk bs.length i 0 = 0 := by unfold fchk; rw [if_neg (by omega)]
  rw [e]
  have vw := flc_words o ok.len (i / 64) (by omega)
  have el : ((ws.take (i / 64)).length : Int) = ((i / 64 : Nat) : Int) := by simp [ok.len]; omega
  simp (disch := omega) only [evs, ↓reduceIte, Nat.reduceEqDiff, Nat.reduceAdd, Nat.reduceMul, Nat.reduceLeDiff, Nat.reduceLT, Int.reduceNeg, DF, eff, Nat.reduceSub, fwrap_i64, q1, sl]
  refine W_loop (fun k env hh => h = hh ∧ ∃ j : Nat, env.get 24 = some (.int .i64 j) ∧ env.get 23 = some (.int .i64 ((i / 64 : Nat) : Int)) ∧ env.get 22 = some (.slice b 2 (i / 64) 64) ∧ env.get 0 = some (.ptr b 0) ∧ env.get 1 = some (.int .i64 i) ∧
    env.get 7 = some (.int .i64 ((bs.take (64 * j)).count true : Nat)) ∧ j ≤ i / 64 ∧ k = i / 64 - j) (i / 64) (by omega) ?_ ?_
  · exact ⟨rfl, 0, (by simp [T.get_set]), (by simp [T.get_set]), (by simp [T.get_set]), (by simp [T.get_set]), (by simp [T.get_set]), (by simp [T.get_set]), by omega, rfl⟩
  rintro k env hh ⟨rfl, j, g24, g23, g22, g0, g1, g7, hj, rfl⟩
  by_cases hlt : (j : Int) < ((i / 64 : Nat) : Int)
  · obtain ⟨b', o', x, e1, e2, e3⟩ := vw.ix .i64 j (by omega) (by omega)
    simp only [Int.toNat_natCast] at e3
    rw [List.getElem?_take, if_pos (by omega)] at e3
    obtain ⟨y, d1, d2, d3⟩ := ok.w j (by omega)
    rw [e3] at d1; cases d1
    have e2' : hload1 h b' o' = some (.int .u64 (x : Int)) := e2
    have hp := pop_bits (n := 64) (by omega) d3
    have hs : (bs.take (64 * (j + 1))).count true = (bs.take (64 * j)).count true + pop 64 x := by
      rw [hp, ← List.count_append, show 64 * (j + 1) = 64 * j + 64 by omega, List.take_add]
    have c1 := cle (64 * (j + 1))
    have eq1 := eq_true hlt
    simp (disch := omega) only [evs, ↓reduceIte, Nat.reduceEqDiff, Nat.reduceAdd, Nat.reduceMul, Nat.reduceLeDiff, Nat.reduceLT, Int.reduceNeg, DF, eff, Nat.reduceSub, g24, g23, g22, g0, g1, g7, eq1, e1, e2']
    refine OQ_does (Ones_ok d2) ?_
    rintro _ _ ⟨rfl, hh⟩
    replace hh := hh.symm
    subst hh
    simp (disch := omega) only [evs, ↓reduceIte, Nat.reduceEqDiff, Nat.reduceAdd, Nat.reduceMul, Nat.reduceLeDiff, Nat.reduceLT, Int.reduceNeg, DF, eff, Nat.reduceSub, fwrap_i64, g24, g23, g22, g0, g1, g7]
    refine (roundQ_norm _ _ _).2 ⟨i / 64 - (j + 1), by omega, rfl, j + 1, (by simp [T.get_set]), (by simp [T.get_set, g23]), (by simp [T.get_set, g22]), (by simp [T.get_set, g0]), (by simp [T.get_set, g1]), (by simp [T.get_set, hs]), by omega, rfl⟩
    done
  · have : j = i / 64 := by omega
    subst this
    obtain ⟨x, d1, d2, d3⟩ | hq : (∃ x, ws[i / 64]? = some x ∧ x < 18446744073709551616 ∧ ∀ j, j < 64 → x.testBit j = bs.getD (64 * (i / 64) + j) false) ∨ i / 64 = 64 := by
      by_cases hh : i / 64 < 64
      · exact .inl (ok.w _ hh)
      · right; omega
    · by_cases hr : (0 : Int) < ((i % 64 : Nat) : Int)
      · have q3 := aP_ixa 1 b 2 64 .i64 ((i / 64 : Nat) : Int) (by omega) (by have := (List.getElem?_eq_some_iff.1 d1).1; rw [ok.len] at this; omega)
        simp only [Int.toNat_natCast, Nat.mul_one] at q3
        have q4 : hload1 h b (2 + i / 64) = some (.int .u64 (x : Int)) := by rw [o.ld1, flc_nth, d1]; rfl
        have q5 : aP (.ib .sub) [.int .i64 64, .int .i64 ((i % 64 : Nat) : Int)] = some (.int .i64 ((64 - i % 64 : Nat) : Int)) := by
          rw [aP_sub, fwrap_i64 _ (by omega) (by omega)]; congr 2; omega
        have q6 := shlN .i64 x (64 - i % 64) (by omega)
        have hp := pop_shl (x := x) (r := i % 64) (by omega)
        have hb := pop_bits (n := i % 64) (by omega) d3
        have hs : (bs.take i).count true = (bs.take (64 * (i / 64))).count true + pop (i % 64) x := by
          rw [hb, ← List.count_append, ← List.take_add]; congr 2; omega
        have c1 := cle i
        simp (disch := omega) only [evs, ↓reduceIte, Nat.reduceEqDiff, Nat.reduceAdd, Nat.reduceMul, Nat.reduceLeDiff, Nat.reduceLT, Int.reduceNeg, DF, eff, Nat.reduceSub, g24, g23, g22, g0, g1, g7, hlt, q1, q2, hr, q3, q4, q5, q6]
        refine OQ_does (Ones_ok (Nat.mod_lt _ (by omega))) ?_
        rintro _ _ ⟨rfl, hh⟩
        replace hh := hh.symm
        subst hh
        rw [hp]
        simp (disch := omega) only [evs, ↓reduceIte, Nat.reduceEqDiff, Nat.reduceAdd, Nat.reduceMul, Nat.reduceLeDiff, Nat.reduceLT, Int.reduceNeg, DF, eff, Nat.reduceSub, fwrap_i64, g24, g23, g22, g0, g1, g7]
        rw [hs]; simp
      · have hr0 : i % 64 = 0 := by omega
        simp (disch := omega) only [evs, ↓reduceIte, Nat.reduceEqDiff, Nat.reduceAdd, Nat.reduceMul, Nat.reduceLeDiff, Nat.reduceLT, Int.reduceNeg, DF, eff, Nat.reduceSub, fwrap_i64, g24, g23, g22, g0, g1, g7, hlt, q1, q2, hr]
        rw [show 64 * (i / 64) = i by omega]
    · have hr0 : ¬ (0 : Int) < ((i % 64 : Nat) : Int) := by omega
      simp (disch := omega) only [evs, ↓reduceIte, Nat.reduceEqDiff, Nat.reduceAdd, Nat.reduceMul, Nat.reduceLeDiff, Nat.reduceLT, Int.reduceNeg, DF, eff, Nat.reduceSub, fwrap_i64, g24, g23, g22, g0, g1, g7, hlt, q1, q2, hr0]
      rw [show 64 * (i / 64) = i by omega]
end Go.Ev.Lay

/- Flags: TrailingZeros64, Select. -/
namespace Go.Ev.Lay
set_option maxRecDepth 4000
/-- the table of math/bits -/
def Glb (h : Heap) : Prop := Pl h 0 tabc
theorem fwrapN (n : Nat) : fwrap .u64 (n : Int) = ((n % 18446744073709551616 : Nat) : Int) := by
  rw [fwrap_eq]
  simp only [IntKind.wrap, IntKind.bits, IntKind.signed]
  simp
theorem negN (x : Nat) (h0 : 0 < x) (hx : x < 18446744073709551616) : aP .neg [.int .u64 (x : Int)] = some (.int .u64 ((18446744073709551616 - x : Nat) : Int)) := by
  rw [aP_neg, fwrap_eq]
  simp only [IntKind.wrap, IntKind.bits, IntKind.signed]
  congr 2
  simp; omega
theorem mulN (x y : Nat) (b : Int) (hb : b = y) : aP (.ib .mul) [.int .u64 (x : Int), .int .u64 b] = some (.int .u64 ((x * y % 18446744073709551616 : Nat) : Int)) := by
  subst hb
  rw [aP_mul, ← Int.natCast_mul, fwrapN]
theorem ixa0 (I : Nat) (h : I < 64) : aP (.ixa 64 1) [.ptr 0 0, .int .u64 (I : Int)] = some (.ptr 0 I) := by
  have q5 := aP_ixa 1 0 0 64 .u64 (I : Int) (by omega) (by omega)
  simpa using q5
theorem TZ_ok {h : Heap} {x t : Nat} (g : Glb h) (lo : Low x t) (hx : x < 18446744073709551616) (ht : t < 64) : Does go 89 [.int .u64 (x : Int)] h fun u h' => u = .int .i64 (t : Int) ∧ h' = h := by
  have hx0 : x ≠ 0 := by rintro rfl; simp [Low] at lo
  have hb := bruijn t ht
  obtain ⟨M, hM⟩ : ∃ M, M = 2 ^ t * 285870213051353865 % 18446744073709551616 := ⟨_, rfl⟩
  rw [← hM] at hb
  obtain ⟨I, hI⟩ : ∃ I, I = M / 288230376151711744 := ⟨_, rfl⟩
  rw [← hI] at hb
  have q0 : ¬ (x : Int) = 0 := by omega
  have q1 := negN x (by omega) hx
  have q2 := aP_andN x (18446744073709551616 - x) _ _ rfl rfl hx (by omega)
  rw [low_neg lo hx ht] at q2
  have q3 := mulN (2 ^ t) 285870213051353865 285870213051353865 rfl
  rw [← hM] at q3
  have q4 := aP_shrN .u64 M 58 58 rfl (by omega)
  rw [show (2 : Nat) ^ 58 = 288230376151711744 from rfl, ← hI] at q4
  have q5 := ixa0 I hb.2
  have q6 : hload1 h 0 I = some (.int .u8 (t : Int)) := by rw [Own.ld1 (Pl.own g), nth_eq, tabc, List.getElem?_map, hb.1]; rfl
  have q7 : aP (.conv .i64) [.int .u8 (t : Int)] = some (.int .i64 (t : Int)) := by rw [aP_conv, fwrap_i64 _ (by omega) (by omega)]
  obtain ⟨P, hP⟩ : ∃ P, P = 2 ^ t := ⟨_, rfl⟩
  rw [← hP] at q2 q3
  obtain ⟨N, hN⟩ : ∃ N, N = 18446744073709551616 - x := ⟨_, rfl⟩
  rw [← hN] at q1 q2
  clear hb hM hI hP hN
  refine does_fn g89 rfl ?_
  simp only [fn89, W_skip, W_cond, condQ_some, W_ret, W_seq, W_ops, thenQ_norm, thenQ_ret, WS_nil, WS_l, WS_v, op_p, PQ_some, VQ_some, op_ld, LQ_some, aload_ptr1, kl_app, kv_app, evO_l, evO_v, evO_c, evO_g, evOs_nil, evOs_c, consO_some, nth_zero, nth_succ, bindA_nil, bindA_cons, T.get_set, RetQ_ret, RsQ_some, evRs_nil, evRs_t, packV_one, aP_mv, aP_eql, ↓reduceIte, Nat.reduceEqDiff, Nat.reduceAdd, Nat.zero_add, decide_false, Bool.false_eq_true, q0, q1, q2, q3, q4, q5, q6, q7]
  exact ⟨trivial, trivial⟩
theorem aP_ixarr (l : List V) (k : IntKind) (n i : Nat) (hi : i < n) : aP (.ixarr n 1 false) [.agg l, .int k (i : Int)] = nth l i := by
  have : aidx (.int k (i : Int)) n = some i := by
    show (bif Nat.blt i n then some i else none) = _
    rw [(Nat.blt_eq ..).mpr hi]; rfl
  simp only [aP, this, Option.bind_some, cond_false, Nat.mul_one]
theorem pop_mono (x : Nat) : ∀ {m n : Nat}, m ≤ n → pop m x ≤ pop n x := by
  intro m n h
  obtain ⟨k, rfl⟩ : ∃ k, n = m + k := ⟨n - m, by omega⟩
  unfold pop
  rw [List.range_add, List.countP_append]; omega
theorem pop_succ (x n : Nat) : pop (n + 1) x = pop n x + if x.testBit n then 1 else 0 := by
  unfold pop
  rw [List.range_succ, List.countP_append]
  simp [List.countP_cons]
theorem pop_gap {x c t : Nat} (h : c ≤ t) (hz : ∀ j, c ≤ j → j < t → x.testBit j = false) : pop t x = pop c x := by
  obtain ⟨k, rfl⟩ : ∃ k, t = c + k := ⟨t - c, by omega⟩
  induction k with
  | zero => rfl
  | succ k ih =>
    rw [show c + (k + 1) = (c + k) + 1 by omega, pop_succ, hz (c + k) (by omega) (by omega), ih (by omega) (fun j a b => hz j a (by omega))]
    simp
theorem bit_lt {x j : Nat} (hx : x < 18446744073709551616) (h : x.testBit j = true) : j < 64 := by
  rcases Nat.lt_or_ge j 64 with y | y
  · exact y
  · have : x < 2 ^ j := Nat.lt_of_lt_of_le hx (show 2 ^ 64 ≤ 2 ^ j from Nat.pow_le_pow_right (by omega) y)
    rw [Nat.testBit_lt_two_pow this] at h; cases h
/-- the k-th bit that is true -/
def Sel (bs : List Bool) (k p : Nat) : Prop := p < bs.length ∧ bs.getD p false = true ∧ (bs.take p).count true = k
theorem Select_ok {h : Heap} {b : Nat} {bs : List Bool} {k : Nat} (g : Glb h) (f : Fl h b bs) (hk : k < bs.count true) : Does go 56 [.ptr b 0, .int .i64 (k : Int)] h fun u h' => (∃ p, u = .tup [.int .i64 (p : Nat), .int .i64 0] ∧ Sel bs k p) ∧ h' = h := by
  obtain ⟨ws, o, ok, hn⟩ := f
  have cl : bs.count true ≤ bs.length := List.count_le_length
  have q1 : hload1 h b 1 = some (.int .i64 (bs.count true : Int)) := o.ld1 1
  have q2 : hload h b 2 64 = some (ws.map uw) := by
    rw [o.ld, dropL_eq, takeL_at _ _ (by simp [flc_len, ok.len])]
    simp [flc, ← ok.len]
    rw [List.take_of_length_le (by simp)]
  refine does_fn g56 rfl ?_
  simp (disch := omega) only [fn56, evs, ↓reduceIte, Nat.reduceEqDiff, Nat.reduceAdd, Nat.reduceMul, Nat.reduceLeDiff, Nat.reduceLT, Int.reduceNeg, DF, eff, Nat.reduceSub, fwrap_i64, show ¬ (k : Int) < 0 by omega, show ¬ (bs.count true : Int) ≤ k by omega, q1, q2]
  refine W_loop (fun m env hh => h = hh ∧ ∃ i k' : Nat, env.get 27 = some (.int .i64 i) ∧ env.get 26 = some (.agg (ws.map uw)) ∧ env.get 1 = some (.int .i64 k') ∧ i ≤ 64 ∧ (bs.take (64 * i)).count true + k' = k ∧ m = 64 - i) 64 (by omega) ?_ ?_
  · exact ⟨rfl, 0, k, (by simp [T.get_set]), (by simp [T.get_set]), (by simp [T.get_set]), by omega, by simp, rfl⟩
  rintro m env hh ⟨rfl, i, k', g27, g26, g1, hi, hs, rfl⟩
  by_cases hlt : (i : Int) < 64
  · obtain ⟨x, d1, d2, d3⟩ := ok.w i (by omega)
    have ix := aP_ixarr (ws.map uw) .i64 64 i (by omega)
    have nx : nth (ws.map uw) i = some (.int .u64 (x : Int)) := by rw [nth_eq, List.getElem?_map, d1]; rfl
    have hp := pop_bits (n := 64) (by omega) d3
    have hs2 : (bs.take (64 * (i + 1))).count true = (bs.take (64 * i)).count true + pop 64 x := by
      rw [hp, ← List.count_append, show 64 * (i + 1) = 64 * i + 64 by omega, List.take_add]
    have c1 : (bs.take (64 * (i + 1))).count true ≤ 4096 := Nat.le_trans List.count_le_length (by simp; omega)
    simp (disch := omega) only [evs, ↓reduceIte, Nat.reduceEqDiff, Nat.reduceAdd, Nat.reduceMul, Nat.reduceLeDiff, Nat.reduceLT, Int.reduceNeg, DF, eff, Nat.reduceSub, fwrap_i64, g27, g26, g1, hlt, ix, nx]
    refine OQ_does (Ones_ok d2) ?_
    rintro _ _ ⟨rfl, hh⟩
    replace hh := hh.symm
    subst hh
    by_cases hc : ((pop 64 x : Nat) : Int) ≤ k'
    · simp (disch := omega) only [evs, ↓reduceIte, Nat.reduceEqDiff, Nat.reduceAdd, Nat.reduceMul, Nat.reduceLeDiff, Nat.reduceLT, Int.reduceNeg, DF, eff, Nat.reduceSub, fwrap_i64, g27, g26, g1, hc]
      refine (roundQ_norm _ _ _).2 ⟨64 - (i + 1), by omega, rfl, i + 1, k' - pop 64 x, (by simp [T.get_set]), (by simp [T.get_set, g26]), (by simp [T.get_set]; omega), by omega, by omega, rfl⟩
      done
    · simp (disch := omega) only [evs, ↓reduceIte, Nat.reduceEqDiff, Nat.reduceAdd, Nat.reduceMul, Nat.reduceLeDiff, Nat.reduceLT, Int.reduceNeg, DF, eff, Nat.reduceSub, fwrap_i64, g27, g26, g1, hc]
      refine W_loop (fun m env' hh => h = hh ∧ env'.get 6 = some (.int .i64 i) ∧ ∃ (y c r : Nat), env'.get 7 = some (.int .u64 (y : Int)) ∧ env'.get 1 = some (.int .i64 r) ∧ y < 18446744073709551616 ∧ c ≤ 64 ∧ (∀ j, j < 64 → y.testBit j = (decide (c ≤ j) && x.testBit j)) ∧ pop c x + r = k' ∧ r = m) k' (by omega) ?_ ?_
      · exact ⟨rfl, (by simp [T.get_set]), x, 0, k', (by simp [T.get_set]), (by simp [T.get_set, g1]), d2, by omega, by simp, by simp [pop], rfl⟩
      rintro m env1 hh ⟨rfl, g6, y, c, r, g7, g1', hy, hc64, hb, hr, rfl⟩
      have ynz : y ≠ 0 := by
        rintro rfl
        have : pop 64 x = pop c x := pop_gap hc64 (fun j a b => by have := hb j b; simp [a] at this; exact this)
        omega
      obtain ⟨t, lo⟩ := low_exists ynz
      have ht : t < 64 := bit_lt hy lo.1
      have h1 := hb t ht
      rw [lo.1] at h1
      have hct : c ≤ t := by
        by_cases cc : c ≤ t
        · exact cc
        · simp [cc] at h1
      have hxt : x.testBit t = true := by simpa [hct] using h1.symm
      have hpt : pop t x = pop c x := pop_gap hct (fun j a b => by have := hb j (by omega); rw [lo.2 j b] at this; simpa [a] using this.symm)
      by_cases hr0 : (0 : Int) < r
      · have q5 : aP (.ib .sub) [.int .u64 (y : Int), .int .u64 1] = some (.int .u64 ((y - 1 : Nat) : Int)) := by
          rw [aP_sub, fwrap_u64 _ (by omega) (by omega)]; congr 2; omega
        have q6 := aP_andN y (y - 1) _ _ rfl rfl hy (by omega)
        simp (disch := omega) only [evs, ↓reduceIte, Nat.reduceEqDiff, Nat.reduceAdd, Nat.reduceMul, Nat.reduceLeDiff, Nat.reduceLT, Int.reduceNeg, DF, eff, Nat.reduceSub, fwrap_i64, g6, g7, g1', hr0, q5, q6]
        refine (roundQ_norm _ _ _).2 ⟨r - 1, by omega, rfl, (by simp [T.get_set, g6]), y &&& (y - 1), t + 1, r - 1, (by simp [T.get_set]), (by simp [T.get_set]; omega), Nat.lt_of_le_of_lt Nat.and_le_left hy, by omega, ?_, ?_, rfl⟩
        · intro j hj
          rw [low_clear lo, hb j hj]
          by_cases c1 : t + 1 ≤ j
          · have : c ≤ j := by omega
            simp [c1, this]; omega
          · by_cases c2 : j = t
            · subst c2; simp [c1]
            · have : j < t := by omega
              have := hb j hj
              rw [lo.2 j (by omega)] at this
              simp [c1]
              intro a b
              simp [a, b] at this
        · rw [pop_succ, hpt, hxt]; simp; omega
      · simp (disch := omega) only [evs, ↓reduceIte, Nat.reduceEqDiff, Nat.reduceAdd, Nat.reduceMul, Nat.reduceLeDiff, Nat.reduceLT, Int.reduceNeg, DF, eff, Nat.reduceSub, fwrap_i64, g6, g7, g1', hr0]
        refine OQ_does (TZ_ok g lo hy ht) ?_
        rintro _ _ ⟨rfl, hh⟩
        replace hh := hh.symm
        subst hh
        simp (disch := omega) only [evs, ↓reduceIte, Nat.reduceEqDiff, Nat.reduceAdd, Nat.reduceMul, Nat.reduceLeDiff, Nat.reduceLT, Int.reduceNeg, DF, eff, Nat.reduceSub, fwrap_i64, g6]
        have e3 := d3 t ht
        rw [hxt] at e3
        refine ⟨64 * i + t, ?_, ?_, e3.symm, ?_⟩
        · congr 2; congr 1; omega
        · rcases Nat.lt_or_ge (64 * i + t) bs.length with z | z
          · exact z
          · rw [List.getD_eq_getElem?_getD, List.getElem?_eq_none z] at e3; simp at e3
        · rw [List.take_add, List.count_append, ← pop_bits (n := t) (by omega) d3, hpt]; omega
  · exfalso
    have : i = 64 := by omega
    subst this
    rw [List.take_of_length_le (by omega)] at hs
    omega
end Go.Ev.Lay
