/- An evaluator of the program, and contracts over it: LayL to StG. -/
import Derived.Test.YtdbfhmneijcjbaaGreatP05
import Derived.Test.YtdbfhmneijcjbaaGreatP07
set_option linter.unusedSimpArgs false
set_option linter.unusedVariables false
set_option linter.constructorNameAsVariable false
namespace Go.Ev.Lay
set_option maxRecDepth 4000
theorem keep_or : Keep (.func (.func 271) [] []) (fun a b => a || b) := by
 refine ⟨⟨271, rfl, by decide, fun h a b => ?_⟩, rfl⟩
 cases a
 · refine does_fn g271 rfl ?_
   simp only [fn271, evs, ↓reduceIte, Nat.reduceEqDiff, Nat.reduceAdd]
   cases b <;> rfl
 · refine does_fn g271 rfl ?_
   simp only [fn271, evs, ↓reduceIte, Nat.reduceEqDiff, Nat.reduceAdd]
   rfl
theorem keep_not : Keep (.func (.func 270) [] []) (fun a b => a && !b) := by
 refine ⟨⟨270, rfl, by decide, fun h a b => ?_⟩, rfl⟩
 cases a
 · refine does_fn g270 rfl ?_
   simp only [fn270, evs, ↓reduceIte, Nat.reduceEqDiff, Nat.reduceAdd]
   rfl
 · refine does_fn g270 rfl ?_
   simp only [fn270, evs, ↓reduceIte, Nat.reduceEqDiff, Nat.reduceAdd]
   cases b <;> rfl
theorem Union_ok {h : Heap} {u v : V} {A B : List (Int × Int)} (w : WF h) (a : Sp h u A) (b : Sp h v B) (oka : SOK A (-1)) (okb : SOK B (-1)) (ha : A.length ≤ 4096) (hb : B.length ≤ 4096)
 (m : Int) (hm : m ≤ 8000) (hma : ∀ s ∈ A, s.2 ≤ m) (hmb : ∀ s ∈ B, s.2 ≤ m) :
 Does go 236 [u, v] h fun z h' => Fr [] h h' ∧ ∃ y L, z = .tup [y, .int .i64 0] ∧ y.one = true ∧ SpF h' y L ∧ SOK L (-1) ∧ (∀ x, inS L x = (inS A x || inS B x)) ∧ ∀ s ∈ L, s.2 ≤ max m 0 := by
 refine does_fn g236 rfl ?_
 simp only [fn236, evs, ↓reduceIte, Nat.reduceEqDiff, Nat.reduceAdd, Int.reduceNeg]
 refine OQ_does (merged_ok w a b oka okb ha hb keep_or m hm hma hmb) ?_
 rintro _ h1 ⟨F, y, L, rfl, r⟩
 simp only [evs, ↓reduceIte, Nat.reduceEqDiff, Int.reduceNeg]
 exact ⟨F, y, L, rfl, r⟩
theorem Without_ok {h : Heap} {u v : V} {A B : List (Int × Int)} (w : WF h) (a : Sp h u A) (b : Sp h v B) (oka : SOK A (-1)) (okb : SOK B (-1)) (ha : A.length ≤ 4096) (hb : B.length ≤ 4096)
 (m : Int) (hm : m ≤ 8000) (hma : ∀ s ∈ A, s.2 ≤ m) (hmb : ∀ s ∈ B, s.2 ≤ m) :
 Does go 235 [u, v] h fun z h' => Fr [] h h' ∧ ∃ y L, z = .tup [y, .int .i64 0] ∧ y.one = true ∧ SpF h' y L ∧ SOK L (-1) ∧ (∀ x, inS L x = (inS A x && !inS B x)) ∧ ∀ s ∈ L, s.2 ≤ max m 0 := by
 refine does_fn g235 rfl ?_
 simp only [fn235, evs, ↓reduceIte, Nat.reduceEqDiff, Nat.reduceAdd, Int.reduceNeg]
 refine OQ_does (merged_ok w a b oka okb ha hb keep_not m hm hma hmb) ?_
 rintro _ h1 ⟨F, y, L, rfl, r⟩
 simp only [evs, ↓reduceIte, Nat.reduceEqDiff, Int.reduceNeg]
 exact ⟨F, y, L, rfl, r⟩
theorem SOK.len {L : List (Int × Int)} (ok : SOK L (-1)) {m : Int} (hm : m ≤ 8000) (h : ∀ s ∈ L, s.2 ≤ m) : L.length ≤ 4096 := by
 have := ok.count (max m 0) (fun s hs => by have := h s hs; omega) (by omega)
 omega
theorem marked_ok {h : Heap} {v : V} {L : List (Int × Int)} {f t m : Int} {kn : Bool} (w : WF h) (af : SpF h v L) (ok : SOK L (-1)) (hm : m ≤ 8000) (hL : ∀ s ∈ L, s.2 ≤ m) (hf : 0 ≤ f) (hft : f ≤ t) (ht : t ≤ m) :
 Does go 182 [v, .int .i64 f, .int .i64 t, .bool kn] h fun y h' => Fr [] h h' ∧ ∃ L', y.one = true ∧ SpF h' y L' ∧ SOK L' (-1) ∧ (∀ x, inS L' x = if f ≤ x ∧ x < t then kn else inS L x) ∧ ∀ s ∈ L', s.2 ≤ m := by
 have a := af.slc
 by_cases e : f = t
 · refine does_fn g182 rfl ?_
   simp only [fn182, evs, ↓reduceIte, Nat.reduceEqDiff, Nat.reduceAdd, Int.reduceNeg, eq_true e]
   exact ⟨Fr.refl w, L, Sl.one a, af, ok, fun x => by rw [if_neg (by omega)], hL⟩
 · have hlen := ok.len hm hL
   obtain ⟨h1, e_h1⟩ : ∃ h1, h1 = halloc h (sp (f, t)) := ⟨_, rfl⟩
   have F_h1 : Fr [] h h1 := e_h1 ▸ Fr.halloc w _
   have o_h1 : Own h1 h.next (sp (f, t)) := e_h1 ▸ Own.new w _
   have e_h2 : halloc h [.int .i64 f, .int .i64 t] = h1 := e_h1.symm
   have ok1 : SOK [(f, t)] (-1) := ⟨by simp; omega, hf, by simp; omega, by simp; omega, trivial⟩
   have s1 : Sp h1 (.slice h.next 0 1 1) [(f, t)] := Sl.lit (n := 1) o_h1 rfl
   have mx : max m 0 = m := by omega
   cases kn
   · refine does_fn g182 rfl ?_
     simp only [fn182, evs, ↓reduceIte, Nat.reduceEqDiff, Nat.reduceAdd, Nat.reduceLT, Int.reduceNeg, eq_false e, e_h2]
     refine OQ_does (Without_ok F_h1.wf (a.fr F_h1) s1 ok ok1 hlen (by simp) m hm hL (by simp; exact ht)) ?_
     rintro _ h2 ⟨F2, y, L', rfl, o1, sL, okL, iL, mL⟩
     simp only [evs, ↓reduceIte, Int.reduceNeg]
     rw [mx] at mL
     refine ⟨F_h1.then F2, L', o1, sL, okL, fun x => ?_, mL⟩
     rw [iL, inS_cons, inS_nil]
     by_cases c : f ≤ x ∧ x < t
     · rw [if_pos c]; simp [c]
     · rw [if_neg c]
       have : (decide (f ≤ x) && decide (x < t)) = false := by simp; omega
       simp [this]
   · refine does_fn g182 rfl ?_
     simp only [fn182, evs, ↓reduceIte, Nat.reduceEqDiff, Nat.reduceAdd, Nat.reduceLT, Int.reduceNeg, eq_false e, e_h2]
     refine OQ_does (Union_ok F_h1.wf (a.fr F_h1) s1 ok ok1 hlen (by simp) m hm hL (by simp; exact ht)) ?_
     rintro _ h2 ⟨F2, y, L', rfl, o1, sL, okL, iL, mL⟩
     simp only [evs, ↓reduceIte, Int.reduceNeg]
     rw [mx] at mL
     refine ⟨F_h1.then F2, L', o1, sL, okL, fun x => ?_, mL⟩
     rw [iL, inS_cons, inS_nil]
     by_cases c : f ≤ x ∧ x < t
     · rw [if_pos c]; simp [c]
     · rw [if_neg c]
       have : (decide (f ≤ x) && decide (x < t)) = false := by simp; omega
       simp [this]
theorem with_ok {h : Heap} {c vk : V} {e : Int} (w : WF h) (hc : c.one = true) (hk : vk.one = true) :
 Does go 149 [.agg [c], vk, .int .i64 e] h fun z h' => Fr [] h h' ∧ z = if e = 0 then .tup [.agg [c, vk], .int .i64 0] else .tup [.agg [.nilp, .nils], .int .i64 e] := by
 obtain ⟨h1, e_h1⟩ : ∃ h1, h1 = halloc h [c] := ⟨_, rfl⟩
 have F_h1 : Fr [] h h1 := e_h1 ▸ Fr.halloc w _
 have o_h1 : Own h1 h.next [c] := e_h1 ▸ Own.new w _
 obtain ⟨h2, e_h2⟩ : ∃ h2, h2 = halloc h1 [.nilp, .nils] := ⟨_, rfl⟩
 have F_h2 : Fr [] h1 h2 := e_h2 ▸ Fr.halloc F_h1.wf _
 have o_h2 : Own h2 h1.next [.nilp, .nils] := e_h2 ▸ Own.new F_h1.wf _
 have F12 := F_h1.then F_h2
 by_cases e0 : e = 0
 · subst e0
   refine does_fn g149 rfl ?_
   simp only [fn149, evs, ↓reduceIte, Nat.reduceEqDiff, Nat.reduceAdd, ← e_h1, ← e_h2, (F_h2.get o_h1).ld, cells_one hk]
   refine store_step (c' := [c, vk]) F_h2.wf o_h2 rfl (by first | rfl | simp [onesB, V.cells, *]) rfl ?_
   rintro h3 o_h3 F_h3 n_h3
   simp only [evs, ↓reduceIte, Nat.reduceEqDiff, o_h3.ld]
   exact F12.fresh F_h3 w F_h1.next
 · refine does_fn g149 rfl ?_
   simp only [fn149, evs, ↓reduceIte, Nat.reduceEqDiff, Nat.reduceAdd, ← e_h1, ← e_h2, eq_false e0]
   refine store_step (c' := [.nilp, .nils]) F_h2.wf o_h2 rfl (by first | rfl | simp [onesB, V.cells, pv_one, *]) rfl ?_
   rintro h3 o_h3 F_h3 n_h3
   simp only [evs, ↓reduceIte, Nat.reduceEqDiff, o_h3.ld]
   exact F12.fresh F_h3 w F_h1.next
theorem ranged_ok {h : Heap} {v : V} {L : List (Int × Int)} {a n : Int} (w : WF h) (s : Sp h v L) (ok : SOK L (-1)) (hl : L.length ≤ 4096) (ha : 0 ≤ a) (ha1 : a ≤ 1073741824) (hn : 0 ≤ n) (hn1 : n ≤ 1073741824) :
 Does go 208 [v, .int .i64 a, .int .i64 n] h fun u h' => u = .int .i64 0 ∧ Fr [] h h' := by
 refine does_fn g208 rfl ?_
 simp only [fn208, evs, ↓reduceIte, Nat.reduceEqDiff, Nat.reduceAdd]
 refine OQ_does (SCheck_ok w s ok hl) ?_
 rintro _ h1 ⟨rfl, F⟩
 simp only [evs, ↓reduceIte, Nat.reduceEqDiff, show ¬ a < 0 by omega, show ¬ 1073741824 < a by omega, show ¬ n < 0 by omega, show ¬ 1073741824 < n by omega]
 exact F
def shf (a n : Int) (f : Int → Bool) (x : Int) : Bool := if x < a then f x else if x < a + n then false else f (x - n)
theorem SIns_ok {h : Heap} {v : V} {L : List (Int × Int)} {a n m : Int} (w : WF h) (s : Sp h v L) (ok : SOK L (-1)) (hm : m + n ≤ 8000) (hL : ∀ s ∈ L, s.2 ≤ m) (hm0 : 0 ≤ m) (ha : 0 ≤ a) (ha1 : a ≤ m) (hn : 0 ≤ n) :
 Does go 228 [v, .int .i64 a, .int .i64 n] h fun z h' => Fr [] h h' ∧ ∃ y L', z = .tup [y, .int .i64 0] ∧ y.one = true ∧ SpF h' y L' ∧ SOK L' (-1) ∧ (∀ x, inS L' x = shf a n (inS L) x) ∧ ∀ s ∈ L', s.2 ≤ m + n := by
 have hlen := ok.len (by omega) hL
 refine does_fn g228 rfl ?_
 simp only [fn228, evs, ↓reduceIte, Nat.reduceEqDiff, Nat.reduceAdd, Int.reduceNeg]
 refine OQ_does (ranged_ok w s ok hlen ha (by omega) hn (by omega)) ?_
 rintro _ h1 ⟨rfl, F1⟩
 have s1 := s.fr F1
 by_cases e : L = []
 · subst e
   have hz : aP .lenS [v] = some (.int .i64 0) := s.len
   simp (disch := omega) only [evs, ↓reduceIte, Nat.reduceEqDiff, Int.reduceNeg, fwrap_i64, hz, show ¬ (0 : Int) ≤ 0 - 1 by omega]
   refine W_loop (fun _ env hh => hh = h1 ∧ env.get 10 = some .nils ∧ env.get 46 = some (.int .i64 0) ∧ env.get 45 = some (.int .i64 0)) 0 (by omega) ⟨rfl, (by simp [T.gs]), (by simp [T.gs]), (by simp [T.gs])⟩ ?_
   rintro k env hh ⟨rfl, g10, g46, g45⟩
   simp only [evs, ↓reduceIte, Nat.reduceEqDiff, Int.reduceNeg, g10, g46, g45, show ¬ (0 : Int) < 0 by omega]
   refine OQ_does (done_ok (B := 0) GRecs.nil (by simp)) ?_
   rintro _ _ ⟨z, rfl, sz, oz, hh⟩
   subst hh
   simp only [evs, ↓reduceIte, Nat.reduceEqDiff, Int.reduceNeg]
   exact ⟨F1, z, [], rfl, oz, sz, trivial, fun x => by simp [shf, inS], by simp⟩
 · have pos : 0 < L.length := List.length_pos_iff.2 e
   obtain ⟨bb, oo, t, e1, e2, e3, e4, e5⟩ := Sp.ix s1 (L.length - 1) (by omega)
   have el : ((L.length - 1 : Nat) : Int) = (L.length : Int) - 1 := by omega
   rw [el] at e1
   have tm := hL t (List.mem_of_getElem? e5)
   have c : a < t.2 ∨ ¬ a < t.2 := by omega
   rcases c with c | c
   all_goals
    simp (disch := omega) only [evs, ↓reduceIte, Nat.reduceEqDiff, Int.reduceNeg, fwrap_i64, s1.len, show (0 : Int) ≤ (L.length : Int) - 1 by omega, e1, e3, c, show ¬ 1073741824 < t.2 + n by omega]
    refine W_loop (fun k env hh => ∃ (i : Nat) (vo : V) (O : List (Int × Int)) (last : Int), Fr [] h hh ∧ env.get 44 = some v ∧ env.get 45 = some (.int .i64 L.length) ∧ env.get 46 = some (.int .i64 i) ∧ env.get 10 = some vo ∧
     env.get 1 = some (.int .i64 a) ∧ env.get 2 = some (.int .i64 n) ∧ i ≤ L.length ∧ GRecs sp 2 hh h.next vo O ∧ SOK O (-1) ∧ SOK (L.drop i) last ∧ (∀ s ∈ O, s.2 ≤ if last ≤ a then last else last + n) ∧ last ≤ m ∧
     (∀ x, inS O x = shf a n (inS (L.take i)) x) ∧ k = L.length - i) L.length (by omega) ?_ ?_
    · exact ⟨0, .nils, [], -1, F1, (by simp [T.gs]), (by simp [T.gs]), (by simp [T.gs]), (by simp [T.gs]), (by simp [T.gs]), (by simp [T.gs]), by omega, GRecs.nil, trivial, ok, by simp, by omega, fun x => by simp [shf, inS], rfl⟩
    · rintro k env hh ⟨i, vo, O, last, F, g44, g45, g46, g10, g1, g2, hi, gO, okO, okL, mO, lm, sO, rfl⟩
      have cO := okO.count (m + n) (fun s hs => by have := mO s hs; split at this <;> omega) (by omega)
      by_cases hlt : (i : Int) < L.length
      · obtain ⟨bb, oo, s, e1, e2, e3, e4, e5⟩ := Sp.ix (Recs.fr (L := L) ‹Sp h v L› F) i hlt
        have sm := hL s (List.mem_of_getElem? e5)
        rw [drop_cons e5] at okL
        obtain ⟨k1, k2, k3, k4, k5⟩ := okL
        obtain ⟨h2, e_h2⟩ : ∃ h2, h2 = halloc hh [.int .i64 0, .int .i64 0] := ⟨_, rfl⟩
        have F_h2 : Fr [] hh h2 := e_h2 ▸ Fr.halloc F.wf _
        have o_h2 : Own h2 hh.next [.int .i64 0, .int .i64 0] := e_h2 ▸ Own.new F.wf _
        simp only [evs, ↓reduceIte, Nat.reduceEqDiff, Int.reduceNeg, g44, g45, g46, hlt, e1, e4, ← e_h2]
        refine store_step (c' := [.int .i64 s.1, .int .i64 s.2]) F_h2.wf o_h2 rfl (by first | rfl | simp [onesB, V.cells, pv_one, *]) rfl ?_
        rintro h3 o_h3 F_h3 n_h3
        have F23 : Fr [] hh h3 := F_h2.fresh F_h3 F.wf (Nat.le_refl _)
        have F3 := F.then F23
        have b3 : h.next ≤ h3.next := F3.next
        have bk : h.next ≤ hh.next := F.next
        simp only [evs, ↓reduceIte, Nat.reduceEqDiff, Int.reduceNeg, g10, g1, o_h3.ld1]
        refine OQ_does (add_ok F3.wf (gO.fr F23) b3 (by omega)) ?_
        rintro v1 h4 ⟨gO1, U4⟩
        obtain ⟨p1, p2, p3⟩ := addS_spec (a := s.1) (b := min s.2 a) okO (fun hh s' hs' => by have := mO s' hs'; split at this <;> omega) k2 (by omega)
        have mO1 : ∀ s' ∈ addS O s.1 (min s.2 a), s'.2 ≤ if s.2 ≤ a then s.2 else s.2 + n := p3 _ (fun s' hs' => by have := mO s' hs'; split at this <;> split <;> omega) (fun _ => by split <;> omega)
        have mO1' : ∀ s' ∈ addS O s.1 (min s.2 a), s'.2 ≤ max s.1 a + n := p3 _ (fun s' hs' => by have := mO s' hs'; split at this <;> omega) (fun _ => by omega)
        have cO1 := p1.count (m + n) (fun s hs => by have := mO1 s hs; split at this <;> omega) (by omega)
        have oo3 : Own h4 hh.next [.int .i64 s.1, .int .i64 s.2] := by
         refine U4.own _ _ ?_ o_h3
         rcases gO with ⟨rfl, _⟩ | ⟨b, n', rfl, _, _, _, og⟩
         · simp [vb]
         · have := og.lt F.wf; simp [vb]; omega
        have U4' := Gs.up (gO.fr F23) U4
        simp (disch := omega) only [evs, ↓reduceIte, Nat.reduceEqDiff, Int.reduceNeg, fwrap_i64, g1, g2, oo3.ld1]
        refine OQ_does (add_ok U4.wf gO1 (Nat.le_trans b3 U4.next) (by omega)) ?_
        rintro v2 h5 ⟨gO2, U5⟩
        have U5' := Gs.up gO1 U5
        obtain ⟨q1, q2, q3⟩ := addS_spec (a := max s.1 a + n) (b := s.2 + n) p1 (fun _ => mO1') (by omega) (by omega)
        simp (disch := omega) only [evs, ↓reduceIte, Nat.reduceEqDiff, Int.reduceNeg, fwrap_i64, g46]
        refine (roundQ_norm _ _ _).2 ⟨L.length - (i + 1), by omega, i + 1, v2, _, s.2, F3.ups w (U4'.trans U5'), (by simp [T.gs, g44]), (by simp [T.gs, g45]), (by simp [T.gs]), (by simp [T.gs]), (by simp [T.gs, g1]), (by simp [T.gs, g2]), by omega, gO2, q1, k5, q3 _ mO1 (fun _ => by split <;> omega), sm, ?_, rfl⟩
        intro x
        rw [q2, p2, sO, List.take_add_one, e5]
        simp only [Option.toList_some, shf, inS_app, inS_cons, inS_nil, Bool.or_false]
        by_cases c1 : x < a
        · simp only [if_pos c1, Bool.or_assoc]; congr 1
          rw [Bool.eq_iff_iff]; simp; omega
        · by_cases c2 : x < a + n
          · simp only [if_neg c1, if_pos c2, Bool.false_or]
            rw [Bool.eq_iff_iff]; simp; omega
          · simp only [if_neg c1, if_neg c2, Bool.or_assoc]; congr 1
            rw [Bool.eq_iff_iff]; simp; omega
      · simp only [evs, ↓reduceIte, Nat.reduceEqDiff, Int.reduceNeg, g45, g46, g10, hlt]
        refine OQ_does (done_ok gO (by omega)) ?_
        rintro _ _ ⟨z, rfl, sz, oz, hh⟩
        subst hh
        simp only [evs, ↓reduceIte, Nat.reduceEqDiff, Int.reduceNeg]
        refine ⟨F, z, O, rfl, oz, sz, okO, fun x => by rw [sO, List.take_of_length_le (by omega)], fun s hs => by have := mO s hs; split at this <;> omega⟩
structure Kn (L : List (Int × Int)) (ks : List Bool) : Prop where
 ok : SOK L (-1)
 le : ∀ s ∈ L, s.2 ≤ ks.length
 eq : ∀ i : Nat, inS L i = ks.getD i false
def Ix (h : Heap) (v : V) (l : List Int) (ks : List Bool) : Prop := ∃ p vk L, v = .agg [pv p, vk] ∧ Rp h (.agg [pv p]) l ∧ SpF h vk L ∧ Kn L ks ∧ ks.length = l.length ∧ l.length ≤ 1024
theorem Ix.fr {h h' : Heap} {v : V} {l : List Int} {ks : List Bool} (a : Ix h v l ks) (f : Fr [] h h') : Ix h' v l ks := by
 obtain ⟨p, vk, L, e, r, s, x⟩ := a; exact ⟨p, vk, L, e, r.fr f, s.fr f, x⟩
theorem Ix.len {h : Heap} {v : V} {l : List Int} {ks : List Bool} (a : Ix h v l ks) : ks.length = l.length ∧ l.length ≤ 1024 := by
 obtain ⟨p, vk, L, e, r, s, _, x⟩ := a; exact x
theorem XLen_ok {h : Heap} {v : V} {l : List Int} {ks : List Bool} (w : WF h) (a : Ix h v l ks) : Does go 121 [v] h fun u h' => u = .int .i64 l.length ∧ Fr [] h h' := by
 obtain ⟨p, vk, L, rfl, r, s, _⟩ := a
 obtain ⟨h1, e_h1⟩ : ∃ h1, h1 = halloc h [pv p, vk] := ⟨_, rfl⟩
 have F_h1 : Fr [] h h1 := e_h1 ▸ Fr.halloc w _
 have o_h1 : Own h1 h.next [pv p, vk] := e_h1 ▸ Own.new w _
 refine does_fn g121 rfl ?_
 simp only [fn121, evs, ↓reduceIte, Nat.reduceEqDiff, ← e_h1, o_h1.ld]
 refine OQ_does (Len_ok F_h1.wf (r.fr F_h1)) ?_
 rintro _ h2 ⟨rfl, F2⟩
 simp only [evs, ↓reduceIte]
 exact F_h1.then F2
theorem XSize_ok {h : Heap} {v : V} {l : List Int} {ks : List Bool} {i : Int} (w : WF h) (a : Ix h v l ks) :
 Does go 145 [v, .int .i64 i] h fun u h' => (u = if 0 ≤ i ∧ i < l.length then .tup [.int .i64 (l.getD i.toNat 0), .int .i64 0] else .tup [.int .i64 0, .int .i64 4]) ∧ Fr [] h h' := by
 obtain ⟨p, vk, L, rfl, r, s, _⟩ := a
 obtain ⟨h1, e_h1⟩ : ∃ h1, h1 = halloc h [pv p, vk] := ⟨_, rfl⟩
 have F_h1 : Fr [] h h1 := e_h1 ▸ Fr.halloc w _
 have o_h1 : Own h1 h.next [pv p, vk] := e_h1 ▸ Own.new w _
 refine does_fn g145 rfl ?_
 simp only [fn145, evs, ↓reduceIte, Nat.reduceEqDiff, Nat.reduceAdd, ← e_h1, o_h1.ld]
 refine OQ_does (RAt_ok F_h1.wf (r.fr F_h1)) ?_
 rintro _ h2 ⟨rfl, F2⟩
 by_cases c : 0 ≤ i ∧ i < l.length
 · simp only [if_pos c]
   simp only [evs, ↓reduceIte, Nat.reduceEqDiff]
   exact F_h1.then F2
 · simp only [if_neg c]
   simp only [evs, ↓reduceIte, Nat.reduceEqDiff]
   exact F_h1.then F2
theorem Kn.len {L : List (Int × Int)} {ks : List Bool} (k : Kn L ks) (h : ks.length ≤ 1024) : L.length ≤ 4096 := k.ok.len (m := ks.length) (by omega) k.le
theorem wrong_ok {h : Heap} {s : Int} : Does go 180 [.int .i64 s] h fun u h' => u = .bool (decide (s < 1 ∨ 2305843009213693952 < s)) ∧ h' = h := by
 by_cases c : s < 1
 · refine does_fn g180 rfl ?_
   simp only [fn180, evs, ↓reduceIte, Nat.reduceEqDiff, c]
   simp
 · refine does_fn g180 rfl ?_
   simp only [fn180, evs, ↓reduceIte, Nat.reduceEqDiff, c]
   simp
def xsetE (l : List Int) (i size : Int) : Int := if 0 ≤ i ∧ i < l.length then if size < 1 ∨ 2305843009213693952 < size then 12 else if 4611686018427387904 - (l.sum - l.getD i.toNat 0) < size then 13 else 0 else 4
theorem xset_eq {l : List Int} {i size : Int} (h : ¬ ((0 ≤ i ∧ i < l.length) ∧ (size < 1 ∨ 2305843009213693952 < size))) : xsetE l i size = setE l i size := by
 unfold xsetE setE
 by_cases c : 0 ≤ i ∧ i < l.length
 · rw [if_pos c, if_pos c, if_neg (show ¬ (size < 1 ∨ 2305843009213693952 < size) by omega), if_neg (show ¬ (size < 0 ∨ 2305843009213693952 < size) by omega)]
 · rw [if_neg c, if_neg c]
theorem getD_set {ks : List Bool} {i j : Nat} {b : Bool} (h : i < ks.length) : (ks.set i b).getD j false = if j = i then b else ks.getD j false := by
 simp only [List.getD_eq_getElem?_getD, List.getElem?_set]
 by_cases c : i = j
 · subst c; simp [h]
 · rw [if_neg c, if_neg (Ne.symm c)]
theorem XSet_ok {h : Heap} {v : V} {l : List Int} {ks : List Bool} {i size : Int} {kn : Bool} (w : WF h) (a : Ix h v l ks) (s0 : -9223372036854775808 ≤ size) (s1 : size ≤ 9223372036854775807) (i0 : -9223372036854775808 ≤ i) (i1 : i ≤ 9223372036854775807) :
 Does go 110 [v, .int .i64 i, .int .i64 size, .bool kn] h fun u h' => Fr [] h h' ∧ ∃ c d, u = .tup [.agg [c, d], .int .i64 (xsetE l i size)] ∧ c.one = true ∧ d.one = true ∧ (xsetE l i size = 0 → Ix h' (.agg [c, d]) (l.set i.toNat size) (ks.set i.toNat kn)) := by
 have a0 := a
 obtain ⟨p, vk, L, rfl, r, s, kn', e1, e2⟩ := a
 obtain ⟨h1, e_h1⟩ : ∃ h1, h1 = halloc h [pv p, vk] := ⟨_, rfl⟩
 have F_h1 : Fr [] h h1 := e_h1 ▸ Fr.halloc w _
 have o_h1 : Own h1 h.next [pv p, vk] := e_h1 ▸ Own.new w _
 obtain ⟨h2, e_h2⟩ : ∃ h2, h2 = halloc h1 [.nilp, .nils] := ⟨_, rfl⟩
 have F_h2 : Fr [] h1 h2 := e_h2 ▸ Fr.halloc F_h1.wf _
 have o_h2 : Own h2 h1.next [.nilp, .nils] := e_h2 ▸ Own.new F_h1.wf _
 have F12 := F_h1.then F_h2
 have o1 := F_h2.get o_h1
 have b1 : h.next ≤ h1.next := F_h1.next
 have c : i < 0 ∨ (0 ≤ i ∧ (l.length : Int) ≤ i) ∨ (0 ≤ i ∧ i < l.length ∧ ¬ (size < 1 ∨ 2305843009213693952 < size)) ∨ (0 ≤ i ∧ i < l.length ∧ (size < 1 ∨ 2305843009213693952 < size)) := by omega
 rcases c with c | c | c | c
 case' inr.inr.inr =>
  refine does_fn g110 rfl ?_
  simp only [fn110, evs, ↓reduceIte, Nat.reduceEqDiff, Nat.reduceAdd, ← e_h1, ← e_h2, o1.ld, eq_true c.1]
  refine OQ_does (XLen_ok F12.wf (a0.fr F12)) ?_
  rintro _ h3 ⟨rfl, F3⟩
  simp only [evs, ↓reduceIte, Nat.reduceEqDiff, eq_true c.2.1]
  refine OQ_does wrong_ok ?_
  rintro _ _ ⟨rfl, hh⟩
  subst hh
  simp only [evs, ↓reduceIte, Nat.reduceEqDiff, eq_true c.2.2]
  refine store_step (c' := [.nilp, .nils]) F3.wf (F3.get o_h2) rfl (by first | rfl | simp [onesB, V.cells, pv_one, *]) rfl ?_
  rintro h4 o_h4 F_h4 n_h4
  simp only [evs, ↓reduceIte, Nat.reduceEqDiff, o_h4.ld]
  have e : xsetE l i size = 12 := by unfold xsetE; rw [if_pos ⟨c.1, c.2.1⟩, if_pos c.2.2]
  rw [e]
  exact ⟨(F12.then F3).fresh F_h4 w b1, _, _, rfl, rfl, rfl, by simp⟩
 case' inl =>
  refine does_fn g110 rfl ?_
  simp only [fn110, evs, ↓reduceIte, Nat.reduceEqDiff, Nat.reduceAdd, ← e_h1, ← e_h2, o1.ld, show ¬ 0 ≤ i by omega]
  obtain ⟨h3, F3, e3⟩ : ∃ h3, Fr [] h2 h3 ∧ h3 = h2 := ⟨h2, Fr.refl F12.wf, rfl⟩
  rw [← e3]
  have ee := xset_eq (l := l) (i := i) (size := size) (by omega)
 case' inr.inl =>
  refine does_fn g110 rfl ?_
  simp only [fn110, evs, ↓reduceIte, Nat.reduceEqDiff, Nat.reduceAdd, ← e_h1, ← e_h2, o1.ld, eq_true c.1]
  refine OQ_does (XLen_ok F12.wf (a0.fr F12)) ?_
  rintro _ h3 ⟨rfl, F3⟩
  simp only [evs, ↓reduceIte, Nat.reduceEqDiff, show ¬ i < l.length by omega, (F3.get o1).ld]
  have ee := xset_eq (l := l) (i := i) (size := size) (by omega)
 case' inr.inr.inl =>
  refine does_fn g110 rfl ?_
  simp only [fn110, evs, ↓reduceIte, Nat.reduceEqDiff, Nat.reduceAdd, ← e_h1, ← e_h2, o1.ld, eq_true c.1]
  refine OQ_does (XLen_ok F12.wf (a0.fr F12)) ?_
  rintro _ h3 ⟨rfl, F3⟩
  simp only [evs, ↓reduceIte, Nat.reduceEqDiff, eq_true c.2.1]
  refine OQ_does wrong_ok ?_
  rintro _ _ ⟨rfl, hh⟩
  subst hh
  simp only [evs, ↓reduceIte, Nat.reduceEqDiff, eq_false c.2.2, (F3.get o1).ld]
  have ee := xset_eq (l := l) (i := i) (size := size) (by omega)
 all_goals
  clear c
  try simp only [evs, ↓reduceIte, Nat.reduceEqDiff, Nat.reduceAdd, Nat.reduceMul, Nat.reduceLeDiff, Nat.reduceLT, Int.reduceNeg, DF, eff, Nat.reduceSub, (F3.get o1).ld]
  have F13 := F12.then F3
  refine OQ_does (RSet_ok F3.wf (r.fr F13) s0 s1) ?_
  rintro _ h4 ⟨F4, c4, rfl, hc4, hr⟩
  rw [ee]
  obtain ⟨h5, e_h5⟩ : ∃ h5, h5 = halloc h4 [.nilp] := ⟨_, rfl⟩
  have F_h5 : Fr [] h4 h5 := e_h5 ▸ Fr.halloc F4.wf _
  have o_h5 : Own h5 h4.next [.nilp] := e_h5 ▸ Own.new F4.wf _
  simp only [evs, ↓reduceIte, ← e_h5]
  refine store_step (c' := [c4]) F_h5.wf o_h5 rfl (by simp [onesB, V.cells, hc4]) rfl ?_
  rintro h6 o6 F6 n6
  have F46 : Fr [] h4 h6 := F_h5.fresh F6 F4.wf (Nat.le_refl _)
  have F36 := (F4.then F46)
  have F26 := F3.then F36
  by_cases z : setE l i size = 0
  · have hi : 0 ≤ i ∧ i < l.length := by
     unfold setE at z
     by_cases hh : 0 ≤ i ∧ i < l.length
     · exact hh
     · rw [if_neg hh] at z; omega
    simp (disch := omega) only [evs, ↓reduceIte, Nat.reduceEqDiff, eff, fwrap_i64, eq_true z, o6.ld, (F26.get o1).ld1]
    refine OQ_does (marked_ok (m := ks.length) F46.wf (s.fr (F12.then F26)) kn'.ok (by omega) kn'.le (by omega) (by omega) (by omega)) ?_
    rintro vk' h7 ⟨F7, L', ov, sL, okL, iL, mL⟩
    simp only [evs, eff]
    refine OQ_does (with_ok F7.wf hc4 ov) ?_
    rintro _ h8 ⟨F8, rfl⟩
    rw [if_pos rfl]
    have F28 := (F26.then F7).then F8
    simp only [evs, ↓reduceIte, Nat.reduceEqDiff, eff]
    refine store_step (c' := [c4, vk']) F8.wf (F28.get o_h2) rfl (by first | rfl | simp [onesB, V.cells, *]) rfl ?_
    rintro h9 o_h9 F_h9 n_h9
    simp only [evs, ↓reduceIte, Nat.reduceEqDiff, Nat.reduceAdd, DF, eff, Nat.reduceSub, o_h9.ld, o6.ld, (F26.get o1).ld1, (F7.get o6).ld]
    have rr := (hr z)
    obtain ⟨t', p', ep, at', et, ft⟩ := rr
    cases ep
    refine ⟨(F12.then F28).fresh F_h9 w b1, _, _, by rw [z], pv_one _, ov, fun _ => ⟨p', vk', L', rfl, ?_, ?_, ?_, ?_, ?_⟩⟩
    · exact (Rp.fr (l := l.set i.toNat size) ⟨t', p', rfl, at', et, ft⟩ ((F46.then F7).then F8)).frb F_h9 (F28.get o_h2) (by simp)
    · exact (sL.fr F8).frb F_h9 (F28.get o_h2) (nosp (by simp))
    · refine ⟨okL, by simpa using mL, fun j => ?_⟩
      rw [iL, getD_set (by omega), kn'.eq]
      by_cases cj : j = i.toNat
      · rw [if_pos cj, if_pos (by omega)]
      · rw [if_neg cj, if_neg (by omega)]
    · simpa using e1
    · simpa using e2
  · simp only [evs, ↓reduceIte, Nat.reduceEqDiff, eq_false z]
    refine store_step (c' := [.nilp, .nils]) F46.wf (F26.get o_h2) rfl (by first | rfl | simp [onesB, V.cells, pv_one, *]) rfl ?_
    rintro h9 o_h9 F_h9 n_h9
    simp only [evs, ↓reduceIte, Nat.reduceEqDiff, o_h9.ld]
    exact ⟨(F12.then F26).fresh F_h9 w b1, _, _, rfl, rfl, rfl, by simp []⟩
def sumE (t : Int) : List Int → Int
 | [] => 0
 | s :: l => if s < 1 ∨ 2305843009213693952 < s then 12 else if 4611686018427387904 < t + s then 13 else sumE (t + s) l
theorem chk_snoc : ∀ (a : List Int) (s t : Int), chk (a ++ [s]) t = if chk a t = 0 then (if s < 0 ∨ 2305843009213693952 < s then 12 else if 4611686018427387904 - (t + a.sum) < s then 13 else 0) else chk a t
 | [], s, t => by simp [chk]
 | x :: a, s, t => by
  simp only [List.cons_append, chk]
  by_cases c1 : x < 0 ∨ 2305843009213693952 < x
  · simp only [if_pos c1]; simp
  · simp only [if_neg c1]
    by_cases c2 : 4611686018427387904 - t < x
    · simp only [if_pos c2]; simp
    · simp only [if_neg c2]
      rw [chk_snoc a s (t + x)]
      simp only [List.sum_cons, show t + x + a.sum = t + (x + a.sum) by omega]
      rfl
def xinsE (l : List Int) (a : Int) (m : List Int) : Int := if 0 ≤ a ∧ a ≤ l.length then if 1024 - (l.length : Int) < m.length then 3 else if sumE 0 m = 0 then (if 4611686018427387904 - m.sum < l.sum then 13 else 0) else sumE 0 m else 4
theorem ins_getD {ks : List Bool} {a n : Nat} {kn : Bool} (ha : a ≤ ks.length) (j : Nat) :
 (ks.take a ++ List.replicate n kn ++ ks.drop a).getD j false = if j < a then ks.getD j false else if j < a + n then kn else ks.getD (j - n) false := by
 simp only [List.getD_eq_getElem?_getD]
 by_cases c1 : j < a
 · rw [if_pos c1, List.append_assoc, List.getElem?_append_left (by simp; omega), List.getElem?_take, if_pos c1]
 · rw [if_neg c1, List.append_assoc, List.getElem?_append_right (by simp; omega)]
   have hl : (ks.take a).length = a := by simp; omega
   rw [hl]
   by_cases c2 : j < a + n
   · rw [if_pos c2, List.getElem?_append_left (by simp; omega), List.getElem?_replicate, if_pos (by omega)]; rfl
   · rw [if_neg c2, List.getElem?_append_right (by simp; omega), List.length_replicate, List.getElem?_drop]
     congr 2; omega
theorem XIns_ok {h : Heap} {v u : V} {l m : List Int} {ks : List Bool} {i : Int} {kn : Bool} (w : WF h) (a : Ix h v l ks) (am : Ints h u m) (hm : m.length ≤ 1000000) (i0 : -9223372036854775808 ≤ i) (i1 : i ≤ 9223372036854775807) :
 Does go 223 [v, .int .i64 i, u, .bool kn] h fun z h' => Fr [] h h' ∧ ∃ c d, z = .tup [.agg [c, d], .int .i64 (xinsE l i m)] ∧ c.one = true ∧ d.one = true ∧
  (xinsE l i m = 0 → Ix h' (.agg [c, d]) (l.take i.toNat ++ m ++ l.drop i.toNat) (ks.take i.toNat ++ List.replicate m.length kn ++ ks.drop i.toNat)) := by
 have a0 := a
 obtain ⟨p, vk, L, rfl, r, s, kn', e1, e2⟩ := a
 obtain ⟨h1, e_h1⟩ : ∃ h1, h1 = halloc h [pv p, vk] := ⟨_, rfl⟩
 have F_h1 : Fr [] h h1 := e_h1 ▸ Fr.halloc w _
 have o_h1 : Own h1 h.next [pv p, vk] := e_h1 ▸ Own.new w _
 obtain ⟨h2, e_h2⟩ : ∃ h2, h2 = halloc h1 [.nilp, .nils] := ⟨_, rfl⟩
 have F_h2 : Fr [] h1 h2 := e_h2 ▸ Fr.halloc F_h1.wf _
 have o_h2 : Own h2 h1.next [.nilp, .nils] := e_h2 ▸ Own.new F_h1.wf _
 have F12 := F_h1.then F_h2
 have o1 := F_h2.get o_h1
 have b1 : h.next ≤ h1.next := F_h1.next
 by_cases c0 : i < 0
 · refine does_fn g223 rfl ?_
   simp only [fn223, evs, ↓reduceIte, Nat.reduceEqDiff, Nat.reduceAdd, ← e_h1, ← e_h2, c0]
   refine store_step (c' := [.nilp, .nils]) F_h2.wf o_h2 rfl (by first | rfl | simp [onesB, V.cells, pv_one, *]) rfl ?_
   rintro h4 o_h4 F_h4 n_h4
   simp only [evs, ↓reduceIte, Nat.reduceEqDiff, o_h4.ld]
   have e : xinsE l i m = 4 := by unfold xinsE; rw [if_neg (by omega)]
   rw [e]
   exact ⟨F12.fresh F_h4 w b1, _, _, rfl, rfl, rfl, by simp⟩
 · refine does_fn g223 rfl ?_
   simp only [fn223, evs, ↓reduceIte, Nat.reduceEqDiff, Nat.reduceAdd, ← e_h1, ← e_h2, o1.ld, c0]
   refine OQ_does (XLen_ok F12.wf (a0.fr F12)) ?_
   rintro _ h3 ⟨rfl, F3⟩
   by_cases c1 : (l.length : Int) < i
   · simp only [evs, ↓reduceIte, Nat.reduceEqDiff, c1]
     refine store_step (c' := [.nilp, .nils]) F3.wf (F3.get o_h2) rfl (by first | rfl | simp [onesB, V.cells, pv_one, *]) rfl ?_
     rintro h4 o_h4 F_h4 n_h4
     simp only [evs, ↓reduceIte, Nat.reduceEqDiff, o_h4.ld]
     have e : xinsE l i m = 4 := by unfold xinsE; rw [if_neg (by omega)]
     rw [e]
     exact ⟨(F12.then F3).fresh F_h4 w b1, _, _, rfl, rfl, rfl, by simp⟩
   · have am3 := am.fr (F12.then F3)
     simp only [evs, ↓reduceIte, Nat.reduceEqDiff, c1, am3.len, (F3.get o1).ld]
     refine OQ_does (XLen_ok F3.wf (a0.fr (F12.then F3))) ?_
     rintro _ h4 ⟨rfl, F4⟩
     have F34 := F3.then F4
     have F14 := F12.then F34
     have am4 := am.fr F14
     have hi : 0 ≤ i ∧ i ≤ l.length := by omega
     by_cases c2 : 1024 - (l.length : Int) < m.length
     · simp (disch := omega) only [evs, ↓reduceIte, Nat.reduceEqDiff, fwrap_i64, c2]
       refine store_step (c' := [.nilp, .nils]) F4.wf (F34.get o_h2) rfl (by first | rfl | simp [onesB, V.cells, pv_one, *]) rfl ?_
       rintro h5 o_h5 F_h5 n_h5
       simp only [evs, ↓reduceIte, Nat.reduceEqDiff, o_h5.ld]
       have e : xinsE l i m = 3 := by unfold xinsE; rw [if_pos hi, if_pos c2]
       rw [e]
       exact ⟨F14.fresh F_h5 w b1, _, _, rfl, rfl, rfl, by simp⟩
     · simp (disch := omega) only [evs, ↓reduceIte, Nat.reduceEqDiff, fwrap_i64, c2, am4.len]
       have o2 := F34.get o_h2
       refine W_loop (fun k env hh => hh = h4 ∧ ∃ (j : Nat), env.get 36 = some (.int .i64 j) ∧ env.get 34 = some u ∧ env.get 35 = some (.int .i64 m.length) ∧ env.get 2 = some u ∧ env.get 1 = some (.int .i64 i) ∧ env.get 3 = some (.bool kn) ∧
        env.get 4 = some (.ptr h.next 0) ∧ env.get 8 = some (.ptr h1.next 0) ∧ j ≤ m.length ∧ chk (m.take j) 0 = 0 ∧ 0 ≤ (m.take j).sum ∧ (m.take j).sum ≤ 4611686018427387904 ∧ sumE (m.take j).sum (m.drop j) = sumE 0 m ∧ k = m.length - j) m.length (by omega) ?_ ?_
       · exact ⟨rfl, 0, (by simp [T.gs]), (by simp [T.gs]), (by simp [T.gs]), (by simp [T.gs]), (by simp [T.gs]), (by simp [T.gs]), (by simp [T.gs]), (by simp [T.gs]), by omega, by simp [chk], by simp, by simp, by simp, rfl⟩
       · rintro k env hh ⟨rfl, j, g36, g34, g35, g2, g1, g3, g4, g8, hj, ck, sn, sm, se, rfl⟩
         by_cases hlt : (j : Int) < m.length
         · obtain ⟨bb, oo, x, q1, q2, q3⟩ := am4.ix .i64 j (by omega) hlt
           simp only [Int.toNat_natCast] at q3
           rw [drop_cons q3, sumE] at se
           simp only [evs, ↓reduceIte, Nat.reduceEqDiff, g36, g34, g35, hlt, q1, q2]
           refine OQ_does wrong_ok ?_
           rintro _ _ ⟨rfl, hh⟩
           subst hh
           by_cases c3 : x < 1 ∨ 2305843009213693952 < x
           · simp only [evs, ↓reduceIte, Nat.reduceEqDiff, eq_true c3, g8]
             refine store_step (c' := [.nilp, .nils]) F4.wf o2 rfl (by first | rfl | simp [onesB, V.cells, pv_one, *]) rfl ?_
             rintro h5 o_h5 F_h5 n_h5
             simp only [evs, ↓reduceIte, Nat.reduceEqDiff, o_h5.ld, g8]
             rw [if_pos c3] at se
             have e : xinsE l i m = 12 := by unfold xinsE; rw [if_pos hi, if_neg c2, if_neg (by omega), ← se]
             rw [e]
             exact ⟨F14.fresh F_h5 w b1, _, _, rfl, rfl, rfl, by simp⟩
           · rw [if_neg c3] at se
             have hv : u ≠ .sliceE := Sl.ne am4 (by omega)
             obtain ⟨u', p1, p2⟩ := am4.upto hv .i64 ((j : Int) + 1) (by omega) (by omega)
             have tk : m.take (j + 1) = m.take j ++ [x] := by rw [List.take_add_one, q3]; rfl
             rw [show ((j : Int) + 1).toNat = j + 1 by omega] at p2
             have cs : chk (m.take (j + 1)) 0 = if 4611686018427387904 < (m.take j).sum + x then 13 else 0 := by
              rw [tk, chk_snoc, if_pos ck, if_neg (by omega)]
              by_cases c4 : 4611686018427387904 < (m.take j).sum + x
              · rw [if_pos c4, if_pos (by omega)]
              · rw [if_neg c4, if_neg (by omega)]
             simp (disch := omega) only [evs, ↓reduceIte, Nat.reduceEqDiff, fwrap_i64, eq_false c3, g2, p1]
             refine OQ_does (Check_ok F4.wf p2 (by simp; omega)) ?_
             rintro _ _ ⟨rfl, hh⟩
             subst hh
             rw [if_neg (by simp; omega), cs]
             by_cases c4 : 4611686018427387904 < (m.take j).sum + x
             · rw [if_pos c4] at se ⊢
               simp only [evs, ↓reduceIte, Nat.reduceEqDiff, g8, show ¬ (13 : Int) = 0 by omega]
               refine store_step (c' := [.nilp, .nils]) F4.wf o2 rfl (by first | rfl | simp [onesB, V.cells, pv_one, *]) rfl ?_
               rintro h5 o_h5 F_h5 n_h5
               simp only [evs, ↓reduceIte, Nat.reduceEqDiff, o_h5.ld, g8]
               have e : xinsE l i m = 13 := by unfold xinsE; rw [if_pos hi, if_neg c2, if_neg (by omega), ← se]
               rw [e]
               exact ⟨F14.fresh F_h5 w b1, _, _, rfl, rfl, rfl, by simp⟩
             · rw [if_neg c4] at se ⊢
               simp (disch := omega) only [evs, ↓reduceIte, Nat.reduceEqDiff, fwrap_i64, g36]
               have ts : (m.take (j + 1)).sum = (m.take j).sum + x := by rw [tk]; simp
               refine (roundQ_norm _ _ _).2 ⟨m.length - (j + 1), by omega, rfl, j + 1, (by simp [T.gs]), (by simp [T.gs, g34]), (by simp [T.gs, g35]), (by simp [T.gs, g2]), (by simp [T.gs, g1]), (by simp [T.gs, g3]), (by simp [T.gs, g4]), (by simp [T.gs, g8]), by omega, by rw [cs, if_neg c4], by rw [ts]; omega, by rw [ts]; omega, by rw [ts]; exact se, rfl⟩
               done
         · have ej : j = m.length := by omega
           subst ej
           simp only [List.take_length, List.drop_length, sumE] at ck se sn sm
           simp only [evs, ↓reduceIte, Nat.reduceEqDiff, g36, g35, g2, g1, g4, hlt, (F34.get o1).ld]
           refine OQ_does (RIns_ok F4.wf (r.fr F14) am4 hm) ?_
           rintro _ h5 ⟨F5, c5, rfl, hc5, hr⟩
           have ei : insE l i m = xinsE l i m := by
            unfold insE xinsE ofE joinE
            rw [if_pos hi, if_pos hi, if_neg (show ¬ 4096 < m.length by omega), if_pos ck, if_neg (show ¬ 4096 < l.length + m.length by omega), if_neg c2, if_pos se.symm]
           rw [ei] at hr ⊢
           obtain ⟨h6, e_h6⟩ : ∃ h6, h6 = halloc h5 [.nilp] := ⟨_, rfl⟩
           have F_h6 : Fr [] h5 h6 := e_h6 ▸ Fr.halloc F5.wf _
           have o_h6 : Own h6 h5.next [.nilp] := e_h6 ▸ Own.new F5.wf _
           simp only [evs, ↓reduceIte, ← e_h6]
           refine store_step (c' := [c5]) F_h6.wf o_h6 rfl (by simp [onesB, V.cells, hc5]) rfl ?_
           rintro h7 o7 F7 n7
           have F57 : Fr [] h5 h7 := F_h6.fresh F7 F5.wf (Nat.le_refl _)
           have F27 := (F34.then F5).then F57
           by_cases z : xinsE l i m = 0
           · simp only [evs, ↓reduceIte, Nat.reduceEqDiff, eq_true z, g2, g1, g4, (F27.get o1).ld1, am.len]
             refine OQ_does (SIns_ok (m := ks.length) F57.wf (s.fr (F12.then F27)).slc kn'.ok (by omega) kn'.le (by omega) (by omega) (by omega) (by omega)) ?_
             rintro _ h8 ⟨F8, vk1, L1, rfl, ov1, sL1, ok1, iL1, mL1⟩
             simp (disch := omega) only [evs, ↓reduceIte, Nat.reduceEqDiff, eff, fwrap_i64, g2, g1, g3, (F8.get o7).ld, am.len]
             refine OQ_does (marked_ok (m := ks.length + m.length) F8.wf sL1 ok1 (by omega) mL1 (by omega) (by omega) (by omega)) ?_
             rintro vk2 h9 ⟨F9, L2, ov2, sL2, ok2, iL2, mL2⟩
             simp only [evs, ↓reduceIte, eff]
             refine OQ_does (with_ok F9.wf hc5 ov2) ?_
             rintro _ h10 ⟨F10, rfl⟩
             rw [if_pos rfl]
             have F210 := ((F27.then F8).then F9).then F10
             simp only [evs, ↓reduceIte, Nat.reduceEqDiff, eff, g8]
             refine store_step (c' := [c5, vk2]) F10.wf (F210.get o_h2) rfl (by first | rfl | simp [onesB, V.cells, *]) rfl ?_
             rintro h11 o_h11 F_h11 n_h11
             simp only [evs, ↓reduceIte, Nat.reduceEqDiff, Nat.reduceAdd, DF, eff, Nat.reduceSub, o_h11.ld, g8, (F8.get o7).ld, ((F8.then F9).get o7).ld]
             obtain ⟨t', p', ep, at', et, ft⟩ := hr z
             cases ep
             refine ⟨(F12.then F210).fresh F_h11 w b1, _, _, by rw [z], pv_one _, ov2, fun _ => ⟨p', vk2, L2, rfl, ?_, ?_, ?_, ?_, ?_⟩⟩
             · exact (Rp.fr (l := l.take i.toNat ++ m ++ l.drop i.toNat) ⟨t', p', rfl, at', et, ft⟩ (((F57.then F8).then F9).then F10)).frb F_h11 (F210.get o_h2) (by simp)
             · exact (sL2.fr F10).frb F_h11 (F210.get o_h2) (nosp (by simp))
             · refine ⟨ok2, ?_, fun j => ?_⟩
               · intro x hx
                 have := mL2 x hx
                 simp; omega
               · rw [iL2, iL1, ins_getD (by omega)]
                 unfold shf
                 by_cases d1 : j < i.toNat
                 · rw [if_neg (by omega), if_pos (by omega), if_pos d1, kn'.eq]
                 · by_cases d2 : j < i.toNat + m.length
                   · rw [if_pos (by omega), if_neg d1, if_pos d2]
                   · rw [if_neg (by omega), if_neg (by omega), if_neg (by omega), if_neg d1, if_neg d2, ← kn'.eq]
                     congr 1; omega
             · simp; omega
             · simp; omega
           · simp only [evs, ↓reduceIte, Nat.reduceEqDiff, eq_false z, g8]
             refine store_step (c' := [.nilp, .nils]) F57.wf (F27.get o_h2) rfl (by first | rfl | simp [onesB, V.cells, pv_one, *]) rfl ?_
             rintro h9 o_h9 F_h9 n_h9
             simp only [evs, ↓reduceIte, Nat.reduceEqDiff, o_h9.ld, g8]
             exact ⟨(F12.then F27).fresh F_h9 w b1, _, _, rfl, rfl, rfl, by simp []⟩
theorem aP_shrN (k : IntKind) (x : Nat) (b : Int) (n : Nat) (h : b = n) (hn : n ≤ 64) : aP (.sh false) [.int .u64 (x : Int), .int k b] = some (.int .u64 ((x / 2 ^ n : Nat) : Int)) := by
 subst h
 rw [aP_shr _ _ _ _ (by omega)]
 simp only [Int.toNat_natCast, IntKind.bits, Nat.min_eq_left hn]
 congr 2
 rw [Int.fdiv_eq_ediv_of_nonneg _ (Int.natCast_nonneg _), Int.natCast_ediv]
theorem bvand (w x y : Nat) : (BitVec.ofInt w (x : Int) &&& BitVec.ofInt w (y : Int)).toNat = (x % 2 ^ w) &&& (y % 2 ^ w) := by simp [BitVec.toNat_and]
theorem bvxor (w x y : Nat) : (BitVec.ofInt w (x : Int) ^^^ BitVec.ofInt w (y : Int)).toNat = (x % 2 ^ w) ^^^ (y % 2 ^ w) := by simp [BitVec.toNat_xor]
theorem aP_and (k : IntKind) (a b : Int) : aP (.ib .and) [.int k a, .int k b] = some (.int k (fwrap k (BitVec.toNat (BitVec.ofInt k.bits a &&& BitVec.ofInt k.bits b)))) := by simp only [aP, kbeq_self, cond_true, ibin]
theorem aP_xor (k : IntKind) (a b : Int) : aP (.ib .xor) [.int k a, .int k b] = some (.int k (fwrap k (BitVec.toNat (BitVec.ofInt k.bits a ^^^ BitVec.ofInt k.bits b)))) := by simp only [aP, kbeq_self, cond_true, ibin]
theorem p64 : 2 ^ IntKind.u64.bits = 18446744073709551616 := rfl
theorem aP_andN (x y : Nat) (a b : Int) (ha : a = x) (hb : b = y) (hx : x < 18446744073709551616) (hy : y < 18446744073709551616) : aP (.ib .and) [.int .u64 a, .int .u64 b] = some (.int .u64 ((x &&& y : Nat) : Int)) := by
 subst ha hb
 have hxy : x &&& y < 18446744073709551616 := Nat.lt_of_le_of_lt Nat.and_le_left hx
 rw [aP_and, bvand, p64, Nat.mod_eq_of_lt hx, Nat.mod_eq_of_lt hy, fwrap_u64 _ (by omega) (by omega)]
theorem aP_xorN (x y : Nat) (a b : Int) (ha : a = x) (hb : b = y) (hx : x < 18446744073709551616) (hy : y < 18446744073709551616) : aP (.ib .xor) [.int .u64 a, .int .u64 b] = some (.int .u64 ((x ^^^ y : Nat) : Int)) := by
 subst ha hb
 have hxy : x ^^^ y < 2 ^ 64 := Nat.xor_lt_two_pow (by simpa using hx) (by simpa using hy)
 rw [aP_xor, bvxor, p64, Nat.mod_eq_of_lt hx, Nat.mod_eq_of_lt hy, fwrap_u64 _ (by omega) (by omega)]
def uw (x : Nat) : V := .int .u64 (x : Int)
def flc (n m : Int) (ws : List Nat) : List V := .int .i64 n :: .int .i64 m :: ws.map uw
structure WOK (ws : List Nat) (bs : List Bool) : Prop where
 len : ws.length = 64
 w : ∀ k, k < 64 → ∃ x, ws[k]? = some x ∧ x < 18446744073709551616 ∧ ∀ j, j < 64 → x.testBit j = bs.getD (64 * k + j) false
def Fl (h : Heap) (b : Nat) (bs : List Bool) : Prop := ∃ ws, Own h b (flc bs.length (bs.count true) ws) ∧ WOK ws bs ∧ bs.length ≤ 4096
theorem Fl.fr {h h' : Heap} {b : Nat} {bs : List Bool} (a : Fl h b bs) (f : Fr [] h h') : Fl h' b bs := by
 obtain ⟨ws, o, x⟩ := a; exact ⟨ws, f.get o, x⟩
theorem flc_nth (n m : Int) (ws : List Nat) (k : Nat) : nth (flc n m ws) (2 + k) = (ws[k]?).map uw := by
 rw [nth_eq, Nat.add_comm]; simp [flc]
theorem quo64 (i : Nat) : aP (.ib .quo) [.int .i64 (i : Int), .int .i64 64] = some (.int .i64 ((i / 64 : Nat) : Int)) ∨ i > 9000000 := by
 by_cases h : i > 9000000
 · exact .inr h
 · left
   rw [aP_quo _ _ 64 (by decide), show Int.tdiv (i : Int) 64 = ((i / 64 : Nat) : Int) from (Int.ofNat_tdiv i 64).symm, fwrap_i64 _ (by omega) (by omega)]
theorem rem64 (i : Nat) : aP (.ib .rem) [.int .i64 (i : Int), .int .i64 64] = some (.int .i64 ((i % 64 : Nat) : Int)) := by
 rw [aP_rem _ _ 64 (by decide), show Int.tmod (i : Int) 64 = ((i % 64 : Nat) : Int) from (Int.ofNat_tmod i 64).symm]
theorem bitN (x j : Nat) : decide (((x / 2 ^ j &&& 1 : Nat) : Int) = 1) = x.testBit j := by
 rw [Nat.testBit_eq_decide_div_mod_eq, Nat.and_one_is_mod]
 rw [Bool.eq_iff_iff, decide_eq_true_eq, decide_eq_true_eq]; omega
theorem get_ok {h : Heap} {b : Nat} {bs : List Bool} {i : Nat} (f : Fl h b bs) (hi : i < bs.length) : Does go 211 [.ptr b 0, .int .i64 (i : Int)] h fun u h' => u = .bool (bs.getD i false) ∧ h' = h := by
 obtain ⟨ws, o, ok, hn⟩ := f
 obtain ⟨x, e1, e2, e3⟩ := ok.w (i / 64) (by omega)
 have q1 := (quo64 i).resolve_right (by omega)
 have q2 := rem64 i
 have q3 := aP_ixa 1 b 2 64 .i64 ((i / 64 : Nat) : Int) (by omega) (by omega)
 have q4 : hload1 h b (2 + (i / 64) * 1) = some (.int .u64 (x : Int)) := by rw [o.ld1, Nat.mul_one, flc_nth, e1]; rfl
 have q5 := aP_shrN .i64 x ((i % 64 : Nat) : Int) (i % 64) rfl (by omega)
 have q6 := aP_andN (x / 2 ^ (i % 64)) 1 _ 1 rfl rfl (Nat.lt_of_le_of_lt (Nat.div_le_self _ _) e2) (by omega)
 simp only [Int.toNat_natCast] at q3
 refine does_fn g211 rfl ?_
 simp only [fn211, W_ret, W_seq, W_ops, thenQ_norm, WS_nil, WS_l, WS_v, op_p, PQ_some, VQ_some, op_ld, LQ_some, aload_ptr1, kl_app, kv_app, evO_l, evO_v, evO_c, evOs_nil, evOs_c, consO_some, nth_zero, nth_succ, bindA_nil, bindA_cons, T.gs, RetQ_ret, RsQ_some, evRs_nil, evRs_t, packV_one, aP_mv, aP_nilck, aP_faddr, aP_eql, ↓reduceIte, Nat.reduceEqDiff, Nat.reduceAdd, Nat.zero_add, q1, q2, q3, q4, q5, q6, bitN]
 rw [e3 (i % 64) (by omega), show 64 * (i / 64) + i % 64 = i by omega]
 exact ⟨rfl, trivial⟩
theorem count_set : ∀ (bs : List Bool) (i : Nat) (v : Bool), i < bs.length → bs.getD i false ≠ v → ((bs.set i v).count true : Int) = bs.count true + if v = true then 1 else -1
 | b :: bs, 0, v, _, h => by cases b <;> cases v <;> simp at h ⊢ <;> omega
 | b :: bs, i + 1, v, hi, h => by
  have ih := count_set bs i v (by simpa using hi) (by simpa using h)
  simp only [List.set_cons_succ, List.count_cons]
  split at ih <;> simp_all <;> split <;> omega
theorem set_same : ∀ (bs : List Bool) (i : Nat), bs.set i (bs.getD i false) = bs
 | [], _ => rfl
 | b :: bs, 0 => by simp
 | b :: bs, i + 1 => by have := set_same bs i; simp at this ⊢; exact this
theorem WOK.flip {ws : List Nat} {bs : List Bool} (ok : WOK ws bs) {i x : Nat} {v : Bool} (hi : i < bs.length) (h4 : bs.length ≤ 4096) (hx : ws[i / 64]? = some x) (hv : bs.getD i false ≠ v) : WOK (ws.set (i / 64) (x ^^^ 2 ^ (i % 64))) (bs.set i v) := by
 refine ⟨by rw [List.length_set]; exact ok.len, fun k hk => ?_⟩
 obtain ⟨y, e1, e2, e3⟩ := ok.w k hk
 by_cases c : k = i / 64
 · subst c
   rw [hx] at e1; cases e1
   refine ⟨x ^^^ 2 ^ (i % 64), by simp [ok.len, hk], ?_, fun j hj => ?_⟩
   · have := Nat.xor_lt_two_pow (n := 64) (x := x) (y := 2 ^ (i % 64)) (by simpa using e2) (Nat.pow_lt_pow_right (by omega) (by omega))
     simpa using this
   · rw [Nat.testBit_xor, Nat.testBit_two_pow, e3 j hj, getD_set hi]
     by_cases cj : i % 64 = j
     · rw [if_pos (by omega)]
       have : 64 * (i / 64) + j = i := by omega
       rw [this]
       simp only [cj, decide_true]
       cases h1 : bs.getD i false <;> cases v <;> simp_all
     · rw [if_neg (by omega)]; simp [cj]
 · refine ⟨y, by rw [List.getElem?_set_ne (Ne.symm c)]; exact e1, e2, fun j hj => ?_⟩
   rw [e3 j hj, getD_set hi, if_neg (by omega)]
theorem flc_set (n m : Int) (ws : List Nat) (k y : Nat) : (flc n m ws).set (2 + k) (.int .u64 (y : Int)) = flc n m (ws.set k y) := by
 rw [Nat.add_comm]; simp [flc, List.map_set, uw]
theorem flc_len (n m : Int) (ws : List Nat) : (flc n m ws).length = ws.length + 2 := by simp [flc]
theorem updO_nilv (l : List V) : updO l 0 [] = some l := by cases l <;> rfl
theorem flc_upd1 (n m m' : Int) (ws : List Nat) : updO (flc n m ws) 1 [.int .i64 m'] = some (flc n m' ws) := by
 show updO (.int .i64 n :: .int .i64 m :: ws.map uw) (0 + 1) [.int .i64 m'] = _
 rw [updO_succ, updO_zero_cons, updO_nilv]; rfl
theorem flc_upd0 (n n' m : Int) (ws : List Nat) : updO (flc n m ws) 0 [.int .i64 n'] = some (flc n' m ws) := by
 show updO (.int .i64 n :: .int .i64 m :: ws.map uw) 0 [.int .i64 n'] = _
 rw [updO_zero_cons, updO_nilv]; rfl
theorem one_shl (k : IntKind) (j : Nat) (hj : j < 64) : aP (.sh true) [.int .u64 1, .int k (j : Int)] = some (.int .u64 ((2 ^ j : Nat) : Int)) := by
 have h2 : 2 ^ j < 2 ^ 64 := Nat.pow_lt_pow_right (by omega) hj
 rw [aP_shl _ _ _ _ (by omega)]
 simp only [Int.toNat_natCast, IntKind.bits, Nat.min_eq_left (show j ≤ 64 by omega), Int.one_mul]
 rw [fwrap_u64 _ (Int.natCast_nonneg _) (Int.ofNat_le.2 (Nat.le_of_lt_succ (by simpa using h2)))]
theorem fput_ok {h : Heap} {b : Nat} {bs : List Bool} {i : Nat} {v : Bool} (w : WF h) (f : Fl h b bs) (hi : i < bs.length) : Does go 212 [.ptr b 0, .int .i64 (i : Int), .bool v] h fun u h' => u = .tup [] ∧ Fl h' b (bs.set i v) ∧ Fr [b] h h' ∧ h'.next = h.next := by
 have f0 := f
 obtain ⟨ws, o, ok, hn⟩ := f
 obtain ⟨x, e1, e2, e3⟩ := ok.w (i / 64) (by omega)
 have q1 := (quo64 i).resolve_right (by omega)
 have q2 := rem64 i
 have q3 := aP_ixa 1 b 2 64 .i64 ((i / 64 : Nat) : Int) (by omega) (by omega)
 simp only [Int.toNat_natCast, Nat.mul_one] at q3
 have q4 : hload1 h b (2 + i / 64) = some (.int .u64 (x : Int)) := by rw [o.ld1, flc_nth, e1]; rfl
 have q5 := one_shl .i64 (i % 64) (by omega)
 have h2 : 2 ^ (i % 64) < 2 ^ 64 := Nat.pow_lt_pow_right (by omega) (by omega)
 have q6 := aP_xorN x (2 ^ (i % 64)) _ _ rfl rfl e2 (by simpa using h2)
 have cnt_le : bs.count true ≤ bs.length := List.count_le_length
 refine does_fn g212 rfl ?_
 simp only [fn212, evs, ↓reduceIte, Nat.reduceEqDiff, Nat.reduceAdd]
 refine OQ_does (get_ok f0 hi) ?_
 rintro _ _ ⟨rfl, hh⟩
 subst hh
 by_cases hv : bs.getD i false = v
 · simp only [evs, ↓reduceIte, eq_true hv]
   rw [← hv, set_same]
   exact ⟨f0, Fr.refl w⟩
 · simp only [evs, ↓reduceIte, Nat.reduceEqDiff, eff, eq_false hv, q1, q2, q3, q4, q5, q6]
   refine store_step (c' := flc bs.length (bs.count true) (ws.set (i / 64) (x ^^^ 2 ^ (i % 64)))) w o rfl rfl ?_ ?_
   · rw [show V.cells (.int .u64 ((x ^^^ 2 ^ (i % 64) : Nat) : Int)) = [.int .u64 ((x ^^^ 2 ^ (i % 64) : Nat) : Int)] from rfl, updO_set1 _ _ _ (by rw [flc_len, ok.len]; omega), flc_set]
   rintro h1 o1 F1 n1
   have cs := count_set bs i v hi hv
   have okf := ok.flip hi hn e1 hv
   have ln : ((bs.set i v).length : Int) = bs.length := by simp
   cases v
   · simp (disch := omega) only [evs, ↓reduceIte, Nat.reduceEqDiff, Nat.reduceAdd, DF, Nat.reduceSub, fwrap_i64, q4, o1.ld1, flc]
     refine store_step (c' := flc bs.length ((bs.count true : Int) - 1) (ws.set (i / 64) (x ^^^ 2 ^ (i % 64)))) F1.wf o1 rfl rfl (flc_upd1 _ _ _ _) ?_
     rintro h2 o2 F2 n2
     simp only [evs]
     simp only [Bool.false_eq_true, if_false] at cs
     refine ⟨⟨_, by rw [ln, cs, show (bs.count true : Int) + -1 = bs.count true - 1 by omega]; exact o2, okf, by simpa using hn⟩, F1.trans F2 w (fun x hx => .inl hx) (fun x hx => .inl hx), n2.trans n1⟩
   · simp (disch := omega) only [evs, ↓reduceIte, Nat.reduceEqDiff, Nat.reduceAdd, DF, Nat.reduceSub, fwrap_i64, q4, o1.ld1, flc]
     refine store_step (c' := flc bs.length ((bs.count true : Int) + 1) (ws.set (i / 64) (x ^^^ 2 ^ (i % 64)))) F1.wf o1 rfl rfl (flc_upd1 _ _ _ _) ?_
     rintro h2 o2 F2 n2
     simp only [evs]
     simp only [if_true] at cs
     refine ⟨⟨_, by rw [ln, cs]; exact o2, okf, by simpa using hn⟩, F1.trans F2 w (fun x hx => .inl hx) (fun x hx => .inl hx), n2.trans n1⟩
def fchk (n : Nat) (a k : Int) : Int := if a < 0 ∨ k < 0 ∨ n < a ∨ n - a < k then 4 else 0
theorem fcheck_ok {h : Heap} {b : Nat} {bs : List Bool} {a k : Int} (f : Fl h b bs) (a0 : -9223372036854775808 ≤ a) (a1 : a ≤ 9223372036854775807) : Does go 150 [.ptr b 0, .int .i64 a, .int .i64 k] h fun u h' => u = .int .i64 (fchk bs.length a k) ∧ h' = h := by
 obtain ⟨ws, o, ok, hn⟩ := f
 have q : hload1 h b 0 = some (.int .i64 (bs.length : Int)) := o.ld1 0
 unfold fchk
 by_cases c1 : a < 0
 · refine does_fn g150 rfl ?_
   simp only [fn150, evs, ↓reduceIte, Nat.reduceEqDiff, Nat.reduceAdd, c1]
   simp
 · by_cases c2 : k < 0
   · refine does_fn g150 rfl ?_
     simp only [fn150, evs, ↓reduceIte, Nat.reduceEqDiff, Nat.reduceAdd, c1, c2]
     simp
   · by_cases c3 : (bs.length : Int) < a
     · refine does_fn g150 rfl ?_
       simp only [fn150, evs, ↓reduceIte, Nat.reduceEqDiff, Nat.reduceAdd, q, c1, c2, c3]
       simp
     · by_cases c4 : (bs.length : Int) - a < k
       · refine does_fn g150 rfl ?_
         simp (disch := omega) only [fn150, evs, ↓reduceIte, Nat.reduceEqDiff, Nat.reduceAdd, fwrap_i64, q, c1, c2, c3, c4]
         simp
       · refine does_fn g150 rfl ?_
         simp (disch := omega) only [fn150, evs, ↓reduceIte, Nat.reduceEqDiff, Nat.reduceAdd, fwrap_i64, q, c1, c2, c3, c4]
         simp
theorem fSet_ok {h : Heap} {b : Nat} {bs : List Bool} {i : Int} {v : Bool} (w : WF h) (f : Fl h b bs) (a0 : -9223372036854775808 ≤ i) (a1 : i ≤ 9223372036854775807) : Does go 178 [.ptr b 0, .int .i64 i, .bool v] h fun u h' =>
 (u = .int .i64 (if 0 ≤ i ∧ i < bs.length then 0 else 4)) ∧ Fl h' b (if 0 ≤ i ∧ i < bs.length then bs.set i.toNat v else bs) ∧ Fr [b] h h' ∧ h'.next = h.next := by
 refine does_fn g178 rfl ?_
 simp only [fn178, evs, ↓reduceIte, Nat.reduceEqDiff, Nat.reduceAdd]
 refine OQ_does (fcheck_ok f a0 a1) ?_
 rintro _ _ ⟨rfl, hh⟩
 subst hh
 by_cases c : 0 ≤ i ∧ i < bs.length
 · have e : fchk bs.length i 1 = 0 := by unfold fchk; rw [if_neg (by omega)]
   obtain ⟨j, rfl⟩ : ∃ j : Nat, i = j := ⟨i.toNat, by omega⟩
   rw [e, if_pos c, if_pos c]
   simp only [evs, ↓reduceIte, Nat.reduceEqDiff]
   refine OQ_does (fput_ok w f (by omega)) ?_
   rintro _ h1 ⟨rfl, f1, F1, n1⟩
   simp only [evs, ↓reduceIte, Int.toNat_natCast]
   exact ⟨f1, F1, n1⟩
 · have e : fchk bs.length i 1 = 4 := by unfold fchk; rw [if_pos (by omega)]
   rw [e, if_neg c, if_neg c]
   simp only [evs, ↓reduceIte, Nat.reduceEqDiff, show ¬ (4 : Int) = 0 by omega]
   exact ⟨f, Fr.refl w⟩
theorem zeroF (h : Heap) : WOK (List.replicate 64 0) [] := ⟨by simp, fun k hk => ⟨0, by rw [List.getElem?_replicate, if_pos hk], by omega, fun j _ => by simp⟩⟩
theorem fNew_ok {h : Heap} (w : WF h) : Does go 224 [.int .i64 0] h fun u h' => ∃ b, u = .tup [.ptr b 0, .int .i64 0] ∧ h.next ≤ b ∧ Fl h' b [] ∧ Fr [] h h' := by
 refine does_fn g224 rfl ?_
 simp only [fn224, evs, ↓reduceIte, Nat.reduceEqDiff, show ¬ (0 : Int) < 0 by omega, show ¬ (4096 : Int) < 0 by omega]
 exact ⟨_, rfl, Nat.le_refl _, ⟨List.replicate 64 0, Own.new w _, zeroF h, by simp⟩, Fr.halloc w _⟩
theorem Sl.frb {h h' : Heap} {esz : Nat} {v : V} {n : Nat} {cs : List V} {b : Nat} {c c' : List V} (a : Sl h esz v n cs) (f : Fr [b] h h') (o : Own h b c) (o' : Own h' b c') (hl : c'.length = c.length) (hd : cs ≠ [] → ∃ x ∈ cs, x ∉ c) : Sl h' esz v n cs := by
 obtain ⟨e1, e2⟩ := a
 have main : ∀ (bb oo : Nat), (∃ d, Own h bb d ∧ oo + n * esz ≤ d.length ∧ cs = (d.drop oo).take (n * esz)) → ∃ d, Own h' bb d ∧ oo + n * esz ≤ d.length ∧ cs = (d.drop oo).take (n * esz) := by
  rintro bb oo ⟨d, od, h1, h2⟩
  by_cases e : bb = b
  · subst e
    have := od.uniq o
    subst this
    by_cases hL : cs = []
    · subst hL
      have : n * esz = 0 := by simpa using e1.symm
      exact ⟨c', o', by omega, by simp [this]⟩
    · obtain ⟨x, hx, hn⟩ := hd hL
      rw [h2] at hx
      exact absurd (List.mem_of_mem_drop (List.mem_of_mem_take hx)) hn
  · exact ⟨d, f.own _ _ (by simpa using e) od, h1, h2⟩
 refine ⟨e1, ?_⟩
 cases v with
 | slice bb oo len cap => obtain ⟨x1, x2, x3⟩ := e2; exact ⟨x1, x2, main bb oo x3⟩
 | sliceU bb oo len cap => obtain ⟨x1, x2, x3⟩ := e2; exact ⟨x1, x2, main bb oo x3⟩
 | _ => exact e2
theorem Bools.frb {h h' : Heap} {v : V} {bs : List Bool} {b : Nat} {n m n' m' : Int} {ws ws' : List Nat} (a : Bools h v bs) (f : Fr [b] h h') (o : Own h b (flc n m ws)) (o' : Own h' b (flc n' m' ws')) (hl : ws'.length = ws.length) : Bools h' v bs := by
 refine Sl.frb a f o o' (by simp [flc_len, hl]) fun hne => ?_
 cases bs with
 | nil => simp at hne
 | cons x bs => exact ⟨.bool x, by simp, by simp [flc, uw]⟩
theorem set_mid (bs : List Bool) (i : Nat) (x : Bool) (h : bs[i]? = some x) : ((bs.take i).map V.bool ++ List.replicate (bs.length - i) (V.bool false)).set i (V.bool x) = (bs.take (i + 1)).map V.bool ++ List.replicate (bs.length - (i + 1)) (V.bool false) := by
 have hi : i < bs.length := by
  rcases Nat.lt_or_ge i bs.length with y | y
  · exact y
  · rw [List.getElem?_eq_none y] at h; cases h
 have hl : ((bs.take i).map V.bool).length = i := by simp; omega
 rw [List.set_append, if_neg (by omega), hl, Nat.sub_self, show bs.length - i = (bs.length - (i + 1)) + 1 by omega, List.replicate_succ, List.set_cons_zero, List.take_add_one, h]
 simp
theorem flist_ok {h : Heap} {b : Nat} {bs : List Bool} (w : WF h) (f : Fl h b bs) : Does go 151 [.ptr b 0] h fun u h' => Bools h' u bs ∧ (∃ c, u = .slice c 0 bs.length bs.length ∧ h.next ≤ c) ∧ Fr [] h h' := by
 have f0 := f
 obtain ⟨ws, o, ok, hn⟩ := f
 have q : hload1 h b 0 = some (.int .i64 (bs.length : Int)) := o.ld1 0
 refine does_fn g151 rfl ?_
 simp only [fn151, evs, ↓reduceIte, Nat.reduceEqDiff, q]
 refine (amake_ok _ _ _ _ _ _ _ _ (by omega) (by omega) (by omega) (by omega)).2 ?_
 simp only [Int.toNat_natCast]
 rw [repL_one]
 obtain ⟨h1, e_h1⟩ : ∃ h1, h1 = halloc h (List.replicate bs.length (.bool false)) := ⟨_, rfl⟩
 have F_h1 : Fr [] h h1 := e_h1 ▸ Fr.halloc w _
 have o_h1 : Own h1 h.next (List.replicate bs.length (.bool false)) := e_h1 ▸ Own.new w _
 simp only [evs, ↓reduceIte, ← e_h1]
 refine W_loop (fun k env hh => ∃ i : Nat, env.get 12 = some (.int .i64 i) ∧ env.get 11 = some (.int .i64 bs.length) ∧ env.get 3 = some (.slice h.next 0 bs.length bs.length) ∧ env.get 0 = some (.ptr b 0) ∧ i ≤ bs.length ∧ Fr [] h hh ∧
  Own hh h.next ((bs.take i).map V.bool ++ List.replicate (bs.length - i) (.bool false)) ∧ k = bs.length - i) bs.length (by omega) ?_ ?_
 · exact ⟨0, (by simp [T.gs]), (by simp [T.gs]), (by simp [T.gs]), (by simp [T.gs]), by omega, F_h1, by simpa using o_h1, rfl⟩
 · rintro k env hh ⟨i, g12, g11, g3, g0, hi, F, oo, rfl⟩
   by_cases hlt : (i : Int) < bs.length
   · have ei : bs[i]? = some (bs.getD i false) := by simp [List.getD, show i < bs.length by omega]
     simp only [evs, ↓reduceIte, Nat.reduceEqDiff, g12, g11, g0, hlt]
     refine OQ_does (get_ok (f0.fr F) (by omega)) ?_
     rintro _ _ ⟨rfl, hh'⟩
     subst hh'
     have ix := aP_ixS 1 h.next 0 bs.length bs.length .i64 i (by omega) hlt
     simp only [Int.toNat_natCast, Nat.mul_one, Nat.zero_add] at ix
     simp only [evs, ↓reduceIte, Nat.reduceEqDiff, g3, ix]
     refine store_step (c' := (bs.take (i + 1)).map V.bool ++ List.replicate (bs.length - (i + 1)) (.bool false)) F.wf oo rfl rfl ?_ ?_
     · show updO _ i [.bool (bs.getD i false)] = _
       rw [updO_set1 _ _ _ (by simp; omega), set_mid bs i _ ei]
     rintro h2 o2 F2 n2
     simp (disch := omega) only [evs, ↓reduceIte, Nat.reduceEqDiff, fwrap_i64, g12]
     refine (roundQ_norm _ _ _).2 ⟨bs.length - (i + 1), by omega, i + 1, (by simp [T.gs]), (by simp [T.gs, g11]), (by simp [T.gs, g3]), (by simp [T.gs, g0]), by omega, F.fresh F2 w (Nat.le_refl _), o2, rfl⟩
     done
   · simp only [evs, ↓reduceIte, Nat.reduceEqDiff, g12, g11, g3, hlt]
     have : i = bs.length := by omega
     subst this
     simp only [List.take_length, Nat.sub_self, List.replicate_zero, List.append_nil] at oo
     exact ⟨Sl.lit oo (by simp), ⟨_, rfl, Nat.le_refl _⟩, F⟩
theorem rep_set (B : List Bool) (k : Nat) (x : Bool) (h : B[k]? = some x) : (B.take k ++ List.replicate (B.length - k) false).set k x = B.take (k + 1) ++ List.replicate (B.length - (k + 1)) false := by
 have hi : k < B.length := by
  rcases Nat.lt_or_ge k B.length with y | y
  · exact y
  · rw [List.getElem?_eq_none y] at h; cases h
 have hl : (B.take k).length = k := by simp; omega
 rw [List.set_append, if_neg (by omega), hl, Nat.sub_self, show B.length - k = (B.length - (k + 1)) + 1 by omega, List.replicate_succ, List.set_cons_zero, List.take_add_one, h]
 simp
theorem Fl.falses {h : Heap} {b N : Nat} (o : Own h b (flc N 0 (List.replicate 64 0))) (hN : N ≤ 4096) : Fl h b (List.replicate N false) := by
 refine ⟨List.replicate 64 0, by simpa [List.count_replicate] using o, ⟨by simp, fun k hk => ⟨0, by rw [List.getElem?_replicate, if_pos hk], by omega, fun j _ => ?_⟩⟩, by simpa using hN⟩
 simp only [Nat.zero_testBit, List.getD_eq_getElem?_getD, List.getElem?_replicate]
 split <;> rfl
theorem Bools.noint {h : Heap} {v : V} {bs : List Bool} (a : Bools h v bs) : ∀ k n, v ≠ .int k n := by
 rintro k n rfl
 exact a.2
theorem become_ok {h : Heap} {b : Nat} {bs0 : List Bool} {vl : V} {Ls : List (V × List Bool)} (w : WF h) (f : Fl h b bs0) (a : Vals Prod.fst h vl Ls) (al : ∀ p ∈ Ls, Bools h p.1 p.2) (hN : (Ls.flatMap Prod.snd).length ≤ 4096) (hl : Ls.length ≤ 100) :
 Does go 152 [.ptr b 0, vl] h fun u h' => u = .tup [] ∧ Fl h' b (Ls.flatMap Prod.snd) ∧ Fr [b] h h' := by
 obtain ⟨ws, o, ok, hn⟩ := f
 obtain ⟨B, hB⟩ : ∃ B, B = Ls.flatMap Prod.snd := ⟨_, rfl⟩
 rw [← hB] at hN ⊢
 have stay : ∀ {hh : Heap} {n' m' : Int} {ws' : List Nat}, Fr [b] h hh → Own hh b (flc n' m' ws') → ws'.length = 64 → Vals Prod.fst hh vl Ls ∧ ∀ p ∈ Ls, Bools hh p.1 p.2 := by
  intro hh n' m' ws' F o' hl'
  refine ⟨Sl.frb a F o o' (by rw [flc_len, flc_len, hl', ok.len]) fun hne => ?_, fun p hp => Bools.frb (al p hp) F o o' (by rw [hl', ok.len])⟩
  cases Ls with
  | nil => simp at hne
  | cons p Ls =>
   refine ⟨p.1, by simp, ?_⟩
   have := (al p (by simp)).noint
   simp only [flc, List.mem_cons, List.mem_map, not_or, not_exists, not_and]
   exact ⟨this _ _, this _ _, fun x _ hx => this _ _ hx.symm⟩
 have stayF : ∀ {hh : Heap} {bs : List Bool}, Fr [b] h hh → Fl hh b bs → Vals Prod.fst hh vl Ls ∧ ∀ p ∈ Ls, Bools hh p.1 p.2 := fun F ⟨_, o', ok', _⟩ => stay F o' ok'.len
 refine does_fn g152 rfl ?_
 simp only [fn152, evs, ↓reduceIte, Nat.reduceAdd]
 refine store_step (c' := flc 0 0 (List.replicate 64 0)) w o rfl rfl ?_ ?_
 · rw [updO_at _ _ _ (by rw [flc_len, ok.len]; simp [V.cells])]
   simp only [List.take_zero, List.nil_append, V.cells]
   rw [List.drop_of_length_le (by rw [flc_len, ok.len]; simp)]
   rfl
 rintro h1 o1 F1 n1
 obtain ⟨a1, al1⟩ := stay F1 o1 (by simp)
 simp only [evs, ↓reduceIte, a1.len]
 refine W_loop (fun k env hh => ∃ i : Nat, env.get 16 = some (.int .i64 i) ∧ env.get 15 = some (.int .i64 Ls.length) ∧ env.get 14 = some vl ∧ env.get 0 = some (.ptr b 0) ∧ env.get 1 = some vl ∧ i ≤ Ls.length ∧ Fr [b] h hh ∧
  Own hh b (flc ((Ls.take i).flatMap Prod.snd).length 0 (List.replicate 64 0)) ∧ k = Ls.length - i) Ls.length (by omega) ?_ ?_
 · exact ⟨0, (by simp [T.gs]), (by simp [T.gs]), (by simp [T.gs]), (by simp [T.gs]), (by simp [T.gs]), by omega, F1, by simpa using o1, rfl⟩
 rintro k env hh ⟨i, g16, g15, g14, g0, g1, hi, F, oo, rfl⟩
 obtain ⟨a2, al2⟩ := stay F oo (by simp)
 by_cases hlt : (i : Int) < Ls.length
 · obtain ⟨bb, po, p, e1, e2, e3⟩ := a2.ix .i64 i (by omega) hlt
   simp only [Int.toNat_natCast] at e3
   have lp := al2 p (List.mem_of_getElem? e3)
   have tk : (Ls.take (i + 1)).flatMap Prod.snd = (Ls.take i).flatMap Prod.snd ++ p.2 := by rw [List.take_add_one, e3]; simp
   have hle : ((Ls.take (i + 1)).flatMap Prod.snd).length ≤ B.length := by
    rw [hB]
    conv => rhs; rw [← List.take_append_drop (i + 1) Ls]
    rw [List.flatMap_append, List.length_append]; omega
   rw [tk, List.length_append] at hle
   simp (disch := omega) only [evs, ↓reduceIte, Nat.reduceEqDiff, fwrap_i64, g16, g15, g14, g0, hlt, e1, e2, oo.ld1, flc, lp.len]
   refine store_step (c' := flc ((Ls.take (i + 1)).flatMap Prod.snd).length 0 (List.replicate 64 0)) F.wf oo rfl rfl ?_ ?_
   · rw [tk, List.length_append, Int.natCast_add]
     exact flc_upd0 _ _ _ _
   rintro h2 o2 F2 n2
   simp (disch := omega) only [evs, ↓reduceIte, Nat.reduceEqDiff, fwrap_i64, g16]
   refine (roundQ_norm _ _ _).2 ⟨Ls.length - (i + 1), by omega, i + 1, (by simp [T.gs]), (by simp [T.gs, g15]), (by simp [T.gs, g14]), (by simp [T.gs, g0]), (by simp [T.gs, g1]), by omega, F.trans F2 w (fun x hx => .inl hx) (fun x hx => .inl hx), o2, rfl⟩
   done
 · have : i = Ls.length := by omega
   subst this
   rw [List.take_length, ← hB] at oo
   have fl0 := Fl.falses oo hN
   simp only [evs, ↓reduceIte, Nat.reduceEqDiff, g16, g15, g1, hlt, a2.len]
   refine W_loop (fun k env hh => ∃ j : Nat, env.get 32 = some (.int .i64 j) ∧ env.get 31 = some (.int .i64 Ls.length) ∧ env.get 30 = some vl ∧ env.get 0 = some (.ptr b 0) ∧
    env.get 6 = some (.int .i64 ((Ls.take j).flatMap Prod.snd).length) ∧ j ≤ Ls.length ∧ Fr [b] h hh ∧ Fl hh b (B.take ((Ls.take j).flatMap Prod.snd).length ++ List.replicate (B.length - ((Ls.take j).flatMap Prod.snd).length) false) ∧ k = Ls.length - j) Ls.length (by omega) ?_ ?_
   · exact ⟨0, (by simp [T.gs]), (by simp [T.gs]), (by simp [T.gs]), (by simp [T.gs, g0]), (by simp [T.gs]), by omega, F, by simpa using fl0, rfl⟩
   rintro k env hh ⟨j, g32, g31, g30, g0, g6, hj, F, fj, rfl⟩
   obtain ⟨a3, al3⟩ := stayF F fj
   by_cases hlt : (j : Int) < Ls.length
   · obtain ⟨bb, po, p, e1, e2, e3⟩ := a3.ix .i64 j (by omega) hlt
     simp only [Int.toNat_natCast] at e3
     have lp := al3 p (List.mem_of_getElem? e3)
     obtain ⟨K, hK⟩ : ∃ K, K = ((Ls.take j).flatMap Prod.snd).length := ⟨_, rfl⟩
     rw [← hK] at g6 fj
     have tk : ((Ls.take (j + 1)).flatMap Prod.snd).length = K + p.2.length := by rw [List.take_add_one, e3, hK]; simp
     have eB : B = (Ls.take j).flatMap Prod.snd ++ (p.2 ++ (Ls.drop (j + 1)).flatMap Prod.snd) := by
      rw [hB]
      conv => lhs; rw [← List.take_append_drop j Ls, drop_cons e3]
      rw [List.flatMap_append, List.flatMap_cons]
     have lB : K + p.2.length ≤ B.length := by rw [eB, List.length_append, List.length_append]; omega
     have nB : ∀ q, q < p.2.length → B[K + q]? = p.2[q]? := fun q hq => by
      rw [eB, List.getElem?_append_right (by omega), List.getElem?_append_left (by omega)]; congr 1; omega
     simp only [evs, ↓reduceIte, Nat.reduceEqDiff, g32, g31, g30, hlt, e1, e2, lp.len]
     refine W_loop (fun k env' hh => (∀ s, s = 32 ∨ s = 31 ∨ s = 30 ∨ s = 0 → env'.get s = env.get s) ∧ ∃ q : Nat, env'.get 38 = some (.int .i64 q) ∧ env'.get 37 = some (.int .i64 p.2.length) ∧ env'.get 36 = some p.1 ∧ env'.get 6 = some (.int .i64 ((K + q : Nat) : Int)) ∧ q ≤ p.2.length ∧ Fr [b] h hh ∧
      Fl hh b (B.take (K + q) ++ List.replicate (B.length - (K + q)) false) ∧ k = p.2.length - q) p.2.length (by omega) ?_ ?_
     · exact ⟨fun s hs => by rcases hs with rfl | rfl | rfl | rfl <;> simp [T.gs], 0, (by simp [T.gs]), (by simp [T.gs]), (by simp [T.gs]), (by simp [T.gs, g6]), by omega, F, by simpa using fj, rfl⟩
     rintro k env1 hh ⟨same, q, g38, g37, g36, g6', hq, F, fq, rfl⟩
     have n32 := (same 32 (by simp)).trans g32
     have n31 := (same 31 (by simp)).trans g31
     have n30 := (same 30 (by simp)).trans g30
     have n0 := (same 0 (by simp)).trans g0
     obtain ⟨a4, al4⟩ := stayF F fq
     have lp4 := al4 p (List.mem_of_getElem? e3)
     by_cases hlt2 : (q : Int) < p.2.length
     · obtain ⟨b5, p5, x, d1, d2, d3⟩ := lp4.ix .i64 q (by omega) hlt2
       simp only [Int.toNat_natCast] at d3
       simp only [evs, ↓reduceIte, Nat.reduceEqDiff, n0, g38, g37, g36, g6', hlt2, d1, d2]
       refine OQ_does (fput_ok F.wf fq (by simp; omega)) ?_
       rintro _ h5 ⟨rfl, f5, F5, n5⟩
       rw [rep_set B (K + q) x ((nB q (by omega)).trans d3)] at f5
       simp (disch := omega) only [evs, ↓reduceIte, Nat.reduceEqDiff, fwrap_i64, g38, g6']
       refine (roundQ_norm _ _ _).2 ⟨p.2.length - (q + 1), by omega, fun s hs => by rcases hs with rfl | rfl | rfl | rfl <;> simp [T.gs, n32, n31, n30, n0, g32, g31, g30, g0], q + 1, (by simp [T.gs]), (by simp [T.gs, g37]), (by simp [T.gs, g36]), (by simp [T.gs]; omega), by omega, F.trans F5 w (fun x hx => .inl hx) (fun x hx => .inl hx), f5, rfl⟩
       done
     · have : q = p.2.length := by omega
       subst this
       simp (disch := omega) only [evs, ↓reduceIte, Nat.reduceEqDiff, fwrap_i64, n32, g38, g37, hlt2]
       refine (roundQ_norm _ _ _).2 ⟨Ls.length - (j + 1), by omega, j + 1, (by simp [T.gs]), (by simp [T.gs, n31]), (by simp [T.gs, n30]), (by simp [T.gs, n0]), (by simp [T.gs, g6', tk]), by omega, F, by rw [tk]; exact fq, rfl⟩
       done
   · have : j = Ls.length := by omega
     subst this
     rw [List.take_length, ← hB] at fj
     simp only [List.take_length, Nat.sub_self, List.replicate_zero, List.append_nil] at fj
     simp only [evs, ↓reduceIte, g32, g31, hlt]
     exact ⟨fj, F⟩
theorem rep_set' (n i : Nat) (v : Bool) (hi : i < n) : ((List.replicate i v).map V.bool ++ List.replicate (n - i) (V.bool false)).set i (V.bool v) = (List.replicate (i + 1) v).map V.bool ++ List.replicate (n - (i + 1)) (V.bool false) := by
 have hl : ((List.replicate i v).map V.bool).length = i := by simp
 rw [List.set_append, if_neg (by omega), hl, Nat.sub_self, show n - i = (n - (i + 1)) + 1 by omega, List.replicate_succ, List.set_cons_zero, List.replicate_succ']
 simp
theorem Vals.one {α : Type} {f : α → V} {h : Heap} {v : V} {l : List α} (a : Vals f h v l) : v.one = true := Sl.one a
theorem fIns_ok {h : Heap} {b : Nat} {bs : List Bool} {a n : Nat} {v : Bool} (w : WF h) (f : Fl h b bs) (ha : a ≤ bs.length) (hn : n + bs.length ≤ 4096) :
 Does go 225 [.ptr b 0, .int .i64 (a : Int), .int .i64 (n : Int), .bool v] h fun u h' => u = .int .i64 0 ∧ Fl h' b (bs.take a ++ List.replicate n v ++ bs.drop a) ∧ Fr [b] h h' := by
 have f0 := f
 obtain ⟨ws, o, ok, hn0⟩ := f
 have q : hload1 h b 0 = some (.int .i64 (bs.length : Int)) := o.ld1 0
 refine does_fn g225 rfl ?_
 simp only [fn225, evs, ↓reduceIte, Nat.reduceEqDiff, Nat.reduceAdd]
 refine OQ_does (fcheck_ok f0 (by omega) (by omega)) ?_
 rintro _ _ ⟨rfl, hh⟩
 replace hh := hh.symm
 subst hh
 have e : fchk bs.length a 0 = 0 := by unfold fchk; rw [if_neg (by omega)]
 rw [e]
 simp (disch := omega) only [evs, ↓reduceIte, Nat.reduceEqDiff, fwrap_i64, show ¬ (n : Int) < 0 by omega, q, show ¬ 4096 - (bs.length : Int) < n by omega]
 refine (amake_ok _ _ _ _ _ _ _ _ (by omega) (by omega) (by omega) (by omega)).2 ?_
 simp only [Int.toNat_natCast]
 rw [repL_one]
 obtain ⟨h0, e0⟩ : ∃ h0, h0 = h := ⟨h, rfl⟩
 subst e0
 obtain ⟨h1, e_h1⟩ : ∃ h1, h1 = halloc h0 (List.replicate n (V.bool false)) := ⟨_, rfl⟩
 have F_h1 : Fr [] h0 h1 := e_h1 ▸ Fr.halloc w _
 have o_h1 : Own h1 h0.next (List.replicate n (V.bool false)) := e_h1 ▸ Own.new w _
 rw [← e_h1]
 simp only [evs, ↓reduceIte]
 refine W_loop (fun k env hh => ∃ i : Nat, env.get 34 = some (.int .i64 i) ∧ env.get 33 = some (.int .i64 n) ∧ env.get 10 = some (.slice h0.next 0 n n) ∧ env.get 0 = some (.ptr b 0) ∧ env.get 1 = some (.int .i64 a) ∧ env.get 3 = some (.bool v) ∧ i ≤ n ∧ Fr [] h0 hh ∧
  Own hh h0.next ((List.replicate i v).map V.bool ++ List.replicate (n - i) (V.bool false)) ∧ k = n - i) n (by omega) ?_ ?_
 · exact ⟨0, (by simp [T.gs]), (by simp [T.gs]), (by simp [T.gs]), (by simp [T.gs]), (by simp [T.gs]), (by simp [T.gs]), by omega, F_h1, by simpa using o_h1, rfl⟩
 · rintro k env hh ⟨i, g34, g33, g10, g0, g1, g3, hi, F, oo, rfl⟩
   by_cases hlt : (i : Int) < n
   · have ix := aP_ixS 1 h0.next 0 n n .i64 i (by omega) hlt
     simp only [Int.toNat_natCast, Nat.mul_one, Nat.zero_add] at ix
     simp only [evs, ↓reduceIte, Nat.reduceEqDiff, g34, g33, g10, g3, hlt, ix]
     refine store_step (c' := (List.replicate (i + 1) v).map V.bool ++ List.replicate (n - (i + 1)) (V.bool false)) F.wf oo rfl rfl ?_ ?_
     · show updO _ i [.bool v] = _
       rw [updO_set1 _ _ _ (by simp; omega), rep_set' _ _ _ (by omega)]
     rintro h2 o2 F2 n2
     simp (disch := omega) only [evs, ↓reduceIte, Nat.reduceEqDiff, fwrap_i64, g34]
     refine (roundQ_norm _ _ _).2 ⟨n - (i + 1), by omega, i + 1, (by simp [T.gs]), (by simp [T.gs, g33]), (by simp [T.gs, g10]), (by simp [T.gs, g0]), (by simp [T.gs, g1]), (by simp [T.gs, g3]), by omega, F.fresh F2 w (Nat.le_refl _), o2, rfl⟩
     done
   · have : i = n := by omega
     subst this
     simp only [Nat.sub_self, List.replicate_zero, List.append_nil] at oo
     have bm : Bools hh (.slice h0.next 0 i i) (List.replicate i v) := by
      have := Sl.lit (esz := 1) (n := i) oo (by simp)
      show Sl hh 1 _ _ _; simpa using this
     simp only [evs, ↓reduceIte, Nat.reduceEqDiff, g34, g33, g0, hlt]
     refine OQ_does (flist_ok F.wf (f0.fr F)) ?_
     rintro _ h2 ⟨bl, ⟨c, rfl, hcnew⟩, F2⟩
     obtain ⟨v1, s1, b1⟩ := bl.upto (by simp) .i64 a (by omega) (by omega)
     obtain ⟨v3, s3, b3⟩ := bl.from' (by simp) .i64 a (by omega) (by omega)
     simp only [Int.toNat_natCast] at b1 b3
     have c1 := cells_one (Vals.one b1)
     have c3 := cells_one (Vals.one b3)
     obtain ⟨h3, e_h3⟩ : ∃ h3, h3 = halloc h2 [v1, .slice h0.next 0 i i, v3] := ⟨_, rfl⟩
     have F_h3 : Fr [] h2 h3 := e_h3 ▸ Fr.halloc F2.wf _
     have o_h3 : Own h3 h2.next [v1, .slice h0.next 0 i i, v3] := e_h3 ▸ Own.new F2.wf _
     have e3 : halloc h2 [v1, .slice h0.next 0 i i, v3] = h3 := e_h3.symm
     simp only [evs, ↓reduceIte, Nat.reduceEqDiff, eff, g10, g0, g1, s1, s3, c1, c3, e3]
     have F03 := (F.then F2).then F_h3
     refine OQ_does (become_ok (Ls := [(v1, bs.take a), (.slice h0.next 0 i i, List.replicate i v), (v3, bs.drop a)]) F_h3.wf (f0.fr F03) (Sl.lit (n := 3) o_h3 rfl) ?_ ?_ (by simp)) ?_
     · intro p hp
       simp only [List.mem_cons, List.not_mem_nil, or_false] at hp
       rcases hp with rfl | rfl | rfl
       · exact b1.fr F_h3
       · exact bm.fr (F2.then F_h3)
       · exact b3.fr F_h3
     · simp; omega
     rintro _ h4 ⟨rfl, f4, F4⟩
     simp only [evs, ↓reduceIte, Nat.reduceAdd, DF]
     refine ⟨by simpa [List.flatMap_cons] using f4, F03.trans F4 w (by simp) (fun x hx => .inl hx)⟩
def Glb (h : Heap) : Prop := Pl h 0 tabc
theorem fwrapN (n : Nat) : fwrap .u64 (n : Int) = ((n % 18446744073709551616 : Nat) : Int) := by
 rw [fwrap_eq]
 simp only [IntKind.wrap, IntKind.bits, IntKind.signed]
 simp
theorem mulN (x y : Nat) (b : Int) (hb : b = y) : aP (.ib .mul) [.int .u64 (x : Int), .int .u64 b] = some (.int .u64 ((x * y % 18446744073709551616 : Nat) : Int)) := by
 subst hb
 rw [aP_mul, ← Int.natCast_mul, fwrapN]
theorem aP_ixarr (l : List V) (k : IntKind) (n i : Nat) (hi : i < n) : aP (.ixarr n 1 false) [.agg l, .int k (i : Int)] = nth l i := by
 have : aidx (.int k (i : Int)) n = some i := by
  show (bif Nat.blt i n then some i else none) = _
  rw [(Nat.blt_eq ..).mpr hi]; rfl
 simp only [aP, this, Option.bind_some, cond_false, Nat.mul_one]
def Sel (bs : List Bool) (k p : Nat) : Prop := p < bs.length ∧ bs.getD p false = true ∧ (bs.take p).count true = k
def Mk (h : Heap) (pm : Option Nat) (bs : List Bool) : Prop := match pm with
 | none => bs = []
 | some c => Fl h c bs
theorem Mk.fr {h h' : Heap} {pm : Option Nat} {bs : List Bool} (a : Mk h pm bs) (f : Fr [] h h') : Mk h' pm bs := by
 cases pm with
 | none => exact a
 | some c => exact Fl.fr a f
def Lo (h : Heap) (b : Nat) (l : List Int) (ks bs : List Bool) : Prop := ∃ p vk pm, Own h b [pv p, vk, pv pm] ∧ vk.one = true ∧ Ix h (.agg [pv p, vk]) l ks ∧ Mk h pm bs ∧ bs.length = l.length
theorem Lo.fr {h h' : Heap} {b : Nat} {l : List Int} {ks bs : List Bool} (a : Lo h b l ks bs) (f : Fr [] h h') : Lo h' b l ks bs := by
 obtain ⟨p, vk, pm, o, v1, ix, mk, e⟩ := a; exact ⟨p, vk, pm, f.get o, v1, ix.fr f, mk.fr f, e⟩
theorem Glb.fr {h h' : Heap} (a : Glb h) (f : Fr [] h h') : Glb h' := f.pl _ _ (by simp) a
theorem LLen_ok {h : Heap} {b : Nat} {l : List Int} {ks bs : List Bool} (w : WF h) (a : Lo h b l ks bs) : Does go 62 [.ptr b 0] h fun u h' => u = .int .i64 l.length ∧ Fr [] h h' := by
 obtain ⟨p, vk, pm, o, v1, ix, mk, e⟩ := a
 refine does_fn g62 rfl ?_
 simp only [fn62, evs, ↓reduceIte, Nat.reduceEqDiff, o.ld]
 refine OQ_does (XLen_ok w ix) ?_
 rintro _ h2 ⟨rfl, F2⟩
 simp only [evs, ↓reduceIte]
 exact F2
theorem Ix.rp {h : Heap} {p : Option Nat} {vk : V} {l : List Int} {ks : List Bool} (a : Ix h (.agg [pv p, vk]) l ks) : Rp h (.agg [pv p]) l := by
 obtain ⟨p', vk', L, e, r, _⟩ := a
 simp only [V.agg.injEq, List.cons.injEq, and_true] at e
 rw [e.1]; exact r
theorem LTotal_ok {h : Heap} {b : Nat} {l : List Int} {ks bs : List Bool} (w : WF h) (a : Lo h b l ks bs) : Does go 14 [.ptr b 0] h fun u h' => u = .int .i64 l.sum ∧ Fr [] h h' := by
 obtain ⟨p, vk, pm, o, v1, ix, mk, e⟩ := a
 have r := ix.rp
 refine does_fn g14 rfl ?_
 simp only [fn14, evs, ↓reduceIte, Nat.reduceEqDiff, o.ld]
 refine OQ_does (Total_ok w r) ?_
 rintro _ h2 ⟨rfl, F2⟩
 simp only [evs, ↓reduceIte]
 exact F2
theorem LSize_ok {h : Heap} {b : Nat} {l : List Int} {ks bs : List Bool} {i : Int} (w : WF h) (a : Lo h b l ks bs) :
 Does go 76 [.ptr b 0, .int .i64 i] h fun u h' => (u = if 0 ≤ i ∧ i < l.length then .tup [.int .i64 (l.getD i.toNat 0), .int .i64 0] else .tup [.int .i64 0, .int .i64 4]) ∧ Fr [] h h' := by
 obtain ⟨p, vk, pm, o, v1, ix, mk, e⟩ := a
 refine does_fn g76 rfl ?_
 simp only [fn76, evs, ↓reduceIte, Nat.reduceEqDiff, Nat.reduceAdd, o.ld]
 refine OQ_does (XSize_ok w ix) ?_
 rintro _ h2 ⟨rfl, F2⟩
 by_cases c : 0 ≤ i ∧ i < l.length
 · simp only [if_pos c]
   simp only [evs, ↓reduceIte, Nat.reduceEqDiff]
   exact F2
 · simp only [if_neg c]
   simp only [evs, ↓reduceIte, Nat.reduceEqDiff]
   exact F2
def okF (view over : Int) : Prop := 1 ≤ view ∧ view ≤ 2147483648 ∧ 0 ≤ over ∧ over ≤ 16
instance (view over : Int) : Decidable (okF view over) := by unfold okF; infer_instance
def HeadS (l : List Int) (bs : List Bool) (s r e : Int) : Prop :=
 if l = [] ∧ s = 0 then r = 0 ∧ e = 11 else if 0 ≤ s ∧ s < l.sum then if (bs.take ((locate l s).1 + 1)).count true = 0 then r = 0 ∧ e = 11 else e = 0 ∧ ∃ p : Nat, r = p ∧ Sel bs ((bs.take ((locate l s).1 + 1)).count true - 1) p else r = 0 ∧ e = 4
theorem HeadS.zero {l : List Int} {bs : List Bool} {s r e : Int} (a : HeadS l bs s r e) (h : e = 0) : 0 ≤ s ∧ s < l.sum ∧ ∃ p : Nat, r = p ∧ p < bs.length := by
 unfold HeadS at a
 split at a
 · omega
 · split at a
   · rename_i c
     split at a
     · omega
     · obtain ⟨_, p, e1, e2⟩ := a; exact ⟨c.1, c.2, p, e1, e2.1⟩
   · omega
structure FrF (b : Nat) (h h' : Heap) : Prop where
 next : h.next ≤ h'.next
 wf : WF h'
 own : ∀ x c, x ≠ b → (∀ n m ws, ws.length = 64 → c ≠ flc n m ws) → Own h x c → Own h' x c
 pl : ∀ x c, x ≠ b → (∀ n m ws, ws.length = 64 → c ≠ flc n m ws) → Pl h x c → Pl h' x c
 ro : ∀ x c, Rs h x c → Rs h' x c
theorem FrF.trans {b : Nat} {h h1 h2 : Heap} (a : FrF b h h1) (c : FrF b h1 h2) : FrF b h h2 :=
 ⟨Nat.le_trans a.next c.next, c.wf, fun x d hx hd o => c.own x d hx hd (a.own x d hx hd o), fun x d hx hd o => c.pl x d hx hd (a.pl x d hx hd o), fun x d r => c.ro x d (a.ro x d r)⟩
theorem LNew_ok {h : Heap} (w : WF h) : Does go 43 [] h fun u h' => ∃ b, u = .ptr b 0 ∧ h.next ≤ b ∧ Lo h' b [] [] [] ∧ Own h' b [.nilp, .nils, .nilp] ∧ Fr [] h h' := by
 refine does_fn g43 rfl ?_
 simp only [fn43, evs, ↓reduceIte]
 refine ⟨_, rfl, Nat.le_refl _, ⟨none, .nils, none, Own.new w _, rfl, ⟨none, .nils, [], rfl, ⟨.nil, none, rfl, rfl, rfl, by simp, by simp, by simp⟩, .inl ⟨rfl, rfl⟩, ⟨trivial, by simp, fun i => by simp [inS]⟩, rfl, by simp⟩, rfl, rfl⟩, Own.new w _, Fr.halloc w _⟩
theorem Ix.frb {h h' : Heap} {v : V} {l : List Int} {ks : List Bool} {b : Nat} {c : List V} (a : Ix h v l ks) (f : Fr [b] h h') (o : Own h b c) (h6 : c.length ≠ 6) (hc : ∀ L : List (Int × Int), 0 < L.length → c ≠ L.flatMap sp) : Ix h' v l ks := by
 obtain ⟨p, vk, L, e, r, s, x⟩ := a
 exact ⟨p, vk, L, e, r.frb f o h6, s.frb f o hc, x⟩
theorem Ix.frf {h h' : Heap} {v : V} {l : List Int} {ks : List Bool} {b : Nat} {bs : List Bool} (a : Ix h v l ks) (f : Fr [b] h h') (fl : Fl h b bs) : Ix h' v l ks := by
 obtain ⟨ws, o, ok, _⟩ := fl
 refine a.frb f o (by rw [flc_len, ok.len]; omega) fun L p e => ?_
 have hm : ∀ x ∈ flc (bs.length : Int) (bs.count true : Int) ws, ∃ n, x = .int .i64 n := by
  rw [e]
  intro x hx
  simp only [List.mem_flatMap, sp] at hx
  obtain ⟨s, _, hx⟩ := hx
  simp at hx
  rcases hx with rfl | rfl <;> exact ⟨_, rfl⟩
 cases ws with
 | nil => have := ok.len; simp at this
 | cons y ws =>
  obtain ⟨n, hn⟩ := hm (uw y) (by simp [flc])
  simp [uw] at hn
theorem noInt {p : Option Nat} {vk : V} {pm : Option Nat} (hvk : ∀ k n, vk ≠ .int k n) : ∀ x ∈ [pv p, vk, pv pm], ∀ k n, x ≠ .int k n := by
 intro x hx k n
 simp only [List.mem_cons, List.not_mem_nil, or_false] at hx
 rcases hx with rfl | rfl | rfl
 · cases p <;> simp [pv]
 · exact hvk k n
 · cases pm <;> simp [pv]
theorem Ix.noint {h : Heap} {p : Option Nat} {vk : V} {l : List Int} {ks : List Bool} (a : Ix h (.agg [pv p, vk]) l ks) : ∀ k n, vk ≠ .int k n := by
 obtain ⟨p', vk', L, e, r, s, _⟩ := a
 simp only [V.agg.injEq, List.cons.injEq, and_true] at e
 obtain ⟨_, rfl⟩ := e
 exact s.noint
theorem Ix.form {h : Heap} {c d : V} {l : List Int} {ks : List Bool} (a : Ix h (.agg [c, d]) l ks) : ∃ p, c = pv p := by
 obtain ⟨p', vk', L, e, _⟩ := a
 simp only [V.agg.injEq, List.cons.injEq, and_true] at e
 exact ⟨p', e.1⟩
theorem Mk.frb {h h' : Heap} {pm : Option Nat} {bs : List Bool} {b : Nat} {c : List V} (a : Mk h pm bs) (f : Fr [b] h h') (o : Own h b c) (h3 : c.length = 3) : Mk h' pm bs := by
 cases pm with
 | none => exact a
 | some q =>
  obtain ⟨ws, oq, ok, hn⟩ := a
  refine ⟨ws, f.own _ _ ?_ oq, ok, hn⟩
  simp only [List.mem_singleton]
  rintro rfl
  have := oq.uniq o
  subst this
  rw [flc_len, ok.len] at h3; omega
theorem Bools.frl {h h' : Heap} {v : V} {bs : List Bool} {b : Nat} {c c' : List V} (a : Bools h v bs) (f : Fr [b] h h') (o : Own h b c) (o' : Own h' b c') (hc : ∀ x, V.bool x ∉ c) (hl : c'.length = c.length) : Bools h' v bs := by
 refine Sl.frb a f o o' hl fun hne => ?_
 cases bs with
 | nil => simp at hne
 | cons x bs => exact ⟨.bool x, by simp, hc x⟩
theorem nobool {p : Option Nat} {vk : V} {pm : Option Nat} (h : ∀ x, vk ≠ V.bool x) : ∀ x, V.bool x ∉ [pv p, vk, pv pm] := by
 intro x hx
 simp only [List.mem_cons, List.not_mem_nil, or_false] at hx
 rcases hx with e | e | e
 · cases p <;> simp [pv] at e
 · exact h x e.symm
 · cases pm <;> simp [pv] at e
theorem SpF.nobool {h : Heap} {v : V} {L : List (Int × Int)} (a : SpF h v L) : ∀ x, v ≠ V.bool x := by
 rcases a with ⟨rfl, _⟩ | ⟨b, rfl, _⟩ <;> simp
theorem Ix.nobool {h : Heap} {p : Option Nat} {vk : V} {l : List Int} {ks : List Bool} (a : Ix h (.agg [pv p, vk]) l ks) : ∀ x, vk ≠ V.bool x := by
 obtain ⟨p', vk', L, e, r, s, _⟩ := a
 simp only [V.agg.injEq, List.cons.injEq, and_true] at e
 obtain ⟨_, rfl⟩ := e
 exact s.nobool
theorem ins_set {bs st : List Bool} {i j : Nat} (hi : i ≤ bs.length) (x : Bool) (hx : st[j]? = some x) :
 (bs.take i ++ (st.take j ++ List.replicate (st.length - j) false) ++ bs.drop i).set (i + j) x = bs.take i ++ (st.take (j + 1) ++ List.replicate (st.length - (j + 1)) false) ++ bs.drop i := by
 have hj : j < st.length := by
  rcases Nat.lt_or_ge j st.length with y | y
  · exact y
  · rw [List.getElem?_eq_none y] at hx; cases hx
 have hl : (bs.take i).length = i := by simp; omega
 rw [List.append_assoc, List.set_append, if_neg (by omega), hl, Nat.add_sub_cancel_left, List.set_append, if_pos (by simp; omega), rep_set st j x hx, List.append_assoc, List.append_assoc, List.append_assoc]
theorem ins_false {bs st : List Bool} {i j : Nat} (hx : st[j]? = some false) : bs.take i ++ (st.take j ++ List.replicate (st.length - j) false) ++ bs.drop i = bs.take i ++ (st.take (j + 1) ++ List.replicate (st.length - (j + 1)) false) ++ bs.drop i := by
 have hj : j < st.length := by
  rcases Nat.lt_or_ge j st.length with y | y
  · exact y
  · rw [List.getElem?_eq_none y] at hx; cases hx
 rw [List.take_add_one, hx, show st.length - j = (st.length - (j + 1)) + 1 by omega, List.replicate_succ]
 simp
end Go.Ev.Lay
namespace Go.Ev.St
abbrev Slot := Nat × Nat × Nat
def pth (a n j : Nat) : Nat := (a + j) % n
theorem pth_lt {a n j : Nat} (h : 0 < n) : pth a n j < n := Nat.mod_lt _ h
theorem pth_succ (a n j : Nat) : (pth a n j + 1) % n = pth a n (j + 1) := by
 unfold pth; rw [Nat.mod_add_mod, Nat.add_assoc]
theorem pth_zero (a n : Nat) : pth a n 0 = a % n := by simp [pth]
theorem pth_onto {a n i : Nat} (h : i < n) : ∃ j, j < n ∧ pth a n j = i := by
 refine ⟨(i + (n - a % n)) % n, Nat.mod_lt _ (by omega), ?_⟩
 unfold pth
 have h1 : a % n < n := Nat.mod_lt _ (by omega)
 rw [Nat.add_mod_mod, ← Nat.mod_add_mod, show a % n + (i + (n - a % n)) = i + n by omega, Nat.add_mod_right, Nat.mod_eq_of_lt h]
structure Opn (mx : Nat → Nat) (sl : List Slot) : Prop where
 st : ∀ s ∈ sl, s.1 = 0 ∨ s.1 = 1 ∨ s.1 = 2
 uniq : ∀ i j k v w : Nat, sl[i]? = some (1, k, v) → sl[j]? = some (1, k, w) → i = j
 path : ∀ i k v : Nat, sl[i]? = some (1, k, v) → ∃ j, j < sl.length ∧ pth (mx k) sl.length j = i ∧ ∀ j', j' < j → ∀ s, sl[pth (mx k) sl.length j']? = some s → s.1 ≠ 0
 room : ∃ (i : Nat) (s : Slot), sl[i]? = some s ∧ s.1 = 0
structure Looked (mx : Nat → Nat) (sl : List Slot) (k at' : Nat) (found : Bool) : Prop where
 lt : at' < sl.length
 yes : found = true → ∃ v, sl[at']? = some (1, k, v)
 no : found = false → (∀ i v : Nat, sl[i]? ≠ some (1, k, v)) ∧ (∃ s : Slot, sl[at']? = some s ∧ s.1 ≠ 1) ∧ ∃ j, j < sl.length ∧ pth (mx k) sl.length j = at' ∧ ∀ j', j' < j → ∀ s, sl[pth (mx k) sl.length j']? = some s → s.1 ≠ 0
structure Seek (mx : Nat → Nat) (sl : List Slot) (k j : Nat) (g : Option Nat) : Prop where
 jl : j < sl.length
 seen : ∀ j', j' < j → ∀ s, sl[pth (mx k) sl.length j']? = some s → s.1 ≠ 0 ∧ ¬ (s.1 = 1 ∧ s.2.1 = k)
 grave : ∀ x, g = some x → x < sl.length ∧ ∃ j0, j0 < j ∧ pth (mx k) sl.length j0 = x ∧ ∃ s, sl[x]? = some s ∧ s.1 = 2
variable {mx : Nat → Nat} {sl : List Slot} {k j : Nat} {g : Option Nat}
theorem Opn.pos (o : Opn mx sl) : 0 < sl.length := by
 obtain ⟨i, s, h, _⟩ := o.room
 have := (List.getElem?_eq_some_iff.1 h).1
 omega
theorem Seek.start (o : Opn mx sl) (k : Nat) : Seek mx sl k 0 none := ⟨o.pos, fun _ h => by omega, fun _ h => by cases h⟩
theorem Seek.found (q : Seek mx sl k j g) {v : Nat} (h : sl[pth (mx k) sl.length j]? = some (1, k, v)) : Looked mx sl k (pth (mx k) sl.length j) true :=
 ⟨pth_lt (by have := q.jl; omega), fun _ => ⟨v, h⟩, fun e => by cases e⟩
theorem Seek.absent (o : Opn mx sl) (q : Seek mx sl k j g) {s : Slot} (h : sl[pth (mx k) sl.length j]? = some s) (h0 : s.1 = 0) (i v : Nat) : sl[i]? ≠ some (1, k, v) := by
 intro hi
 obtain ⟨j1, l1, e1, p1⟩ := o.path i k v hi
 rcases Nat.lt_trichotomy j1 j with c | c | c
 · have := (q.seen j1 c (1, k, v) (by rw [e1]; exact hi)).2
   exact this ⟨rfl, rfl⟩
 · subst c; rw [e1, hi] at h; cases h; cases h0
 · exact p1 j c s h h0
theorem Seek.free (o : Opn mx sl) (q : Seek mx sl k j g) {s : Slot} (h : sl[pth (mx k) sl.length j]? = some s) (h0 : s.1 = 0) : Looked mx sl k (g.getD (pth (mx k) sl.length j)) false := by
 cases g with
 | none => exact ⟨pth_lt o.pos, fun e => (by cases e), fun _ => ⟨q.absent o h h0, ⟨s, h, by omega⟩, j, q.jl, rfl, fun j' hj s hs => (q.seen j' hj s hs).1⟩⟩
 | some x =>
  obtain ⟨l1, j0, l2, e, s', h1, h2⟩ := q.grave x rfl
  have := q.jl
  exact ⟨l1, fun e => (by cases e), fun _ => ⟨q.absent o h h0, ⟨s', h1, by omega⟩, j0, by omega, e, fun j' hj s hs => (q.seen j' (by omega) s hs).1⟩⟩
theorem Seek.next (o : Opn mx sl) (q : Seek mx sl k j g) {s : Slot} (h : sl[pth (mx k) sl.length j]? = some s) (h0 : s.1 ≠ 0) (h1 : ¬ (s.1 = 1 ∧ s.2.1 = k)) :
 Seek mx sl k (j + 1) (if s.1 = 2 ∧ g = none then some (pth (mx k) sl.length j) else g) := by
 have jl := q.jl
 have seen : ∀ j', j' < j + 1 → ∀ s, sl[pth (mx k) sl.length j']? = some s → s.1 ≠ 0 ∧ ¬ (s.1 = 1 ∧ s.2.1 = k) := by
  intro j' hj s' hs
  by_cases c : j' = j
  · subst c; rw [h] at hs; cases hs; exact ⟨h0, h1⟩
  · exact q.seen j' (by omega) s' hs
 refine ⟨?_, seen, ?_⟩
 · rcases Nat.lt_or_ge (j + 1) sl.length with c | c
   · exact c
   · exfalso
     obtain ⟨i, s', hi, h'⟩ := o.room
     obtain ⟨j', l', e⟩ := pth_onto (a := mx k) (List.getElem?_eq_some_iff.1 hi).1
     exact (seen j' (by omega) s' (by rw [e]; exact hi)).1 h'
 · intro x hx
   by_cases c : s.1 = 2 ∧ g = none
   · rw [if_pos c] at hx; cases hx
     exact ⟨pth_lt o.pos, j, by omega, rfl, s, h, c.1⟩
   · rw [if_neg c] at hx
     obtain ⟨l1, j0, l2, e⟩ := q.grave x hx
     exact ⟨l1, j0, by omega, e⟩
theorem set_get (sl : List Slot) (a i : Nat) (x s : Slot) (h : (sl.set a x)[i]? = some s) : (i = a ∧ s = x ∧ a < sl.length) ∨ (i ≠ a ∧ sl[i]? = some s) := by
 by_cases c : i = a
 · subst c
   have hl := (List.getElem?_eq_some_iff.1 h).1
   rw [List.length_set] at hl
   rw [List.getElem?_set_self hl] at h
   cases h; exact .inl ⟨rfl, rfl, hl⟩
 · rw [List.getElem?_set_ne (Ne.symm c)] at h
   exact .inr ⟨c, h⟩
theorem set_get_self {sl : List Slot} {a : Nat} (x : Slot) (h : a < sl.length) : (sl.set a x)[a]? = some x := List.getElem?_set_self h
theorem Opn.put (o : Opn mx sl) {a : Nat} (q : Looked mx sl k a false) (v : Nat) (hr : ∃ (i : Nat) (s : Slot), i ≠ a ∧ sl[i]? = some s ∧ s.1 = 0) : Opn mx (sl.set a (1, k, v)) := by
 obtain ⟨no, ⟨s0, hs0, h0⟩, j, jl, je, jp⟩ := q.no rfl
 refine ⟨?_, ?_, ?_, ?_⟩
 · intro s hs
   rcases List.mem_or_eq_of_mem_set hs with h | rfl
   · exact o.st s h
   · exact .inr (.inl rfl)
 · intro i i' k' v' w' hi hi'
   rcases set_get _ _ _ _ _ hi with ⟨e1, e, _⟩ | ⟨c, h1⟩ <;> rcases set_get _ _ _ _ _ hi' with ⟨e2, e', _⟩ | ⟨c', h2⟩
   · rw [e1, e2]
   · cases e; exact absurd h2 (no _ _)
   · cases e'; exact absurd h1 (no _ _)
   · exact o.uniq _ _ _ _ _ h1 h2
 · intro i k' v' hi
   rw [List.length_set]
   rcases set_get _ _ _ _ _ hi with ⟨rfl, e, _⟩ | ⟨c, hi⟩
   · cases e
     refine ⟨j, jl, je, fun j' hj s hs => ?_⟩
     rcases set_get _ _ _ _ _ hs with ⟨_, rfl, _⟩ | ⟨_, hs⟩
     · simp
     · exact jp j' hj s hs
   · obtain ⟨j1, l1, e1, p1⟩ := o.path i k' v' hi
     refine ⟨j1, l1, e1, fun j' hj s hs => ?_⟩
     rcases set_get _ _ _ _ _ hs with ⟨_, rfl, _⟩ | ⟨_, hs⟩
     · simp
     · exact p1 j' hj s hs
 · obtain ⟨i, s, c, hi, hs⟩ := hr
   exact ⟨i, s, by rw [List.getElem?_set_ne (Ne.symm c)]; exact hi, hs⟩
theorem Opn.change (o : Opn mx sl) {a w : Nat} (h : sl[a]? = some (1, k, w)) (v : Nat) : Opn mx (sl.set a (1, k, v)) := by
 have key : ∀ i k' v' : Nat, (sl.set a (1, k, v))[i]? = some (1, k', v') → ∃ w', sl[i]? = some (1, k', w') := by
  intro i k' v' hi
  rcases set_get _ _ _ _ _ hi with ⟨rfl, e, _⟩ | ⟨c, hi⟩
  · cases e; exact ⟨w, h⟩
  · exact ⟨v', hi⟩
 have nz : ∀ (i : Nat) (s : Slot), (sl.set a (1, k, v))[i]? = some s → (∀ s', sl[i]? = some s' → s'.1 ≠ 0) → s.1 ≠ 0 := by
  intro i s hs hz
  rcases set_get _ _ _ _ _ hs with ⟨_, rfl, _⟩ | ⟨_, hs⟩
  · simp
  · exact hz s hs
 refine ⟨?_, ?_, ?_, ?_⟩
 · intro s hs
   rcases List.mem_or_eq_of_mem_set hs with h | rfl
   · exact o.st s h
   · exact .inr (.inl rfl)
 · intro i i' k' v' w' hi hi'
   obtain ⟨_, h1⟩ := key _ _ _ hi
   obtain ⟨_, h2⟩ := key _ _ _ hi'
   exact o.uniq _ _ _ _ _ h1 h2
 · intro i k' v' hi
   rw [List.length_set]
   obtain ⟨_, h1⟩ := key _ _ _ hi
   obtain ⟨j1, l1, e1, p1⟩ := o.path _ _ _ h1
   exact ⟨j1, l1, e1, fun j' hj s hs => nz _ _ hs (p1 j' hj)⟩
 · obtain ⟨i, s, hi, hs⟩ := o.room
   refine ⟨i, s, ?_, hs⟩
   rw [List.getElem?_set_ne]
   · exact hi
   · rintro rfl; rw [h] at hi; cases hi; cases hs
theorem Opn.drop (o : Opn mx sl) {a w : Nat} (h : sl[a]? = some (1, k, w)) (x y : Nat) : Opn mx (sl.set a (2, x, y)) := by
 have key : ∀ i k' v' : Nat, (sl.set a (2, x, y))[i]? = some (1, k', v') → sl[i]? = some (1, k', v') := by
  intro i k' v' hi
  rcases set_get _ _ _ _ _ hi with ⟨rfl, e, _⟩ | ⟨c, hi⟩
  · cases e
  · exact hi
 refine ⟨?_, ?_, ?_, ?_⟩
 · intro s hs
   rcases List.mem_or_eq_of_mem_set hs with h | rfl
   · exact o.st s h
   · exact .inr (.inr rfl)
 · intro i i' k' v' w' hi hi'
   exact o.uniq _ _ _ _ _ (key _ _ _ hi) (key _ _ _ hi')
 · intro i k' v' hi
   rw [List.length_set]
   obtain ⟨j1, l1, e1, p1⟩ := o.path _ _ _ (key _ _ _ hi)
   refine ⟨j1, l1, e1, fun j' hj s hs => ?_⟩
   rcases set_get _ _ _ _ _ hs with ⟨_, rfl, _⟩ | ⟨_, hs⟩
   · simp
   · exact p1 j' hj s hs
 · obtain ⟨i, s, hi, hs⟩ := o.room
   refine ⟨i, s, ?_, hs⟩
   rw [List.getElem?_set_ne]
   · exact hi
   · rintro rfl; rw [h] at hi; cases hi; cases hs
theorem Opn.zero (mx : Nat → Nat) (n : Nat) (h : 0 < n) : Opn mx (List.replicate n (0, 0, 0)) := by
 have e : ∀ (i : Nat) (s : Slot), (List.replicate n ((0, 0, 0) : Slot))[i]? = some s → s = (0, 0, 0) := fun i s hs => List.eq_of_mem_replicate (List.mem_of_getElem? hs)
 refine ⟨fun s hs => .inl (by rw [List.eq_of_mem_replicate hs]), fun i j k v w hi => ?_, fun i k v hi => ?_, ⟨0, (0, 0, 0), by rw [List.getElem?_replicate, if_pos h], rfl⟩⟩
 · have := e _ _ hi; cases this
 · have := e _ _ hi; cases this
def cnS (c : Nat) (sl : List Slot) : Nat := sl.countP fun s => s.1 == c
theorem cnS_set {a c : Nat} {s x : Slot} (h : sl[a]? = some s) : cnS c (sl.set a x) + (if s.1 = c then 1 else 0) = cnS c sl + (if x.1 = c then 1 else 0) := by
 unfold cnS
 induction sl generalizing a with
 | nil => simp at h
 | cons y l ih =>
  cases a with
  | zero =>
   simp at h; subst h
   simp only [List.set_cons_zero, List.countP_cons, beq_iff_eq]
   split <;> split <;> omega
  | succ a =>
   simp only [List.set_cons_succ, List.countP_cons, beq_iff_eq]
   have := ih (a := a) (by simpa using h)
   omega
theorem cnS_room {n : Nat} (h : 0 < cnS 0 sl) : ∃ (i : Nat) (s : Slot), sl[i]? = some s ∧ s.1 = 0 := by
 unfold cnS at h
 rw [List.countP_pos_iff] at h
 obtain ⟨s, hs, e⟩ := h
 obtain ⟨i, hi, e2⟩ := List.mem_iff_getElem.1 hs
 exact ⟨i, s, by rw [List.getElem?_eq_some_iff]; exact ⟨hi, e2⟩, by simpa using e⟩
theorem cnS_sum (h : ∀ s ∈ sl, s.1 = 0 ∨ s.1 = 1 ∨ s.1 = 2) : cnS 0 sl + cnS 1 sl + cnS 2 sl = sl.length := by
 unfold cnS
 induction sl with
 | nil => rfl
 | cons y l ih =>
  have := ih fun s hs => h s (List.mem_cons_of_mem _ hs)
  simp only [List.countP_cons, beq_iff_eq, List.length_cons]
  rcases h y (List.mem_cons_self ..) with e | e | e <;> simp only [e] <;> simp <;> omega
end Go.Ev.St
namespace Go.Ev.Lay
open Go.Ev.St
set_option maxRecDepth 4000
theorem shrN (x n m : Nat) (b : Int) (hb : b = n) (hn : n ≤ 64) (hm : m = 2 ^ n) : aP (.sh false) [.int .u64 (x : Int), .int .u64 b] = some (.int .u64 ((x / m : Nat) : Int)) := by
 subst hb
 rw [aP_shr _ _ _ _ (by omega)]
 simp only [Int.toNat_natCast, IntKind.bits, Nat.min_eq_left hn]
 rw [← hm]
 congr 2
 exact Int.fdiv_eq_ediv_of_nonneg _ (Int.natCast_nonneg _)
def mix3 (x : Nat) : Nat := x ^^^ (x / 2147483648)
def mix2 (x : Nat) : Nat := (x ^^^ (x / 134217728)) * 10723151780598845931 % 18446744073709551616
def mix1 (x : Nat) : Nat := (x ^^^ (x / 1073741824)) * 13787848793156543929 % 18446744073709551616
def mix (x : Nat) : Nat := mix3 (mix2 (mix1 x))
theorem mix_ok {h : Heap} {x : Nat} (hx : x < 18446744073709551616) : Does go 179 [.int .u64 (x : Int)] h fun u h' => u = .int .u64 (mix x : Nat) ∧ h' = h := by
 have s1 := shrN x 30 1073741824 30 rfl (by omega) (by decide)
 have x1 := aP_xorN x (x / 1073741824) _ _ rfl rfl hx (by omega)
 have m1 := mulN (x ^^^ x / 1073741824) 13787848793156543929 13787848793156543929 rfl
 have h1 : mix1 x < 18446744073709551616 := Nat.mod_lt _ (by omega)
 change _ = some (V.int .u64 ((mix1 x : Nat) : Int)) at m1
 unfold mix
 generalize mix1 x = y at h1 m1
 have s2 := shrN y 27 134217728 27 rfl (by omega) (by decide)
 have x2 := aP_xorN y (y / 134217728) _ _ rfl rfl h1 (by omega)
 have m2 := mulN (y ^^^ y / 134217728) 10723151780598845931 10723151780598845931 rfl
 have h2 : mix2 y < 18446744073709551616 := Nat.mod_lt _ (by omega)
 change _ = some (V.int .u64 ((mix2 y : Nat) : Int)) at m2
 generalize mix2 y = z at h2 m2
 have s3 := shrN z 31 2147483648 31 rfl (by omega) (by decide)
 have x3 := aP_xorN z (z / 2147483648) _ _ rfl rfl h2 (by omega)
 change _ = some (V.int .u64 ((mix3 z : Nat) : Int)) at x3
 refine does_fn g179 rfl ?_
 simp only [fn179, evs, ↓reduceIte, Nat.reduceEqDiff, s1, x1, m1, s2, x2, m2, s3, x3]
def sc (s : Slot) : List V := [.int .u8 (s.1 : Int), .int .u64 (s.2.1 : Int), .int .i64 (s.2.2 : Int)]
theorem sc_len (s : Slot) : (sc s).length = 3 := rfl
def Tb (h : Heap) (v : V) (S : Nat) (sl : List Slot) : Prop := (v = .slice S 0 sl.length sl.length ∨ v = .sliceU S 0 sl.length 3) ∧ Own h S (sl.flatMap sc)
theorem flat3 (sl : List Slot) : (sl.flatMap sc).length = sl.length * 3 := flat_len sc_len sl
theorem Tb.recs {h : Heap} {v : V} {S : Nat} {sl : List Slot} (t : Tb h v S sl) : Recs sc 3 h v sl := by
 obtain ⟨rfl | rfl, o⟩ := t
 · exact ⟨flat3 sl, rfl, Nat.le_refl _, _, o, by rw [flat3]; omega, by rw [List.drop_zero, List.take_of_length_le (by rw [flat3]; omega)]⟩
 · exact ⟨flat3 sl, rfl, rfl, _, o, by rw [flat3]; omega, by rw [List.drop_zero, List.take_of_length_le (by rw [flat3]; omega)]⟩
theorem Tb.ix {h : Heap} {v : V} {S : Nat} {sl : List Slot} (t : Tb h v S sl) (i : Nat) (hi : i < sl.length) : aP (.ixs 3) [v, .int .i64 (i : Int)] = some (.ptr S (i * 3)) := by
 obtain ⟨rfl | rfl, o⟩ := t
 · have := aP_ixS 3 S 0 sl.length sl.length .i64 (i : Int) (by omega) (by omega)
   simpa using this
 · have := aP_ixU 3 S 0 sl.length 3 .i64 (i : Int) (by omega) (by omega)
   simpa using this
theorem Tb.fr {h h' : Heap} {v : V} {S : Nat} {sl : List Slot} (t : Tb h v S sl) (f : Fr [] h h') : Tb h' v S sl := ⟨t.1, f.get t.2⟩
def gi : Option Nat → Int
 | none => -1
 | some x => x
theorem rem_cast (p n : Nat) (h : n ≠ 0) : aP (.ib .rem) [.int .i64 ((p : Int) + 1), .int .i64 (n : Int)] = some (.int .i64 (((p + 1) % n : Nat) : Int)) := by
 rw [aP_rem _ _ _ (by omega)]
 congr 2
theorem look_round {mx : Nat → Nat} {h : Heap} {env : T V} {b S j key : Nat} {v M U : V} {sl : List Slot} {g : Option Nat} {Q : Ex → T V → Heap → Prop} (w : WF h) (ob : Own h b [v, M, U]) (tb : Tb h v S sl) (op : Opn mx sl) (q : Seek mx sl key j g) (hn : sl.length < 1000000)
 (g0 : env.get 0 = some (.ptr b 0)) (g1 : env.get 1 = some (.int .u64 (key : Int))) (g4 : env.get 4 = some (.int .i64 (pth (mx key) sl.length j : Nat))) (g5 : env.get 5 = some (.bool false)) (g6 : env.get 6 = some (.int .i64 (gi g)))
 (Ky : ∀ env' h' at' found, env'.get 4 = some (.int .i64 ((at' : Nat) : Int)) → env'.get 5 = some (.bool found) → Looked mx sl key at' found → Fr [] h h' → Q .ret env' h')
 (Kg : ∀ env' h' g', Seek mx sl key (j + 1) g' → env'.get 0 = some (.ptr b 0) → env'.get 1 = some (.int .u64 (key : Int)) → env'.get 4 = some (.int .i64 (pth (mx key) sl.length (j + 1) : Nat)) → env'.get 5 = some (.bool false) → env'.get 6 = some (.int .i64 (gi g')) → Fr [] h h' → Q (.goto 0) env' h') :
 W go lookRr env h Q := by
 have jl := q.jl
 have hp : pth (mx key) sl.length j < sl.length := pth_lt (by omega)
 have hx := tb.ix _ hp
 obtain ⟨b1, o1, x, e1, _, e3, e4⟩ := Recs.ix sc_len tb.recs .i64 (pth (mx key) sl.length j : Nat) (by omega) (by omega)
 rw [hx] at e1
 obtain ⟨rfl, rfl⟩ : S = b1 ∧ pth (mx key) sl.length j * 3 = o1 := by simpa using e1
 simp only [Int.toNat_natCast] at e4
 have l0 : hload1 h b 0 = some v := ob.ld1 0
 obtain ⟨s, ky, vl⟩ := x
 have hs := op.st _ (List.mem_of_getElem? e4)
 simp only [evs, ↓reduceIte, lookRr, g0, g4, l0, hx, e3]
 refine store_step (c' := sc (s, ky, vl)) (w.halloc _) (Own.new w _) rfl rfl rfl ?_
 rintro h1 o1 F1 n1
 have F : Fr [] h h1 := (Fr.halloc w _).trans F1 w (fun _ hx => by simp at hx) (fun x hx => .inr (by simp at hx; omega))
 have q0 : hload1 h1 h.next 0 = some (.int .u8 (s : Int)) := o1.ld1 0
 have q1 : hload1 h1 h.next 1 = some (.int .u64 (ky : Int)) := o1.ld1 1
 have l1 : hload1 h1 b 0 = some v := (F.get ob).ld1 0
 have len := (tb.fr F).recs.len
 have rm := rem_cast (pth (mx key) sl.length j) sl.length (by omega)
 rw [pth_succ] at rm
 have go' : (hz : s ≠ 0) → (hk : ¬ (s = 1 ∧ ky = key)) → ∀ env' : T V, env'.get 0 = some (.ptr b 0) → env'.get 1 = some (.int .u64 (key : Int)) → env'.get 4 = some (.int .i64 (pth (mx key) sl.length (j + 1) : Nat)) → env'.get 5 = some (.bool false) →
  env'.get 6 = some (.int .i64 (gi (if s = 2 ∧ g = none then some (pth (mx key) sl.length j) else g))) → Q (.goto 0) env' h1 := fun hz hk env' a b c d e =>
  Kg env' h1 _ (q.next op e4 hz hk) a b c d e F
 rcases hs with hs | hs | hs
 · have hs : s = 0 := hs
   subst hs
   replace q0 : hload1 h1 h.next 0 = some (.int .u8 0) := q0
   have fr := q.free op e4 rfl
   cases g with
   | none =>
    simp only [evs, ↓reduceIte, Nat.reduceEqDiff, Int.reduceNeg, q0, g4, g6, show ¬ (0 : Int) = 1 by omega, gi, show ¬ (0 : Int) ≤ -1 by omega]
    refine Ky _ _ _ _ ?_ ?_ fr F <;> simp [T.gs]
   | some x =>
    simp only [evs, ↓reduceIte, Nat.reduceEqDiff, q0, g6, show ¬ (0 : Int) = 1 by omega, gi, eq_true (show (0 : Int) ≤ (x : Int) by omega)]
    refine Ky _ _ _ _ ?_ ?_ fr F <;> simp [T.gs]
 · have hs : s = 1 := hs
   subst hs
   replace q0 : hload1 h1 h.next 0 = some (.int .u8 1) := q0
   by_cases hk : ky = key
   · subst hk
     have fo := q.found e4
     simp only [evs, ↓reduceIte, Nat.reduceEqDiff, q0, q1, g1, g4]
     refine Ky _ _ _ _ ?_ ?_ fo F <;> simp [T.gs]
   · have hk' : ¬ (ky : Int) = (key : Int) := by omega
     have G := go' (by omega) (fun x => hk x.2)
     rw [if_neg (by simp)] at G
     simp (disch := omega) only [evs, ↓reduceIte, Nat.reduceEqDiff, fwrap_i64, q0, q1, g0, g1, g4, eq_false hk', show ¬ (1 : Int) = 0 by omega, show ¬ (1 : Int) = 2 by omega, l1, len, rm]
     refine G _ ?_ ?_ ?_ ?_ ?_ <;> simp [T.gs, g0, g1, g5, g6, gi]
 · have hs : s = 2 := hs
   subst hs
   replace q0 : hload1 h1 h.next 0 = some (.int .u8 2) := q0
   have G := go' (by omega) (by omega)
   cases g with
   | none =>
    rw [if_pos ⟨rfl, rfl⟩] at G
    simp (disch := omega) only [evs, ↓reduceIte, Nat.reduceEqDiff, Int.reduceNeg, fwrap_i64, q0, g0, g4, g6, show ¬ (2 : Int) = 1 by omega, show ¬ (2 : Int) = 0 by omega, gi, show (-1 : Int) < 0 by omega, l1, len, rm]
    refine G _ ?_ ?_ ?_ ?_ ?_ <;> simp [T.gs, g0, g1, g5, gi]
   | some x =>
    rw [if_neg (by simp)] at G
    simp (disch := omega) only [evs, ↓reduceIte, Nat.reduceEqDiff, fwrap_i64, q0, g0, g4, g6, show ¬ (2 : Int) = 1 by omega, show ¬ (2 : Int) = 0 by omega, gi, eq_false (show ¬ (x : Int) < 0 by omega), l1, len, rm]
    refine G _ ?_ ?_ ?_ ?_ ?_ <;> simp [T.gs, g0, g1, g5, g6, gi]
theorem rem_u64 (a n : Nat) (b : Int) (hb : b = n) (h : n ≠ 0) : aP (.ib .rem) [.int .u64 (a : Int), .int .u64 b] = some (.int .u64 ((a % n : Nat) : Int)) := by
 subst hb
 rw [aP_rem _ _ _ (by omega)]
 congr 2
theorem look_ok {h : Heap} {b S key : Nat} {v M U : V} {sl : List Slot} (w : WF h) (ob : Own h b [v, M, U]) (tb : Tb h v S sl) (op : Opn mix sl) (hn : sl.length < 1000000) (hk : key < 18446744073709551616) :
 Does go 108 [.ptr b 0, .int .u64 (key : Int)] h fun u h' => ∃ at' found, u = .tup [.int .i64 ((at' : Nat) : Int), .bool found] ∧ Looked mix sl key at' found ∧ Fr [] h h' := by
 have l0 : hload1 h b 0 = some v := ob.ld1 0
 have len := tb.recs.len
 have pos := op.pos
 have mok := mix_ok (h := h) hk
 generalize mix = mx at op mok
 have rm := rem_u64 (mx key) sl.length (sl.length : Nat) rfl (by omega)
 have rl : mx key % sl.length < sl.length := Nat.mod_lt _ pos
 refine does_fn g108x rfl ?_
 simp only [fn108x, evs, Nat.reduceAdd, Int.reduceNeg]
 refine W_scope (fun k env hh => Fr [] h hh ∧ ∃ j g, Seek mx sl key j g ∧ env.get 0 = some (.ptr b 0) ∧ env.get 1 = some (.int .u64 (key : Int)) ∧ env.get 4 = some (.int .i64 (pth (mx key) sl.length j : Nat)) ∧ env.get 5 = some (.bool false) ∧
  env.get 6 = some (.int .i64 (gi g)) ∧ k = sl.length - j) (sl.length - 1) (by omega) ?_ ?_
 · simp only [evs, ↓reduceIte, Nat.reduceEqDiff, Int.reduceNeg, eff]
   refine OQ_does mok ?_
   rintro _ _ ⟨rfl, hh⟩
   replace hh := hh.symm
   subst hh
   have cv1 : fwrap .u64 (sl.length : Int) = (sl.length : Int) := fwrap_u64 _ (by omega) (by omega)
   simp (disch := omega) only [evs, ↓reduceIte, Nat.reduceEqDiff, Nat.reduceAdd, Int.reduceNeg, DF, eff, Nat.reduceSub, fwrap_i64, l0, len, cv1, rm]
   refine look_round w ob tb op (Seek.start op key) hn ?_ ?_ ?_ ?_ ?_ ?_ ?_
   · simp [T.gs]
   · simp [T.gs]
   · rw [pth_zero]; simp [T.gs]
   · simp [T.gs]
   · simp [T.gs, gi]
   · intro env' h' at' found e4 e5 L F
     show RetQ _ _ _ _ _
     simp only [evs, e4, e5]
     exact ⟨_, _, rfl, L, F⟩
   · intro env' h' g' q1 a0 a1 a4 a5 a6 F
     exact ⟨rfl, F, 1, g', q1, a0, a1, a4, a5, a6, rfl⟩
 · rintro k env hh ⟨F, j, g, q, g0, g1, g4, g5, g6, rfl⟩
   have jl := q.jl
   refine look_round F.wf (F.get ob) (tb.fr F) op q hn g0 g1 g4 g5 g6 ?_ ?_
   · intro env' h' at' found e4 e5 L F'
     show RetQ _ _ _ _ _
     simp only [evs, e4, e5]
     exact ⟨_, _, rfl, L, F.then F'⟩
   · intro env' h' g' q1 a0 a1 a4 a5 a6 F'
     exact ⟨rfl, sl.length - (j + 1), by omega, F.then F', j + 1, g', q1, a0, a1, a4, a5, a6, rfl⟩
structure KmT (h : Heap) (b S : Nat) (v : V) (sl : List Slot) (m : Nat → Option Nat) (c t : Nat) : Prop where
 ob : Own h b [v, .int .i64 (c : Int), .int .i64 (t : Int)]
 tb : Tb h v S sl
 op : Opn mix sl
 n8 : 8 ≤ sl.length
 nb : sl.length ≤ 20000
 c1 : cnS 1 sl = c
 c2 : cnS 2 sl = t
 mp : ∀ k x : Nat, m k = some x ↔ ∃ i : Nat, sl[i]? = some (1, k, x)
 kb : ∀ s ∈ sl, s.2.1 < 18446744073709551616 ∧ s.2.2 < 4611686018427387904
def Km (h : Heap) (b S : Nat) (m : Nat → Option Nat) (c : Nat) : Prop :=
 (Own h b [.nils, .int .i64 0, .int .i64 0] ∧ c = 0 ∧ ∀ k, m k = none) ∨ ∃ v sl t, KmT h b S v sl m c t ∧ 4 * (c + t) ≤ 3 * sl.length
theorem KmT.fr {h h' : Heap} {b S : Nat} {v : V} {sl : List Slot} {m : Nat → Option Nat} {c t : Nat} (k : KmT h b S v sl m c t) (f : Fr [] h h') : KmT h' b S v sl m c t := { k with ob := f.get k.ob, tb := k.tb.fr f }
theorem Km.fr {h h' : Heap} {b S : Nat} {m : Nat → Option Nat} {c : Nat} (k : Km h b S m c) (f : Fr [] h h') : Km h' b S m c := by
 rcases k with ⟨o, x⟩ | ⟨v, sl, t, k, x⟩
 · exact .inl ⟨f.get o, x⟩
 · exact .inr ⟨v, sl, t, k.fr f, x⟩
theorem KmT.sum {h : Heap} {b S : Nat} {v : V} {sl : List Slot} {m : Nat → Option Nat} {c t : Nat} (k : KmT h b S v sl m c t) : cnS 0 sl + c + t = sl.length := by
 have := cnS_sum k.op.st
 rw [k.c1, k.c2] at this
 exact this
theorem KmT.ne {h : Heap} {b S : Nat} {v : V} {sl : List Slot} {m : Nat → Option Nat} {c t : Nat} (k : KmT h b S v sl m c t) : b ≠ S := by
 rintro rfl
 have e := k.ob.uniq k.tb.2
 have := congrArg List.length e
 rw [flat3] at this
 have := k.n8
 simp at *
 omega
theorem KmT.some_c {h : Heap} {b S : Nat} {v : V} {sl : List Slot} {m : Nat → Option Nat} {c t : Nat} (k : KmT h b S v sl m c t) {key x : Nat} (e : m key = some x) : 0 < c := by
 obtain ⟨i, hi⟩ := (k.mp key x).1 e
 rw [← k.c1]
 unfold cnS
 rw [List.countP_pos_iff]
 exact ⟨_, List.mem_of_getElem? hi, by simp⟩
theorem kNew_ok {h : Heap} (w : WF h) : Does go 42 [] h fun u h' => ∃ b, u = .ptr b 0 ∧ h.next ≤ b ∧ Km h' b b (fun _ => none) 0 ∧ Fr [] h h' := by
 refine does_fn g42 rfl ?_
 simp only [fn42, evs, ↓reduceIte]
 exact ⟨_, rfl, Nat.le_refl _, .inl ⟨Own.new w _, rfl, fun _ => rfl⟩, Fr.halloc w _⟩
theorem kLen_ok {h : Heap} {b S : Nat} {m : Nat → Option Nat} {c : Nat} (k : Km h b S m c) : Does go 107 [.ptr b 0] h fun u h' => u = .int .i64 (c : Int) ∧ h' = h := by
 have q : hload1 h b 1 = some (.int .i64 (c : Int)) := by
  rcases k with ⟨o, rfl, _⟩ | ⟨v, sl, t, k, _⟩
  · exact o.ld1 1
  · exact k.ob.ld1 1
 refine does_fn g107 rfl ?_
 simp only [fn107, evs, ↓reduceIte, Nat.reduceEqDiff, q]
def getV' (o : Option Nat) : V := match o with
 | some x => .tup [.int .i64 (x : Int), .bool true]
 | none => .tup [.int .i64 0, .bool false]
theorem kGet_ok {h : Heap} {b S key : Nat} {m : Nat → Option Nat} {c : Nat} (w : WF h) (k : Km h b S m c) (hk : key < 18446744073709551616) : Does go 51 [.ptr b 0, .int .u64 (key : Int)] h fun u h' => u = getV' (m key) ∧ Fr [] h h' := by
 have k0 := k
 refine does_fn g51 rfl ?_
 simp only [fn51, evs, ↓reduceIte, Nat.reduceEqDiff, Nat.reduceAdd]
 refine OQ_does (kLen_ok k) ?_
 rintro _ _ ⟨rfl, hh⟩
 replace hh := hh.symm
 subst hh
 by_cases hc : (c : Int) = 0
 · have e : m key = none := by
    rcases k with ⟨o, _, h1⟩ | ⟨v, sl, t, k, _⟩
    · exact h1 key
    · cases e : m key with
      | none => rfl
      | some x => have := k.some_c e; omega
   rw [e]
   simp only [evs, ↓reduceIte, Nat.reduceEqDiff, hc]
   exact ⟨rfl, Fr.refl w⟩
 · rcases k with ⟨o, h0, h1⟩ | ⟨v, sl, t, k, _⟩
   · exact absurd (by omega) hc
   · simp only [evs, ↓reduceIte, Nat.reduceEqDiff, eq_false hc]
     refine OQ_does (look_ok w k.ob k.tb k.op (by have := k.nb; omega) hk) ?_
     rintro _ h2 ⟨at', found, rfl, L, F⟩
     cases found
     · have e : m key = none := by
        cases e : m key with
        | none => rfl
        | some x => obtain ⟨i, hi⟩ := (k.mp key x).1 e; exact absurd hi ((L.no rfl).1 i x)
       rw [e]
       simp only [evs, ↓reduceIte, Nat.reduceEqDiff]
       exact ⟨rfl, F⟩
     · obtain ⟨x, hx⟩ := L.yes rfl
       have e : m key = some x := (k.mp key x).2 ⟨_, hx⟩
       have k2 := k.fr F
       have ix := k2.tb.ix _ L.lt
       have l0 : hload1 h2 b 0 = some v := k2.ob.ld1 0
       have l2 : hload1 h2 S (at' * 3 + 2) = some (.int .i64 (x : Int)) := by
        obtain ⟨b1, o1, y, e1, e2, _, e4⟩ := Recs.ix sc_len k2.tb.recs .i64 (at' : Nat) (by omega) (by have := L.lt; omega)
        rw [ix] at e1
        obtain ⟨rfl, rfl⟩ : S = b1 ∧ at' * 3 = o1 := by simpa using e1
        simp only [Int.toNat_natCast] at e4
        rw [hx] at e4; cases e4
        exact (e2 2 (by omega)).trans rfl
       rw [e]
       simp only [evs, ↓reduceIte, Nat.reduceEqDiff, l0, ix, l2]
       exact ⟨rfl, F⟩
theorem flat_upd (x : Slot) : ∀ (sl : List Slot) (i : Nat), i < sl.length → updO (sl.flatMap sc) (i * 3) (sc x) = some ((sl.set i x).flatMap sc)
 | [], i, h => by simp at h
 | y :: l, 0, _ => by
  show updO (V.int .u8 (y.1 : Int) :: V.int .u64 (y.2.1 : Int) :: V.int .i64 (y.2.2 : Int) :: l.flatMap sc) 0 [V.int .u8 (x.1 : Int), V.int .u64 (x.2.1 : Int), V.int .i64 (x.2.2 : Int)] = _
  rw [updO_zero_cons, updO_zero_cons, updO_zero_cons, updO_nilv]; rfl
 | y :: l, i + 1, h => by
  have ih := flat_upd x l i (by simpa using h)
  rw [show (i + 1) * 3 = i * 3 + 1 + 1 + 1 by omega]
  show updO (V.int .u8 (y.1 : Int) :: V.int .u64 (y.2.1 : Int) :: V.int .i64 (y.2.2 : Int) :: l.flatMap sc) (i * 3 + 1 + 1 + 1) (sc x) = _
  rw [updO_succ, updO_succ, updO_succ, ih]; rfl
theorem flat_upd2 (k v v' : Nat) : ∀ (sl : List Slot) (i : Nat), sl[i]? = some (1, k, v) → updO (sl.flatMap sc) (i * 3 + 2) [V.int .i64 (v' : Int)] = some ((sl.set i (1, k, v')).flatMap sc)
 | [], i, h => by simp at h
 | y :: l, 0, h => by
  simp at h; subst h
  show updO (V.int .u8 ((1 : Nat) : Int) :: V.int .u64 (k : Int) :: V.int .i64 (v : Int) :: l.flatMap sc) (0 + 1 + 1) [V.int .i64 (v' : Int)] = _
  rw [updO_succ, updO_succ, updO_zero_cons, updO_nilv]; rfl
 | y :: l, i + 1, h => by
  have ih := flat_upd2 k v v' l i (by simpa using h)
  rw [show (i + 1) * 3 + 2 = i * 3 + 2 + 1 + 1 + 1 by omega]
  show updO (V.int .u8 (y.1 : Int) :: V.int .u64 (y.2.1 : Int) :: V.int .i64 (y.2.2 : Int) :: l.flatMap sc) (i * 3 + 2 + 1 + 1 + 1) [V.int .i64 (v' : Int)] = _
  rw [updO_succ, updO_succ, updO_succ, ih]; rfl
theorem Tb.put {h h1 : Heap} {v : V} {S i : Nat} {sl : List Slot} {x : Slot} (t : Tb h v S sl) (o : Own h1 S ((sl.set i x).flatMap sc)) : Tb h1 v S (sl.set i x) := ⟨by rw [List.length_set]; exact t.1, o⟩
theorem mem_set_kb {sl : List Slot} {i : Nat} {x : Slot} (kb : ∀ s ∈ sl, s.2.1 < 18446744073709551616 ∧ s.2.2 < 4611686018427387904) (hx : x.2.1 < 18446744073709551616 ∧ x.2.2 < 4611686018427387904) : ∀ s ∈ sl.set i x, s.2.1 < 18446744073709551616 ∧ s.2.2 < 4611686018427387904 := by
 intro s hs
 rcases List.mem_or_eq_of_mem_set hs with h | rfl
 · exact kb s h
 · exact hx
theorem room2 {sl : List Slot} (h : 2 ≤ cnS 0 sl) (a : Nat) : ∃ (i : Nat) (s : Slot), i ≠ a ∧ sl[i]? = some s ∧ s.1 = 0 := by
 by_cases ha : a < sl.length
 · have e := cnS_set (c := 0) (x := ((1, 0, 0) : Slot)) (List.getElem?_eq_getElem ha)
   have h2 : 0 < cnS 0 (sl.set a (1, 0, 0)) := by
    simp only [Nat.one_ne_zero, if_false] at e
    split at e <;> omega
   obtain ⟨i, s, hi, hs⟩ := cnS_room (n := 0) h2
   rcases set_get _ _ _ _ _ hi with ⟨_, rfl, _⟩ | ⟨ci, hi⟩
   · cases hs
   · exact ⟨i, s, ci, hi, hs⟩
 · obtain ⟨i, s, hi, hs⟩ := cnS_room (n := 0) (sl := sl) (by omega)
   have := (List.getElem?_eq_some_iff.1 hi).1
   exact ⟨i, s, by omega, hi, hs⟩
theorem cnS_take {c i : Nat} {sl : List Slot} {s : Slot} (h : sl[i]? = some s) : cnS c (sl.take (i + 1)) = cnS c (sl.take i) + (if s.1 = c then 1 else 0) := by
 unfold cnS
 rw [List.take_add_one, h, List.countP_append]
 simp [List.countP_cons]
theorem cnS_take_le (c i : Nat) (sl : List Slot) : cnS c (sl.take i) ≤ cnS c sl := by
 unfold cnS
 exact List.Sublist.countP_le (List.take_sublist i sl)
def Old (h : Heap) (b S : Nat) (v : V) (ol : List Slot) : Prop := (v = .nils ∧ ol = []) ∨ (Tb h v S ol ∧ b ≠ S ∧ S < h.next)
theorem Old.recs {h : Heap} {b S : Nat} {v : V} {ol : List Slot} (o : Old h b S v ol) : Recs sc 3 h v ol := by
 rcases o with ⟨rfl, rfl⟩ | ⟨t, _⟩
 · exact Recs.nil
 · exact t.recs
theorem Old.fr {h h' : Heap} {b S : Nat} {v : V} {ol : List Slot} (o : Old h b S v ol) (f : Fr [b] h h') : Old h' b S v ol := by
 rcases o with o | ⟨t, ne, lt⟩
 · exact .inl o
 · exact .inr ⟨⟨t.1, f.own S _ (by simp; exact fun e => ne e.symm) t.2⟩, ne, Nat.lt_of_lt_of_le lt f.next⟩
structure Moved (sl ol : List Slot) (i : Nat) : Prop where
 op : Opn mix sl
 c1 : cnS 1 sl = cnS 1 (ol.take i)
 c2 : cnS 2 sl = 0
 mp : ∀ k x : Nat, (∃ j : Nat, sl[j]? = some (1, k, x)) ↔ ∃ j : Nat, j < i ∧ ol[j]? = some (1, k, x)
 kb : ∀ s ∈ sl, s.2.1 < 18446744073709551616 ∧ s.2.2 < 4611686018427387904
theorem Moved.skip {sl ol : List Slot} {i : Nat} {s : Slot} (m : Moved sl ol i) (h : ol[i]? = some s) (hs : s.1 ≠ 1) : Moved sl ol (i + 1) := by
 refine { m with c1 := by rw [cnS_take h, if_neg hs]; exact m.c1, mp := fun k x => (m.mp k x).trans ⟨fun ⟨j, a, b⟩ => ⟨j, by omega, b⟩, fun ⟨j, a, b⟩ => ?_⟩ }
 refine ⟨j, ?_, b⟩
 rcases Nat.lt_or_ge j i with q | q
 · exact q
 · have : j = i := by omega
   subst this; rw [h] at b; cases b; exact absurd rfl hs
theorem Moved.put {sl ol : List Slot} {i k x a : Nat} (m : Moved sl ol i) (h : ol[i]? = some (1, k, x)) (L : Looked mix sl k a false) (hk : k < 18446744073709551616) (hx : x < 4611686018427387904) (rm : 2 ≤ cnS 0 sl) : Moved (sl.set a (1, k, x)) ol (i + 1) := by
 obtain ⟨no, ⟨s0, hs0, h0⟩, _⟩ := L.no rfl
 have z2 : s0.1 ≠ 2 := by
  intro e
  have := m.c2
  unfold cnS at this
  rw [List.countP_eq_zero] at this
  exact this s0 (List.mem_of_getElem? hs0) (by simp [e])
 have e1 := cnS_set (c := 1) (x := ((1, k, x) : Slot)) hs0
 have e2 := cnS_set (c := 2) (x := ((1, k, x) : Slot)) hs0
 simp only [if_neg h0, if_neg z2, if_true] at e1 e2
 refine ⟨m.op.put L x (room2 rm a), ?_, ?_, fun k' x' => ⟨?_, ?_⟩, mem_set_kb m.kb ⟨hk, hx⟩⟩
 · rw [cnS_take h, if_pos rfl, ← m.c1]; omega
 · have := m.c2; simp at e2; omega
 · rintro ⟨j, hj⟩
   rcases set_get _ _ _ _ _ hj with ⟨_, e, _⟩ | ⟨cj, hj⟩
   · cases e; exact ⟨i, by omega, h⟩
   · obtain ⟨j', l', e'⟩ := (m.mp k' x').1 ⟨j, hj⟩
     exact ⟨j', by omega, e'⟩
 · rintro ⟨j, lj, hj⟩
   by_cases c : j = i
   · subst c; rw [h] at hj; cases hj
     exact ⟨a, set_get_self _ L.lt⟩
   · obtain ⟨j', hj'⟩ := (m.mp k' x').2 ⟨j, by omega, hj⟩
     refine ⟨j', ?_⟩
     rw [List.getElem?_set_ne]
     · exact hj'
     · rintro rfl
       rw [hs0] at hj'; cases hj'; exact h0 rfl
theorem repl_flat (n : Nat) : repL [V.int .u8 0, V.int .u64 0, V.int .i64 0] n = (List.replicate n ((0, 0, 0) : Slot)).flatMap sc := by
 induction n with
 | zero => rfl
 | succ n ih => show [V.int .u8 0, V.int .u64 0, V.int .i64 0] ++ repL _ n = _; rw [ih, List.replicate_succ]; rfl
theorem cnS_zero (c n : Nat) (hc : c ≠ 0) : cnS c (List.replicate n (0, 0, 0)) = 0 := by
 unfold cnS
 rw [List.countP_eq_zero]
 intro s hs
 rw [List.eq_of_mem_replicate hs]
 simp; omega
end Go.Ev.Lay
