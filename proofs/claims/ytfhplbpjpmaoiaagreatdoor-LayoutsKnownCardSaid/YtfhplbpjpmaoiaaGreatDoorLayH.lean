/- An evaluator of the program and contracts proved over it: the texts LayZ LayZa LayZb. -/
import Derived.Test.YtfhplbpjpmaoiaaGreatDoorLayF
set_option linter.unusedSimpArgs false
set_option linter.unusedVariables false
set_option linter.constructorNameAsVariable false
/- Layouts: Attached. -/
namespace Go.Ev.Lay
set_option maxRecDepth 4000
theorem app_cap {h : Heap} {b b' len cap bytes : Nat} {c : List V} {x : V} {K : V → Heap → Prop} (w : WF h) (o : Own h b c) (o' : Own h b' [x]) (hc : c.length = cap) (hl : len < cap) (h1 : x.one = true)
    (k : ∀ h', Own h' b (c.set len x) → Fr [b] h h' → h'.next = h.next → K (.slice b 0 (len + 1) cap) h') : OQ (aapp h 1 bytes (.slice b 0 len cap) (.slice b' 0 1 1)) K := by
  have s : Sl h 1 (.slice b' 0 1 1) 1 [x] := Sl.lit o' rfl
  unfold aapp
  rw [s.srcLen]
  simp only []
  rw [beq_ff (by omega), cond_false, s.srcCells]
  simp only []
  rw [(Nat.ble_eq ..).mpr (show len + 1 ≤ cap by omega), cond_true]
  obtain ⟨h', e1, o1, f1, n1⟩ := own_store (o := 0 + len * 1) (vs := [x]) w o (by simp [onesB, h1]) (updO_set1 c (0 + len * 1) x (by omega))
  rw [e1]
  simp only [Option.map_some]
  rw [Nat.zero_add, Nat.mul_one] at o1
  exact (OQ_some _ _ _).2 (k h' o1 f1 n1)
/-- numbers from one on -/
def rng (f : Int) (n : Nat) : List Int := (List.range n).map fun (j : Nat) => f + (j : Int)
theorem rng_len (f : Int) (n : Nat) : (rng f n).length = n := by simp [rng]
theorem rng_succ (f : Int) (n : Nat) : rng f (n + 1) = rng f n ++ [f + n] := by simp [rng, List.range_succ]
theorem fill_set (A : List Int) (x : Int) (m : Nat) (h : 0 < m) : (A.map (V.int .i64) ++ List.replicate m (V.int .i64 0)).set A.length (V.int .i64 x) = (A ++ [x]).map (V.int .i64) ++ List.replicate (m - 1) (V.int .i64 0) := by
  have hl : (A.map (V.int .i64)).length = A.length := by simp
  rw [List.set_append, if_neg (by omega), hl, Nat.sub_self]
  obtain ⟨k, rfl⟩ : ∃ k, m = k + 1 := ⟨m - 1, by omega⟩
  rw [List.replicate_succ, List.set_cons_zero]
  simp
theorem locate_mono : ∀ (l : List Int) {x y : Int}, x ≤ y → (locate l x).1 ≤ (locate l y).1
  | [], _, _, _ => Nat.le_refl _
  | s :: l, x, y, h => by
    simp only [locate]
    by_cases c : y < s
    · rw [if_pos c, if_pos (by omega)]; omega
    · rw [if_neg c]
      by_cases c2 : x < s
      · rw [if_pos c2]; omega
      · rw [if_neg c2]; have := locate_mono l (x := x - s) (y := y - s) (by omega); simp; omega
/-- the attached rows: the head apart, and the window -/
def AttS (l : List Int) (bs : List Bool) (view over s : Int) (A : List Int) : Prop := ∃ hr he, HeadS l bs s hr he ∧
  A = (if he = 0 ∧ hr < (winL l view over s).1 then [hr] else []) ++ rng (winL l view over s).1 ((winL l view over s).2 - (winL l view over s).1).toNat
theorem LAtt_ok {h : Heap} {b : Nat} {l : List Int} {ks bs : List Bool} {s view over : Int} {lo : Bool} (w : WF h) (g : Glb h) (a : Lo h b l ks bs) (pos : ∀ x ∈ l, 1 ≤ x) (s0 : -9223372036854775808 ≤ s) (s1 : s ≤ 9223372036854775807) :
    Does go 11 [.ptr b 0, .agg [.int .i64 view, .int .i64 over, .bool lo], .int .i64 s] h fun u h' => Fr [] h h' ∧ if okF view over then if clampL l view s = s then if l = [] then u = .tup [.nils, .int .i64 0] else
      ∃ A c, u = .tup [.slice c 0 A.length A.length, .int .i64 0] ∧ Own h' c (A.map (V.int .i64)) ∧ h.next ≤ c ∧ AttS l bs view over s A
      else u = .tup [.nils, .int .i64 4] else u = .tup [.nils, .int .i64 1] := by
  have al := a
  obtain ⟨p, vk, pm, o, v1, ix, mk, e⟩ := a
  have lm := ix.len.2
  obtain ⟨h1, e_h1⟩ : ∃ h1, h1 = halloc h [.int .i64 view, .int .i64 over, .bool lo] := ⟨_, rfl⟩
  have F_h1 : Fr [] h h1 := e_h1 ▸ Fr.halloc w _
  have o_h1 : Own h1 h.next [.int .i64 view, .int .i64 over, .bool lo] := e_h1 ▸ Own.new w _
  refine does_fn g11 rfl ?_
  simp (disch := omega) only [fn11, evs, ↓reduceIte, Nat.reduceEqDiff, Nat.reduceAdd, Nat.reduceMul, Nat.reduceLeDiff, Nat.reduceLT, Int.reduceNeg, DF, eff, Nat.reduceSub, fwrap_i64, ← e_h1, o_h1.ld]
  refine OQ_does (LWindow_ok F_h1.wf (al.fr F_h1) pos s0 s1) ?_
  rintro _ h2 ⟨rfl, F2⟩
  have F12 := F_h1.then F2
  unfold winE
  by_cases c : okF view over
  · rw [if_pos c]
    by_cases c2 : clampL l view s = s
    · rw [if_pos c2]
      by_cases c3 : l = []
      · rw [if_pos c3]
        simp (disch := omega) only [evs, ↓reduceIte, Nat.reduceEqDiff, Nat.reduceAdd, Nat.reduceMul, Nat.reduceLeDiff, Nat.reduceLT, Int.reduceNeg, DF, eff, Nat.reduceSub, fwrap_i64]
        rw [if_pos c, if_pos c2, if_pos c3]
        exact ⟨F12, trivial⟩
      · rw [if_neg c3]
        have hs : 0 ≤ s ∧ s ≤ max 0 (l.sum - view) := by unfold clampL at c2; omega
        have hp := pos_sum pos c3
        obtain ⟨k1, k2, k3, k4⟩ := c
        have hsum : s < l.sum := by omega
        have lt1 := locate_lt hs.1 hsum
        have ll : 0 ≤ lastL l view s ∧ lastL l view s < l.length := by
          unfold lastL
          split
          · have := locate_lt (l := l) (x := s + view - 1) (by omega) (by assumption); omega
          · have := List.length_pos_iff.2 c3; omega
        have lord : ((locate l s).1 : Int) ≤ lastL l view s := by
          unfold lastL
          split
          · have := locate_mono l (x := s) (y := s + view - 1) (by omega); omega
          · omega
        obtain ⟨f, hf⟩ : ∃ f, f = (winL l view over s).1 := ⟨_, rfl⟩
        obtain ⟨t, ht⟩ : ∃ t, t = (winL l view over s).2 := ⟨_, rfl⟩
        have bf : 0 ≤ f ∧ f < t ∧ t ≤ l.length := by
          have e1 : f = max 0 (((locate l s).1 : Int) - over) := hf
          have e2 : t = min (l.length : Int) (lastL l view s + 1 + over) := ht
          omega
        rw [← hf, ← ht]
        simp (disch := omega) only [evs, ↓reduceIte, Nat.reduceEqDiff, Nat.reduceAdd, Nat.reduceMul, Nat.reduceLeDiff, Nat.reduceLT, Int.reduceNeg, DF, eff, Nat.reduceSub, fwrap_i64, show ¬ t = 0 by omega]
        refine OQ_does (LHead_ok F2.wf (g.fr F12) (al.fr F12) s0 s1) ?_
        rintro _ h3 ⟨⟨hr, he, rfl, hs'⟩, F3⟩
        have F13 := F12.then F3
        have hee : he = 0 ∨ he = 11 := by
          have h0 := hs'
          unfold HeadS at h0
          rw [if_neg (by simp [c3]), if_pos ⟨hs.1, hsum⟩] at h0
          split at h0 <;> omega
        have hrb : he = 0 → 0 ≤ hr ∧ hr < l.length := fun h0 => by
          obtain ⟨_, _, q, rfl, hq⟩ := hs'.zero h0
          omega
        have three : (he = 0 ∧ hr < f) ∨ (he = 0 ∧ ¬ hr < f) ∨ he = 11 := by omega
        rcases three with ⟨he0, ap2⟩ | ⟨he0, ap2⟩ | he0
        case' inl =>
          subst he0
          have hrb := hrb rfl
          simp (disch := omega) only [evs, ↓reduceIte, Nat.reduceEqDiff, Nat.reduceAdd, Nat.reduceMul, Nat.reduceLeDiff, Nat.reduceLT, Int.reduceNeg, DF, eff, Nat.reduceSub, fwrap_i64, ap2]
          refine (amake_ok _ _ _ _ _ _ _ _ (by omega) (by omega) (by omega) (by omega)).2 ?_
          rw [repL_one]
          obtain ⟨n, hn⟩ : ∃ n : Nat, n = (t - f + 1).toNat := ⟨_, rfl⟩
          rw [← hn, show (0 : Int).toNat = 0 from rfl]
          obtain ⟨h4, e_h4⟩ : ∃ h4, h4 = halloc h3 (List.replicate n (V.int .i64 0)) := ⟨_, rfl⟩
          have F_h4 : Fr [] h3 h4 := e_h4 ▸ Fr.halloc F3.wf _
          have o_h4 : Own h4 h3.next (List.replicate n (V.int .i64 0)) := e_h4 ▸ Own.new F3.wf _
          obtain ⟨h5, e_h5⟩ : ∃ h5, h5 = halloc h4 [.int .i64 hr] := ⟨_, rfl⟩
          have F_h5 : Fr [] h4 h5 := e_h5 ▸ Fr.halloc F_h4.wf _
          have o_h5 : Own h5 h4.next [.int .i64 hr] := e_h5 ▸ Own.new F_h4.wf _
          simp (disch := omega) only [evs, ↓reduceIte, Nat.reduceEqDiff, Nat.reduceAdd, Nat.reduceMul, Nat.reduceLeDiff, Nat.reduceLT, Int.reduceNeg, DF, eff, Nat.reduceSub, fwrap_i64, ← e_h4, ← e_h5]
          refine app_cap F_h5.wf (F_h5.get o_h4) o_h5 (by simp) (by omega) rfl ?_
          intro h6 o6 F6 n6
          obtain ⟨pre, hpre⟩ : ∃ pre : List Int, pre = [hr] := ⟨_, rfl⟩
          have o6' : Own h6 h3.next (pre.map (V.int .i64) ++ List.replicate (n - pre.length) (V.int .i64 0)) := by
            have := fill_set [] hr n (by omega)
            simp only [List.map_nil, List.nil_append, List.length_nil] at this
            rw [hpre]
            show Own h6 h3.next ([hr].map (V.int .i64) ++ List.replicate (n - 1) (V.int .i64 0))
            rw [← this]; exact o6
          have F16 : Fr [] h h6 := (F13.then (F_h4.then F_h5)).fresh F6 w F13.next
          have hpl : pre.length = 1 := by rw [hpre]; rfl
          have hpe : pre = if (0 : Int) = 0 ∧ hr < f then [hr] else [] := by rw [hpre, if_pos ⟨rfl, ap2⟩]
          have hnn : (n : Int) = pre.length + (t - f) := by omega
          simp (disch := omega) only [evs, ↓reduceIte, Nat.reduceEqDiff, Nat.reduceAdd, Nat.reduceMul, Nat.reduceLeDiff, Nat.reduceLT, Int.reduceNeg, DF, eff, Nat.reduceSub, fwrap_i64]
        case' inr.inl =>
          subst he0
          simp (disch := omega) only [evs, ↓reduceIte, Nat.reduceEqDiff, Nat.reduceAdd, Nat.reduceMul, Nat.reduceLeDiff, Nat.reduceLT, Int.reduceNeg, DF, eff, Nat.reduceSub, fwrap_i64, ap2]
          refine (amake_ok _ _ _ _ _ _ _ _ (by omega) (by omega) (by omega) (by omega)).2 ?_
          rw [repL_one]
          obtain ⟨n, hn⟩ : ∃ n : Nat, n = (t - f).toNat := ⟨_, rfl⟩
          rw [← hn, show (0 : Int).toNat = 0 from rfl]
          obtain ⟨h6, e_h6⟩ : ∃ h6, h6 = halloc h3 (List.replicate n (V.int .i64 0)) := ⟨_, rfl⟩
          have F_h6 : Fr [] h3 h6 := e_h6 ▸ Fr.halloc F3.wf _
          have o_h6 : Own h6 h3.next (List.replicate n (V.int .i64 0)) := e_h6 ▸ Own.new F3.wf _
          obtain ⟨pre, hpre⟩ : ∃ pre : List Int, pre = [] := ⟨_, rfl⟩
          have o6' : Own h6 h3.next (pre.map (V.int .i64) ++ List.replicate (n - pre.length) (V.int .i64 0)) := by rw [hpre]; simpa using o_h6
          have F16 : Fr [] h h6 := F13.then F_h6
          have hpl : pre.length = 0 := by rw [hpre]; rfl
          have hpe : pre = if (0 : Int) = 0 ∧ hr < f then [hr] else [] := by rw [hpre, if_neg (fun x => ap2 x.2)]
          have hnn : (n : Int) = pre.length + (t - f) := by omega
          simp (disch := omega) only [evs, ↓reduceIte, Nat.reduceEqDiff, Nat.reduceAdd, Nat.reduceMul, Nat.reduceLeDiff, Nat.reduceLT, Int.reduceNeg, DF, eff, Nat.reduceSub, fwrap_i64, ← e_h6]
        case' inr.inr =>
          subst he0
          simp (disch := omega) only [evs, ↓reduceIte, Nat.reduceEqDiff, Nat.reduceAdd, Nat.reduceMul, Nat.reduceLeDiff, Nat.reduceLT, Int.reduceNeg, DF, eff, Nat.reduceSub, fwrap_i64, show ¬ (11 : Int) = 0 by omega]
          refine (amake_ok _ _ _ _ _ _ _ _ (by omega) (by omega) (by omega) (by omega)).2 ?_
          rw [repL_one]
          obtain ⟨n, hn⟩ : ∃ n : Nat, n = (t - f).toNat := ⟨_, rfl⟩
          rw [← hn, show (0 : Int).toNat = 0 from rfl]
          obtain ⟨h6, e_h6⟩ : ∃ h6, h6 = halloc h3 (List.replicate n (V.int .i64 0)) := ⟨_, rfl⟩
          have F_h6 : Fr [] h3 h6 := e_h6 ▸ Fr.halloc F3.wf _
          have o_h6 : Own h6 h3.next (List.replicate n (V.int .i64 0)) := e_h6 ▸ Own.new F3.wf _
          obtain ⟨pre, hpre⟩ : ∃ pre : List Int, pre = [] := ⟨_, rfl⟩
          have o6' : Own h6 h3.next (pre.map (V.int .i64) ++ List.replicate (n - pre.length) (V.int .i64 0)) := by rw [hpre]; simpa using o_h6
          have F16 : Fr [] h h6 := F13.then F_h6
          have hpl : pre.length = 0 := by rw [hpre]; rfl
          have hpe : pre = if (11 : Int) = 0 ∧ hr < f then [hr] else [] := by rw [hpre, if_neg (fun x => by omega)]
          have hnn : (n : Int) = pre.length + (t - f) := by omega
          simp (disch := omega) only [evs, ↓reduceIte, Nat.reduceEqDiff, Nat.reduceAdd, Nat.reduceMul, Nat.reduceLeDiff, Nat.reduceLT, Int.reduceNeg, DF, eff, Nat.reduceSub, fwrap_i64, ← e_h6]
        all_goals
          clear hee hrb hn hpre
          refine W_loop (fun k env hh => ∃ j : Nat, Fr [] h hh ∧ env.get 15 = some (.int .i64 (f + j)) ∧ env.get 9 = some (.int .i64 t) ∧ env.get 14 = some (.slice h3.next 0 (pre.length + j) n) ∧ f + j ≤ t ∧
            Own hh h3.next ((pre ++ rng f j).map (V.int .i64) ++ List.replicate (n - (pre.length + j)) (V.int .i64 0)) ∧ k = (t - f).toNat - j) (t - f).toNat (by omega) ?_ ?_
          · exact ⟨0, F16, (by simp [T.get_set]), (by simp [T.get_set]), (by simp [T.get_set, hpl]), by omega, by simpa [rng] using o6', rfl⟩
          · rintro k env hh ⟨j, F, g15, g9, g14, hj, oo, rfl⟩
            by_cases hlt : f + (j : Int) < t
            · obtain ⟨h7, e_h7⟩ : ∃ h7, h7 = halloc hh [.int .i64 (f + j)] := ⟨_, rfl⟩
              have F_h7 : Fr [] hh h7 := e_h7 ▸ Fr.halloc F.wf _
              have o_h7 : Own h7 hh.next [.int .i64 (f + j)] := e_h7 ▸ Own.new F.wf _
              simp (disch := omega) only [evs, ↓reduceIte, Nat.reduceEqDiff, Nat.reduceAdd, Nat.reduceMul, Nat.reduceLeDiff, Nat.reduceLT, Int.reduceNeg, DF, eff, Nat.reduceSub, fwrap_i64, g15, g9, g14, hlt, ← e_h7]
              refine app_cap F_h7.wf (F_h7.get oo) o_h7 (by simp [rng_len]; omega) (by omega) rfl ?_
              intro h8 o8 F8 n8
              have e8 := fill_set (pre ++ rng f j) (f + j) (n - (pre.length + j)) (by omega)
              rw [show (pre ++ rng f j).length = pre.length + j by simp [rng_len]] at e8
              rw [e8, List.append_assoc, ← rng_succ] at o8
              simp (disch := omega) only [evs, ↓reduceIte, Nat.reduceEqDiff, Nat.reduceAdd, Nat.reduceMul, Nat.reduceLeDiff, Nat.reduceLT, Int.reduceNeg, DF, eff, Nat.reduceSub, fwrap_i64, g15, g9, g14]
              refine (roundQ_norm _ _ _).2 ⟨(t - f).toNat - (j + 1), by omega, j + 1, (F.then F_h7).fresh F8 w F13.next, (by simp [T.get_set]; omega), (by simp [T.get_set, g9]), (by simp [T.get_set]; omega), by omega, by rw [show n - (pre.length + (j + 1)) = n - (pre.length + j) - 1 by omega]; exact o8, rfl⟩
              done
            · simp (disch := omega) only [evs, ↓reduceIte, Nat.reduceEqDiff, Nat.reduceAdd, Nat.reduceMul, Nat.reduceLeDiff, Nat.reduceLT, Int.reduceNeg, DF, eff, Nat.reduceSub, fwrap_i64, g15, g9, g14, hlt]
              rw [if_pos ⟨k1, k2, k3, k4⟩, if_pos c2, if_neg c3]
              have ej : j = (t - f).toNat := by omega
              have en : n = pre.length + j := by omega
              rw [show n - (pre.length + j) = 0 by omega, List.replicate_zero, List.append_nil] at oo
              refine ⟨F, pre ++ rng f j, h3.next, ?_, oo, F13.next, hr, _, hs', ?_⟩
              · rw [en]; simp [rng_len]
              · rw [← hf, ← ht, ej]; congr 1
    · rw [if_neg c2]
      simp (disch := omega) only [evs, ↓reduceIte, Nat.reduceEqDiff, Nat.reduceAdd, Nat.reduceMul, Nat.reduceLeDiff, Nat.reduceLT, Int.reduceNeg, DF, eff, Nat.reduceSub, fwrap_i64, show ¬ (4 : Int) = 0 by omega]
      rw [if_pos c, if_neg c2]
      exact ⟨F12, trivial⟩
  · rw [if_neg c]
    simp (disch := omega) only [evs, ↓reduceIte, Nat.reduceEqDiff, Nat.reduceAdd, Nat.reduceMul, Nat.reduceLeDiff, Nat.reduceLT, Int.reduceNeg, DF, eff, Nat.reduceSub, fwrap_i64, show ¬ (1 : Int) = 0 by omega]
    rw [if_neg c]
    exact ⟨F12, trivial⟩
end Go.Ev.Lay

/- Layouts: New, Set, Insert. -/
namespace Go.Ev.Lay
set_option maxRecDepth 4000
/-- a frame: what is neither block b nor flags stays -/
structure FrF (b : Nat) (h h' : Heap) : Prop where
  next : h.next ≤ h'.next
  wf : WF h'
  own : ∀ x c, x ≠ b → (∀ n m ws, ws.length = 64 → c ≠ flc n m ws) → Own h x c → Own h' x c
  pl : ∀ x c, x ≠ b → (∀ n m ws, ws.length = 64 → c ≠ flc n m ws) → Pl h x c → Pl h' x c
theorem frF {h h' : Heap} {b : Nat} (f : Fr [] h h') : FrF b h h' := ⟨f.next, f.wf, fun _ _ _ _ o => f.get o, fun _ _ _ _ o => f.pl _ _ (by simp) o⟩
theorem frFb {h h' : Heap} {b : Nat} (f : Fr [b] h h') : FrF b h h' := ⟨f.next, f.wf, fun _ _ hx _ o => f.own _ _ (by simpa using hx) o, fun _ _ hx _ o => f.pl _ _ (by simpa using hx) o⟩
theorem frFl {h h' : Heap} {b c : Nat} {bs : List Bool} (f : Fr [c] h h') (fl : Fl h c bs) : FrF b h h' := by
  obtain ⟨ws, o, ok, _⟩ := fl
  refine ⟨f.next, f.wf, fun x d _ hd ox => f.own _ _ ?_ ox, fun x d _ hd ox => f.pl _ _ ?_ ox⟩
  · simp only [List.mem_singleton]
    rintro rfl
    exact hd _ _ _ ok.len (ox.uniq o)
  · simp only [List.mem_singleton]
    rintro rfl
    exact hd _ _ _ ok.len (ox.own.uniq o)
theorem FrF.trans {b : Nat} {h h1 h2 : Heap} (a : FrF b h h1) (c : FrF b h1 h2) : FrF b h h2 :=
  ⟨Nat.le_trans a.next c.next, c.wf, fun x d hx hd o => c.own x d hx hd (a.own x d hx hd o), fun x d hx hd o => c.pl x d hx hd (a.pl x d hx hd o)⟩
theorem LNew_ok {h : Heap} (w : WF h) : Does go 46 [] h fun u h' => ∃ b, u = .ptr b 0 ∧ h.next ≤ b ∧ Lo h' b [] [] [] ∧ Own h' b [.nilp, .nils, .nilp] ∧ Fr [] h h' := by
  refine does_fn g46 rfl ?_
  simp (disch := omega) only [fn46, evs, ↓reduceIte, Nat.reduceEqDiff, Nat.reduceAdd, Nat.reduceMul, Nat.reduceLeDiff, Nat.reduceLT, Int.reduceNeg, DF, eff, Nat.reduceSub, fwrap_i64]
  refine ⟨_, rfl, Nat.le_refl _, ⟨none, .nils, none, Own.new w _, rfl, ⟨none, .nils, [], rfl, ⟨.nil, none, rfl, rfl, rfl, by simp, by simp, by simp⟩, .inl ⟨rfl, rfl⟩, ⟨trivial, by simp, fun i => by simp [inS]⟩, rfl, by simp⟩, rfl, rfl⟩, Own.new w _, Fr.halloc w _⟩
/-- the index of a layout behind a write to another block -/
theorem Ix.frb {h h' : Heap} {v : V} {l : List Int} {ks : List Bool} {b : Nat} {c : List V} (a : Ix h v l ks) (f : Fr [b] h h') (o : Own h b c) (h6 : c.length ≠ 6) (hc : ∀ L : List (Int × Int), 0 < L.length → c ≠ L.flatMap sp) : Ix h' v l ks := by
  obtain ⟨p, vk, L, e, r, s, x⟩ := a
  exact ⟨p, vk, L, e, r.frb f o h6, s.frb f o hc, x⟩
theorem Ix.frf {h h' : Heap} {v : V} {l : List Int} {ks : List Bool} {b : Nat} {bs : List Bool} (a : Ix h v l ks) (f : Fr [b] h h') (fl : Fl h b bs) : Ix h' v l ks := by
  obtain ⟨ws, o, ok, _⟩ := fl
  refine a.frb f o (by rw [flc_len, ok.len]; omega) fun L p e => ?_
  have hm : ∀ x ∈ flc (bs.length : Int) (bs.count true : Int) ws, ∃ n, x = .int .i64 n := by
    rw [e]
    intro x hx
    simp only [List.mem_flatMap, sp] at hx
    obtain ⟨s, _, hx⟩ := hx
    simp at hx
    rcases hx with rfl | rfl <;> exact ⟨_, rfl⟩
  cases ws with
  | nil => have := ok.len; simp at this
  | cons y ws =>
    obtain ⟨n, hn⟩ := hm (uw y) (by simp [flc])
    simp [uw] at hn
theorem noInt {p : Option Nat} {vk : V} {pm : Option Nat} (hvk : ∀ k n, vk ≠ .int k n) : ∀ x ∈ [pv p, vk, pv pm], ∀ k n, x ≠ .int k n := by
  intro x hx k n
  simp only [List.mem_cons, List.not_mem_nil, or_false] at hx
  rcases hx with rfl | rfl | rfl
  · cases p <;> simp [pv]
  · exact hvk k n
  · cases pm <;> simp [pv]
theorem Ix.noint {h : Heap} {p : Option Nat} {vk : V} {l : List Int} {ks : List Bool} (a : Ix h (.agg [pv p, vk]) l ks) : ∀ k n, vk ≠ .int k n := by
  obtain ⟨p', vk', L, e, r, s, _⟩ := a
  simp only [V.agg.injEq, List.cons.injEq, and_true] at e
  obtain ⟨_, rfl⟩ := e
  exact s.noint
theorem Ix.form {h : Heap} {c d : V} {l : List Int} {ks : List Bool} (a : Ix h (.agg [c, d]) l ks) : ∃ p, c = pv p := by
  obtain ⟨p', vk', L, e, _⟩ := a
  simp only [V.agg.injEq, List.cons.injEq, and_true] at e
  exact ⟨p', e.1⟩
theorem Mk.frb {h h' : Heap} {pm : Option Nat} {bs : List Bool} {b : Nat} {c : List V} (a : Mk h pm bs) (f : Fr [b] h h') (o : Own h b c) (h3 : c.length = 3) : Mk h' pm bs := by
  cases pm with
  | none => exact a
  | some q =>
    obtain ⟨ws, oq, ok, hn⟩ := a
    refine ⟨ws, f.own _ _ ?_ oq, ok, hn⟩
    simp only [List.mem_singleton]
    rintro rfl
    have := oq.uniq o
    subst this
    rw [flc_len, ok.len] at h3; omega
theorem LSet_ok {h : Heap} {b : Nat} {l : List Int} {ks bs : List Bool} {i size : Int} {kn : Bool} (w : WF h) (a : Lo h b l ks bs) (s0 : -9223372036854775808 ≤ size) (s1 : size ≤ 9223372036854775807) (i0 : -9223372036854775808 ≤ i) (i1 : i ≤ 9223372036854775807) :
    Does go 40 [.ptr b 0, .int .i64 i, .int .i64 size, .bool kn] h fun u h' => u = .int .i64 (xsetE l i size) ∧ (if xsetE l i size = 0 then Lo h' b (l.set i.toNat size) (ks.set i.toNat kn) bs else Lo h' b l ks bs) ∧ FrF b h h' := by
  have al := a
  obtain ⟨p, vk, pm, o, v1, ix, mk, e⟩ := a
  refine does_fn g40 rfl ?_
  simp (disch := omega) only [fn40, evs, ↓reduceIte, Nat.reduceEqDiff, Nat.reduceAdd, Nat.reduceMul, Nat.reduceLeDiff, Nat.reduceLT, Int.reduceNeg, DF, eff, Nat.reduceSub, fwrap_i64, o.ld]
  refine OQ_does (XSet_ok w ix s0 s1 i0 i1) ?_
  rintro _ h1 ⟨F1, c, d, rfl, hc, hd, hx⟩
  obtain ⟨h2, e_h2⟩ : ∃ h2, h2 = halloc h1 [.nilp, .nils] := ⟨_, rfl⟩
  have F_h2 : Fr [] h1 h2 := e_h2 ▸ Fr.halloc F1.wf _
  have o_h2 : Own h2 h1.next [.nilp, .nils] := e_h2 ▸ Own.new F1.wf _
  simp (disch := omega) only [evs, ↓reduceIte, Nat.reduceEqDiff, Nat.reduceAdd, Nat.reduceMul, Nat.reduceLeDiff, Nat.reduceLT, Int.reduceNeg, DF, eff, Nat.reduceSub, fwrap_i64, ← e_h2]
  refine store_step (c' := [c, d]) F_h2.wf o_h2 rfl (by simp [onesB, V.cells, hc, hd]) rfl ?_
  rintro h3 o3 F3 n3
  have F13 : Fr [] h1 h3 := F_h2.fresh F3 F1.wf (Nat.le_refl _)
  have F03 := F1.then F13
  by_cases z : xsetE l i size = 0
  · simp (disch := omega) only [evs, ↓reduceIte, Nat.reduceEqDiff, Nat.reduceAdd, Nat.reduceMul, Nat.reduceLeDiff, Nat.reduceLT, Int.reduceNeg, DF, eff, Nat.reduceSub, fwrap_i64, eq_true z, o3.ld]
    refine store_step (c' := [c, d, pv pm]) F13.wf (F03.get o) rfl (by simp [onesB, V.cells, hc, hd]) rfl ?_
    rintro h4 o4 F4 n4
    simp (disch := omega) only [evs, ↓reduceIte, Nat.reduceEqDiff, Nat.reduceAdd, Nat.reduceMul, Nat.reduceLeDiff, Nat.reduceLT, Int.reduceNeg, DF, eff, Nat.reduceSub, fwrap_i64]
    have ix' := hx z
    obtain ⟨p', rfl⟩ := ix'.form
    exact ⟨⟨p', d, pm, o4, hd, (ix'.fr F13).frb F4 (F03.get o) (by simp) (nosp (noInt ix.noint)), (mk.fr F03).frb F4 (F03.get o) rfl, by simpa using e⟩, (frF F03).trans (frFb F4)⟩
  · simp (disch := omega) only [evs, ↓reduceIte, Nat.reduceEqDiff, Nat.reduceAdd, Nat.reduceMul, Nat.reduceLeDiff, Nat.reduceLT, Int.reduceNeg, DF, eff, Nat.reduceSub, fwrap_i64, eq_false z]
    exact ⟨al.fr F03, frF F03⟩
end Go.Ev.Lay

/- Layouts: Insert. -/
namespace Go.Ev.Lay
set_option maxRecDepth 4000
theorem Bools.frl {h h' : Heap} {v : V} {bs : List Bool} {b : Nat} {c c' : List V} (a : Bools h v bs) (f : Fr [b] h h') (o : Own h b c) (o' : Own h' b c') (hc : ∀ x, V.bool x ∉ c) (hl : c'.length = c.length) : Bools h' v bs := by
  refine Sl.frb a f o o' hl fun hne => ?_
  cases bs with
  | nil => simp at hne
  | cons x bs => exact ⟨.bool x, by simp, hc x⟩
theorem nobool {p : Option Nat} {vk : V} {pm : Option Nat} (h : ∀ x, vk ≠ V.bool x) : ∀ x, V.bool x ∉ [pv p, vk, pv pm] := by
  intro x hx
  simp only [List.mem_cons, List.not_mem_nil, or_false] at hx
  rcases hx with e | e | e
  · cases p <;> simp [pv] at e
  · exact h x e.symm
  · cases pm <;> simp [pv] at e
theorem SpF.nobool {h : Heap} {v : V} {L : List (Int × Int)} (a : SpF h v L) : ∀ x, v ≠ V.bool x := by
  rcases a with ⟨rfl, _⟩ | ⟨b, rfl, _⟩ <;> simp
theorem Ix.nobool {h : Heap} {p : Option Nat} {vk : V} {l : List Int} {ks : List Bool} (a : Ix h (.agg [pv p, vk]) l ks) : ∀ x, vk ≠ V.bool x := by
  obtain ⟨p', vk', L, e, r, s, _⟩ := a
  simp only [V.agg.injEq, List.cons.injEq, and_true] at e
  obtain ⟨_, rfl⟩ := e
  exact s.nobool
theorem ins_set {bs st : List Bool} {i j : Nat} (hi : i ≤ bs.length) (x : Bool) (hx : st[j]? = some x) :
    (bs.take i ++ (st.take j ++ List.replicate (st.length - j) false) ++ bs.drop i).set (i + j) x = bs.take i ++ (st.take (j + 1) ++ List.replicate (st.length - (j + 1)) false) ++ bs.drop i := by
  have hj : j < st.length := by
    rcases Nat.lt_or_ge j st.length with y | y
    · exact y
    · rw [List.getElem?_eq_none y] at hx; cases hx
  have hl : (bs.take i).length = i := by simp; omega
  rw [List.append_assoc, List.set_append, if_neg (by omega), hl, Nat.add_sub_cancel_left, List.set_append, if_pos (by simp; omega), rep_set st j x hx, List.append_assoc, List.append_assoc, List.append_assoc]
theorem ins_false {bs st : List Bool} {i j : Nat} (hx : st[j]? = some false) : bs.take i ++ (st.take j ++ List.replicate (st.length - j) false) ++ bs.drop i = bs.take i ++ (st.take (j + 1) ++ List.replicate (st.length - (j + 1)) false) ++ bs.drop i := by
  have hj : j < st.length := by
    rcases Nat.lt_or_ge j st.length with y | y
    · exact y
    · rw [List.getElem?_eq_none y] at hx; cases hx
  rw [List.take_add_one, hx, show st.length - j = (st.length - (j + 1)) + 1 by omega, List.replicate_succ]
  simp
theorem LIns_ok {h : Heap} {b : Nat} {l m : List Int} {ks bs st : List Bool} {i : Int} {u v : V} (w : WF h) (a : Lo h b l ks bs) (am : Ints h u m) (as : Bools h v st) (hm : m.length ≤ 1000000) (hst : st.length = m.length) (i0 : -9223372036854775808 ≤ i) (i1 : i ≤ 9223372036854775807) :
    Does go 9 [.ptr b 0, .int .i64 i, u, v] h fun z h' => z = .int .i64 (xinsE l i m) ∧ FrF b h h' ∧ (if xinsE l i m = 0 then Lo h' b (l.take i.toNat ++ m ++ l.drop i.toNat) (ks.take i.toNat ++ List.replicate m.length false ++ ks.drop i.toNat) (bs.take i.toNat ++ st ++ bs.drop i.toNat) else Lo h' b l ks bs) := by
  have al := a
  obtain ⟨p, vk, pm, o, v1, ix, mk, e⟩ := a
  have hle : ((m.length : Nat) : Int) = st.length := by omega
  refine does_fn g9 rfl ?_
  simp (disch := omega) only [fn9, evs, ↓reduceIte, Nat.reduceEqDiff, Nat.reduceAdd, Nat.reduceMul, Nat.reduceLeDiff, Nat.reduceLT, Int.reduceNeg, DF, eff, Nat.reduceSub, fwrap_i64, am.len, as.len, eq_true hle, o.ld]
  refine OQ_does (XIns_ok w ix am hm i0 i1) ?_
  rintro _ h1 ⟨F1, c, d, rfl, hc, hd, hx⟩
  obtain ⟨h2, e_h2⟩ : ∃ h2, h2 = halloc h1 [.nilp, .nils] := ⟨_, rfl⟩
  have F_h2 : Fr [] h1 h2 := e_h2 ▸ Fr.halloc F1.wf _
  have o_h2 : Own h2 h1.next [.nilp, .nils] := e_h2 ▸ Own.new F1.wf _
  simp (disch := omega) only [evs, ↓reduceIte, Nat.reduceEqDiff, Nat.reduceAdd, Nat.reduceMul, Nat.reduceLeDiff, Nat.reduceLT, Int.reduceNeg, DF, eff, Nat.reduceSub, fwrap_i64, ← e_h2]
  refine store_step (c' := [c, d]) F_h2.wf o_h2 rfl (by simp [onesB, V.cells, hc, hd]) rfl ?_
  rintro h3 o3 F3 n3
  have F13 : Fr [] h1 h3 := F_h2.fresh F3 F1.wf (Nat.le_refl _)
  have F03 := F1.then F13
  by_cases z : xinsE l i m = 0
  · have ix' := hx z
    obtain ⟨p', rfl⟩ := ix'.form
    have hi : 0 ≤ i ∧ i ≤ l.length ∧ l.length + m.length ≤ 1024 := by
      unfold xinsE at z
      by_cases c1 : 0 ≤ i ∧ i ≤ l.length
      · rw [if_pos c1] at z
        by_cases c2 : 1024 - (l.length : Int) < m.length
        · rw [if_pos c2] at z; omega
        · omega
      · rw [if_neg c1] at z; omega
    by_cases c0 : (m.length : Int) = 0
    · have hm0 : m = [] := List.length_eq_zero_iff.1 (by omega)
      have hs0 : st = [] := List.length_eq_zero_iff.1 (by omega)
      subst hm0 hs0
      simp (disch := omega) only [evs, ↓reduceIte, Nat.reduceEqDiff, Nat.reduceAdd, Nat.reduceMul, Nat.reduceLeDiff, Nat.reduceLT, Int.reduceNeg, DF, eff, Nat.reduceSub, fwrap_i64, eq_true z, am.len, eq_true c0]
      refine ⟨frF F03, ?_⟩
      simpa using al.fr F03
    · obtain ⟨k, rfl⟩ : ∃ k : Nat, i = k := ⟨i.toNat, by omega⟩
      simp only [Int.toNat_natCast] at hx ix' ⊢
      have blt : b < h1.next := Nat.lt_of_lt_of_le (o.lt w) F1.next
      have niv := ix.noint
      have nbv := ix.nobool
      -- the marks are there
      cases pm
      case' none =>
        have mk : bs = [] := mk
        simp (disch := omega) only [evs, ↓reduceIte, Nat.reduceEqDiff, Nat.reduceAdd, Nat.reduceMul, Nat.reduceLeDiff, Nat.reduceLT, Int.reduceNeg, DF, eff, Nat.reduceSub, fwrap_i64, eq_true z, am.len, eq_false c0, (F03.get o).ld1, pv_none]
        refine OQ_does (fNew_ok F13.wf) ?_
        rintro _ h4 ⟨q, rfl, hq, fl4, F4⟩
        simp (disch := omega) only [evs, ↓reduceIte, Nat.reduceEqDiff, Nat.reduceAdd, Nat.reduceMul, Nat.reduceLeDiff, Nat.reduceLT, Int.reduceNeg, DF, eff, Nat.reduceSub, fwrap_i64, (F03.get o).ld1]
        have F04 := F03.then F4
        refine store_step (c' := [pv p, vk, .ptr q 0]) F4.wf (F04.get o) rfl rfl rfl ?_
        rintro H oH F5 n5
        have FH : FrF b h H := (frF F04).trans (frFb F5)
        have flH : Fl H q bs := Mk.frb (pm := some q) (show Mk h4 (some q) bs from mk ▸ fl4) F5 (F04.get o) rfl
        have ixH := (ix'.fr (F13.then F4)).frb F5 (F04.get o) (by simp) (nosp (noInt niv))
        have oxH := F5.own _ _ (by simp; omega) (F4.get o3)
        have stH := Bools.frl (as.fr F04) F5 (F04.get o) oH (nobool nbv) rfl
        have wfH := F5.wf
        simp (disch := omega) only [evs, ↓reduceIte, Nat.reduceEqDiff, Nat.reduceAdd, Nat.reduceMul, Nat.reduceLeDiff, Nat.reduceLT, Int.reduceNeg, DF, eff, Nat.reduceSub, fwrap_i64, oH.ld1, am.len]
      case' some q =>
        have flH : Fl h3 q bs := Fl.fr mk F03
        obtain ⟨H, eH⟩ : ∃ H, H = h3 := ⟨h3, rfl⟩
        have oH : Own H b [pv p, vk, .ptr q 0] := eH ▸ F03.get o
        have FH : FrF b h H := eH ▸ frF F03
        have ixH := eH ▸ ix'.fr F13
        have oxH := eH ▸ o3
        have stH := eH ▸ as.fr F03
        have wfH : WF H := eH ▸ F13.wf
        rw [← eH] at flH
        simp (disch := omega) only [evs, ↓reduceIte, Nat.reduceEqDiff, Nat.reduceAdd, Nat.reduceMul, Nat.reduceLeDiff, Nat.reduceLT, Int.reduceNeg, DF, eff, Nat.reduceSub, fwrap_i64, eq_true z, am.len, eq_false c0, (F03.get o).ld1, pv_some]
        rw [← eH]
      all_goals
        have qb : q ≠ b := by
          rintro rfl
          obtain ⟨ws, oq, ok, _⟩ := flH
          have := congrArg List.length (oq.uniq oH)
          rw [flc_len, ok.len] at this; simp at this
        refine OQ_does (fIns_ok (a := k) (n := m.length) (v := false) wfH flH (by omega) (by omega)) ?_
        rintro _ h6 ⟨rfl, fl6, F6⟩
        have o6b := F6.own _ _ (by simp; omega) oH
        have ix6 := ixH.frf F6 flH
        have qx : q ≠ h1.next := by
          rintro rfl
          obtain ⟨ws, oq, ok, _⟩ := flH
          have := congrArg List.length (oq.uniq oxH)
          rw [flc_len, ok.len] at this; simp at this
        have ox6 := F6.own _ _ (by simp; omega) oxH
        have st6 : Bools h6 v st := by
          obtain ⟨ws, oq, ok, _⟩ := flH
          obtain ⟨ws', oq', ok', _⟩ := fl6
          exact Bools.frb stH F6 oq oq' (by rw [ok'.len, ok.len])
        simp (disch := omega) only [evs, ↓reduceIte, Nat.reduceEqDiff, Nat.reduceAdd, Nat.reduceMul, Nat.reduceLeDiff, Nat.reduceLT, Int.reduceNeg, DF, eff, Nat.reduceSub, fwrap_i64, ox6.ld]
        refine store_step (c' := [pv p', d, .ptr q 0]) F6.wf o6b rfl (by simp [onesB, V.cells, hc, hd]) rfl ?_
        rintro h7 o7 F7 n7
        have fl7 : Fl h7 q _ := Mk.frb (pm := some q) fl6 F7 o6b rfl
        have ix7 := ix6.frb F7 o6b (by simp) (nosp (noInt (pm := some q) niv))
        have st7 := Bools.frl st6 F7 o6b o7 (nobool (pm := some q) nbv) rfl
        have F07 : FrF b h h7 := (FH.trans (frFl F6 flH)).trans (frFb F7)
        simp (disch := omega) only [evs, ↓reduceIte, Nat.reduceEqDiff, Nat.reduceAdd, Nat.reduceMul, Nat.reduceLeDiff, Nat.reduceLT, Int.reduceNeg, DF, eff, Nat.reduceSub, fwrap_i64, st7.len]
        refine W_loop (fun n env hh => ∃ j : Nat, env.get 71 = some (.int .i64 j) ∧ env.get 70 = some (.int .i64 st.length) ∧ env.get 69 = some v ∧ env.get 0 = some (.ptr b 0) ∧ env.get 1 = some (.int .i64 k) ∧ j ≤ st.length ∧ FrF b h hh ∧
          Own hh b [pv p', d, .ptr q 0] ∧ Fl hh q (bs.take k ++ (st.take j ++ List.replicate (st.length - j) false) ++ bs.drop k) ∧ Ix hh (.agg [pv p', d]) (l.take k ++ m ++ l.drop k) (ks.take k ++ List.replicate m.length false ++ ks.drop k) ∧ Bools hh v st ∧ n = st.length - j) st.length (by omega) ?_ ?_
        · exact ⟨0, (by simp [T.get_set]), (by simp [T.get_set]), (by simp [T.get_set]), (by simp [T.get_set]), (by simp [T.get_set]), by omega, F07, o7, by simpa [hst] using fl7, ix7, st7, rfl⟩
        · rintro n env hh ⟨j, g71, g70, g69, g0, g1, hj, FF, oo, ff, ii, ss, rfl⟩
          by_cases hlt : (j : Int) < st.length
          · obtain ⟨bb, oo', x, q1, q2, q3⟩ := ss.ix .i64 j (by omega) hlt
            simp only [Int.toNat_natCast] at q3
            cases x
            · simp (disch := omega) only [evs, ↓reduceIte, Nat.reduceEqDiff, Nat.reduceAdd, Nat.reduceMul, Nat.reduceLeDiff, Nat.reduceLT, Int.reduceNeg, DF, eff, Nat.reduceSub, fwrap_i64, g71, g70, g69, g0, g1, hlt, q1, q2]
              rw [ins_false q3] at ff
              refine (roundQ_norm _ _ _).2 ⟨st.length - (j + 1), by omega, j + 1, (by simp [T.get_set]), (by simp [T.get_set, g70]), (by simp [T.get_set, g69]), (by simp [T.get_set, g0]), (by simp [T.get_set, g1]), by omega, FF, oo, ff, ii, ss, rfl⟩
              done
            · simp (disch := omega) only [evs, ↓reduceIte, Nat.reduceEqDiff, Nat.reduceAdd, Nat.reduceMul, Nat.reduceLeDiff, Nat.reduceLT, Int.reduceNeg, DF, eff, Nat.reduceSub, fwrap_i64, g71, g70, g69, g0, g1, hlt, q1, q2, oo.ld1]
              refine OQ_does (fSet_ok FF.wf ff (by omega) (by omega)) ?_
              rintro _ h8 ⟨rfl, f8, F8, n8⟩
              have lf : (k : Int) + j < ((bs.take k ++ (st.take j ++ List.replicate (st.length - j) false) ++ bs.drop k).length : Nat) := by simp; omega
              rw [if_pos ⟨by omega, lf⟩, show ((k : Int) + j).toNat = k + j by omega, ins_set (by omega) _ q3] at f8
              simp (disch := omega) only [evs, ↓reduceIte, Nat.reduceEqDiff, Nat.reduceAdd, Nat.reduceMul, Nat.reduceLeDiff, Nat.reduceLT, Int.reduceNeg, DF, eff, Nat.reduceSub, fwrap_i64, g71, g70, g69, g0, g1]
              have o8 := F8.own _ _ (by simp; omega) oo
              have s8 : Bools h8 v st := by
                obtain ⟨ws, oq, ok, _⟩ := ff
                obtain ⟨ws', oq', ok', _⟩ := f8
                exact Bools.frb ss F8 oq oq' (by rw [ok'.len, ok.len])
              refine (roundQ_norm _ _ _).2 ⟨st.length - (j + 1), by omega, j + 1, (by simp [T.get_set]), (by simp [T.get_set, g70]), (by simp [T.get_set, g69]), (by simp [T.get_set, g0]), (by simp [T.get_set, g1]), by omega, FF.trans (frFl F8 ff), o8, f8, ii.frf F8 ff, s8, rfl⟩
              done
          · simp (disch := omega) only [evs, ↓reduceIte, Nat.reduceEqDiff, Nat.reduceAdd, Nat.reduceMul, Nat.reduceLeDiff, Nat.reduceLT, Int.reduceNeg, DF, eff, Nat.reduceSub, fwrap_i64, g71, g70, g69, g0, g1, hlt]
            have ej : j = st.length := by omega
            subst ej
            simp only [List.take_length, Nat.sub_self, List.replicate_zero, List.append_nil] at ff
            refine ⟨by first | rw [z] | trivial, FF, ?_⟩
            try rw [if_pos z]
            exact ⟨p', d, some q, oo, hd, ii, ff, by simp; omega⟩
  · simp (disch := omega) only [evs, ↓reduceIte, Nat.reduceEqDiff, Nat.reduceAdd, Nat.reduceMul, Nat.reduceLeDiff, Nat.reduceLT, Int.reduceNeg, DF, eff, Nat.reduceSub, fwrap_i64, eq_false z]
    exact ⟨frF F03, al.fr F03⟩
end Go.Ev.Lay
