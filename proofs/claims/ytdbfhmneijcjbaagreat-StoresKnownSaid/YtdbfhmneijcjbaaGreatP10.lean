/- An evaluator of the program, and contracts over it: StT to StaE. -/
import Derived.Test.YtdbfhmneijcjbaaGreatP09
set_option linter.unusedSimpArgs false
set_option linter.unusedVariables false
set_option linter.constructorNameAsVariable false
namespace Go.Ev.Lay
set_option maxRecDepth 4000
def leS (a b : Str) : Bool := Op.bytesLess a b || a == b
theorem aP_sble (a b : Str) : aP (.sb .leq) [.str a, .str b] = some (.bool (leS a b)) := rfl
def prevOK (p : Option Str) (n : Str) : Bool := match p with
 | none => true
 | some q => !leS n q
def attrsOK : Option Str → List (Str × Str) → Bool
 | _, [] => true
 | p, (n, v) :: r => (okN n && (okT v && prevOK p n)) && attrsOK (some n) r
def keysOK : List Str → List Str → Bool
 | _, [] => true
 | pr, k :: r => (k == [] || !(pr.any (· == k))) && keysOK (pr ++ [k]) r
theorem keysOK_cons (pr : List Str) (k : Str) (r : List Str) : keysOK pr (k :: r) = ((k == [] || !(pr.any (· == k))) && keysOK (pr ++ [k]) r) := rfl
theorem attrsOK_cons (p : Option Str) (a : Str × Str) (r : List (Str × Str)) : attrsOK p (a :: r) = ((okN a.1 && (okT a.2 && prevOK p a.1)) && attrsOK (some a.1) r) := rfl
def aloneB (k : Nat) (tg ky : Str) (at' : List (Str × Str)) (tx : Str) (sub : NT) : Bool :=
 if k = 2 then okT tx && (tg == [] && (ky == [] && (decide (at'.length = 0) && decide (sub.len = 0))))
 else decide (k = 1) && (okN tg && ((ky == [] || okN ky) && (tx == [] && (decide (at'.length ≤ 8) && (decide (sub.len ≤ 16) && (attrsOK none at' && keysOK [] sub.keys))))))
def prevN (at' : List (Str × Str)) (i : Nat) : Option Str := if i = 0 then none else (at'[i - 1]?).map (·.1)
theorem prevN_succ {at' : List (Str × Str)} {i : Nat} {a : Str × Str} (h : at'[i]? = some a) : prevN at' (i + 1) = some a.1 := by simp [prevN, h]
theorem alC_ok {h : Heap} {b o : Nat} {x0 x1 x2 x3 x4 vc : V} {sub : NT} {env : T V} {R : V → Heap → Prop} (w : WF h) (hA : ∀ h', Fr [] h h' → At6 h' b o x0 x1 x2 x3 x4 vc)
 (rc : Sl h 6 vc sub.len sub.cells) (nc : sub.len ≤ 4096) (ones : onesB sub.cells = true) (g0 : env.get 0 = some (.ptr b o))
 (k : ∀ h', Fr [] h h' → R (.bool (keysOK [] sub.keys)) h') : W go alC env h (RetQ [.t 2] R) := by
 have q5 := (hA h (Fr.refl w)).2.2.2.2.2.1
 simp only [evs, ↓reduceIte, alC, g0, q5, rc.len]
 refine W_loop (fun n env hh => Fr [] h hh ∧ ∃ (i : Nat), env.get 142 = some (.int .i64 i) ∧ env.get 141 = some (.int .i64 sub.len) ∧ env.get 140 = some vc ∧ env.get 0 = some (.ptr b o) ∧
  i ≤ sub.len ∧ keysOK (sub.keys.take i) (sub.keys.drop i) = keysOK [] sub.keys ∧ n = sub.len - i) sub.len (by omega) ?_ ?_
 · exact ⟨Fr.refl w, 0, (by simp [T.gs]), (by simp [T.gs]), (by simp [T.gs]), (by simp [T.gs, g0]), by omega, rfl, rfl⟩
 · rintro n env hh ⟨F, i, g142, g141, g140, g0, hi, e, rfl⟩
   by_cases hlt : i < sub.len
   · obtain ⟨kd, tg, ky, at', tx, va, vc', sb, nx, e1, e2, e3, e4, e5, _⟩ := sub.split i hlt
     obtain ⟨b', o', p1, p2⟩ := (rc.fr F).ix6 hlt e2
     have on : onesB [.int .u8 (kd : Int), .str tg, .str ky, va, .str tx, vc'] = true := by
      have := onesB_drop (i * 6) ones
      rw [e2, onesB_append] at this
      exact (Bool.and_eq_true _ _ ▸ this).1
     have hlt' : (i : Int) < sub.len := by omega
     rw [e4] at e
     rw [keysOK_cons] at e
     have ek : (sub.keys.take i) ++ [ky] = sub.keys.take (i + 1) := by
      rw [List.take_add_one, e5]; rfl
     have ed : nx.keys = sub.keys.drop (i + 1) := by
      rw [← List.drop_drop (i := 1), e4]; rfl
     rw [ek, ed] at e
     obtain ⟨h1, e_h1⟩ : ∃ h1, h1 = halloc hh [.int .u8 0, .str [], .str [], .nils, .str [], .nils] := ⟨_, rfl⟩
     have F_h1 : Fr [] hh h1 := e_h1 ▸ Fr.halloc F.wf _
     have o_h1 : Own h1 hh.next [.int .u8 0, .str [], .str [], .nils, .str [], .nils] := e_h1 ▸ Own.new F.wf _
     simp only [evs, ↓reduceIte, Nat.reduceEqDiff, g142, g141, g140, hlt', p1, p2.2.2.2.2.2.2, ← e_h1]
     refine store_step (c' := [.int .u8 (kd : Int), .str tg, .str ky, va, .str tx, vc']) F_h1.wf o_h1 rfl on rfl ?_
     rintro h2 o2 F2 n2
     have F02 : Fr [] hh h2 := F_h1.fresh F2 F.wf (Nat.le_refl _)
     have q2 : hload1 h2 hh.next 2 = some (.str ky) := o2.ld1 2
     have q5 := (hA h2 (F.then F02)).2.2.2.2.2.1
     cases c : ky == []
     · obtain ⟨u, s1, s2⟩ := (rc.fr (F.then F02)).upto (by omega) (Sl.ne (rc.fr (F.then F02)) (by omega)) .i64 (i : Int) (by omega) (by omega)
       rw [Int.toNat_natCast] at s2
       simp only [evs, ↓reduceIte, Nat.reduceEqDiff, g0, q2, aP_sbn, c, q5, s1]
       refine OQ_does (indexK_ok F02.wf s2 (by omega) (by omega) ones (fun h' f => (f.get o2).ld1 2)) ?_
       rintro _ h3 ⟨rfl, F3⟩
       cases c2 : (sub.keys.take i).any (· == ky)
       · simp (disch := omega) only [evs, ↓reduceIte, Nat.reduceEqDiff, fwrap_i64, g142]
         rw [c, c2] at e
         refine (roundQ_norm _ _ _).2 ⟨sub.len - (i + 1), by omega, (F.then F02).then F3, i + 1, (by simp [T.gs]), (by simp [T.gs, g141]), (by simp [T.gs, g140]), (by simp [T.gs, g0]), by omega, by simpa using e, rfl⟩
         done
       · simp only [evs, ↓reduceIte]
         have := k _ ((F.then F02).then F3)
         rw [← e, c, c2] at this
         simpa using this
     · simp (disch := omega) only [evs, ↓reduceIte, Nat.reduceEqDiff, fwrap_i64, g142, q2, aP_sbn, c]
       rw [c] at e
       refine (roundQ_norm _ _ _).2 ⟨sub.len - (i + 1), by omega, F.then F02, i + 1, (by simp [T.gs]), (by simp [T.gs, g141]), (by simp [T.gs, g140]), (by simp [T.gs, g0]), by omega, by simpa using e, rfl⟩
       done
   · simp only [evs, ↓reduceIte, g142, g141, show ¬ (i : Int) < sub.len by omega]
     rw [List.drop_of_length_le (by rw [NT.keys_len]; omega)] at e
     have := k _ F
     rw [← e] at this
     exact this
theorem alA_ok {h : Heap} {b o : Nat} {x0 x1 x2 va x4 vc : V} {at' : List (Str × Str)} {sub : NT} {env : T V} {R : V → Heap → Prop} (w : WF h) (hA : ∀ h', Fr [] h h' → At6 h' b o x0 x1 x2 va x4 vc)
 (ra : Recs attC 2 h va at') (na : at'.length ≤ 4096) (rc : Sl h 6 vc sub.len sub.cells) (nc : sub.len ≤ 4096) (ones : onesB sub.cells = true) (g0 : env.get 0 = some (.ptr b o))
 (k : ∀ h', Fr [] h h' → R (.bool (attrsOK none at' && keysOK [] sub.keys)) h') : W go alA env h (RetQ [.t 2] R) := by
 have q3 := (hA h (Fr.refl w)).2.2.2.1
 simp only [evs, ↓reduceIte, alA, g0, q3, ra.len]
 refine W_loop (fun n env hh => Fr [] h hh ∧ ∃ (i : Nat), env.get 103 = some (.int .i64 i) ∧ env.get 102 = some (.int .i64 at'.length) ∧ env.get 101 = some va ∧ env.get 0 = some (.ptr b o) ∧
  i ≤ at'.length ∧ attrsOK (prevN at' i) (at'.drop i) = attrsOK none at' ∧ n = at'.length - i) at'.length (by omega) ?_ ?_
 · exact ⟨Fr.refl w, 0, (by simp [T.gs]), (by simp [T.gs]), (by simp [T.gs]), (by simp [T.gs, g0]), by omega, rfl, rfl⟩
 · rintro n env hh ⟨F, i, g103, g102, g101, g0, hi, e, rfl⟩
   by_cases hlt : i < at'.length
   · have hlt' : (i : Int) < at'.length := by omega
     obtain ⟨b', o', a, p1, p2, p3, p4⟩ := (ra.fr F).ix attC_len .i64 (i : Int) (by omega) hlt'
     rw [Int.toNat_natCast] at p4
     rw [drop_cons p4, attrsOK_cons] at e
     have en := prevN_succ p4
     obtain ⟨h1, e_h1⟩ : ∃ h1, h1 = halloc hh [.str [], .str []] := ⟨_, rfl⟩
     have F_h1 : Fr [] hh h1 := e_h1 ▸ Fr.halloc F.wf _
     have o_h1 : Own h1 hh.next [.str [], .str []] := e_h1 ▸ Own.new F.wf _
     simp only [evs, ↓reduceIte, Nat.reduceEqDiff, g103, g102, g101, hlt', p1, p3, ← e_h1]
     refine store_step (c' := [.str a.1, .str a.2]) F_h1.wf o_h1 rfl rfl rfl ?_
     rintro h2 o2 F2 n2
     have F02 : Fr [] hh h2 := F_h1.fresh F2 F.wf (Nat.le_refl _)
     have q0 : hload1 h2 hh.next 0 = some (.str a.1) := o2.ld1 0
     have q1 : hload1 h2 hh.next 1 = some (.str a.2) := o2.ld1 1
     simp only [evs, ↓reduceIte, Nat.reduceEqDiff, eff, q0]
     refine OQ_does named_ok ?_
     rintro _ _ ⟨rfl, rfl⟩
     cases c1 : okN a.1
     · simp only [evs, ↓reduceIte, Nat.reduceAdd, DF, eff, Nat.reduceSub, q0]
       have := k _ (F.then F02)
       rw [← e, c1] at this
       simpa using this
     simp only [evs, ↓reduceIte, Nat.reduceEqDiff, eff, q1]
     refine OQ_does (ntext_ok F02.wf) ?_
     rintro _ h3 ⟨rfl, F3⟩
     have F03 := (F.then F02).then F3
     have q0' : hload1 h3 hh.next 0 = some (.str a.1) := (F3.get o2).ld1 0
     cases c2 : okT a.2
     · simp only [evs, ↓reduceIte, Nat.reduceAdd, DF, eff, Nat.reduceSub, q0, q1]
       have := k _ F03
       rw [← e, c1, c2] at this
       simpa using this
     have fin : prevOK (prevN at' i) a.1 = true → attrsOK (prevN at' (i + 1)) (at'.drop (i + 1)) = attrsOK none at' := fun c => by
      rw [← e, c1, c2, c, en]; rfl
     by_cases c3 : i = 0
     · simp (disch := omega) only [evs, ↓reduceIte, Nat.reduceEqDiff, Nat.reduceAdd, DF, eff, Nat.reduceSub, fwrap_i64, g103, q0, q1, show ¬ (0 : Int) < (i : Int) by omega]
       refine (roundQ_norm _ _ _).2 ⟨at'.length - (i + 1), by omega, F03, i + 1, (by simp [T.gs]), (by simp [T.gs, g102]), (by simp [T.gs, g101]), (by simp [T.gs, g0]), by omega, fin (by rw [c3]; rfl), rfl⟩
       done
     · obtain ⟨b2, o2', a2, r1, r2, r3, r4⟩ := (ra.fr F03).ix attC_len .i64 ((i : Int) - 1) (by omega) (by omega)
       have r4' : at'[i - 1]? = some a2 := by rw [← r4]; congr 1; omega
       have r2' : hload1 h3 b2 o2' = some (.str a2.1) := r2 0 (by omega)
       have q3 := (hA h3 F03).2.2.2.1
       have pe : prevN at' i = some a2.1 := by simp [prevN, c3, r4']
       cases c4 : leS a.1 a2.1
       · simp (disch := omega) only [evs, ↓reduceIte, Nat.reduceEqDiff, Nat.reduceAdd, DF, eff, Nat.reduceSub, fwrap_i64, c4, g103, g0, q0, q1, q0', q3, r1, r2', aP_sble, show (0 : Int) < (i : Int) by omega]
         refine (roundQ_norm _ _ _).2 ⟨at'.length - (i + 1), by omega, F03, i + 1, (by simp [T.gs]), (by simp [T.gs, g102]), (by simp [T.gs, g101]), (by simp [T.gs, g0]), by omega, fin (by rw [pe]; simp [prevOK, c4]), rfl⟩
         done
       · simp (disch := omega) only [evs, ↓reduceIte, Nat.reduceEqDiff, Nat.reduceAdd, DF, eff, Nat.reduceSub, fwrap_i64, c4, g0, q0, q1, q0', q3, r1, r2', aP_sble, show (0 : Int) < (i : Int) by omega]
         have := k _ F03
         rw [← e, pe, c1, c2] at this
         simpa [prevOK, c4] using this
   · simp only [evs, ↓reduceIte, g103, g102, show ¬ (i : Int) < at'.length by omega]
     rw [List.drop_of_length_le (by omega)] at e
     refine alC_ok F.wf (fun h' f => hA h' (F.then f)) (rc.fr F) nc ones (by simp [T.gs, g0]) fun h' f => ?_
     have := k h' (F.then f)
     rw [← e] at this
     simpa [attrsOK] using this
theorem alone_ok {h : Heap} {b o k : Nat} {tg ky tx : Str} {at' : List (Str × Str)} {va vc : V} {sub : NT} (w : WF h) (hA : ∀ h', Fr [] h h' → At6 h' b o (.int .u8 (k : Int)) (.str tg) (.str ky) va (.str tx) vc)
 (ra : Recs attC 2 h va at') (na : at'.length ≤ 4096) (rc : Sl h 6 vc sub.len sub.cells) (nc : sub.len ≤ 4096) (ones : onesB sub.cells = true) :
 Does go 253 [.ptr b o] h fun u h' => u = .bool (aloneB k tg ky at' tx sub) ∧ Fr [] h h' := by
 have q0 : hload1 h b o = some (.int .u8 (k : Int)) := (hA h (Fr.refl w)).1
 by_cases c0 : k = 2
 · have q4 : hload1 h b (o + 4) = some (.str tx) := (hA h (Fr.refl w)).2.2.2.2.1
   unfold aloneB
   rw [if_pos c0]
   refine does_fn g253x rfl ?_
   simp only [evs, ↓reduceIte, Nat.reduceEqDiff, fn253x, q0, show (k : Int) = 2 by omega, q4]
   refine OQ_does (ntext_ok w) ?_
   rintro _ h1 ⟨rfl, F1⟩
   obtain ⟨_, q1, q2, q3, _, q5, _⟩ := hA h1 F1
   have l1 := (ra.fr F1).len
   have l2 := (rc.fr F1).len
   cases c1 : okT tx
   · simp only [evs, ↓reduceIte]
     exact ⟨rfl, F1⟩
   cases c2 : tg == []
   · simp only [evs, ↓reduceIte, Nat.reduceEqDiff, q1, aP_sbe, c2]
     exact ⟨rfl, F1⟩
   cases c3 : ky == []
   · simp only [evs, ↓reduceIte, Nat.reduceEqDiff, q1, aP_sbe, c2, q2, c3]
     exact ⟨rfl, F1⟩
   by_cases c4 : at'.length = 0
   · by_cases c5 : sub.len = 0
     · simp only [evs, ↓reduceIte, Nat.reduceEqDiff, q1, aP_sbe, c2, q2, c3, q3, l1, show ((at'.length : Nat) : Int) = 0 by omega, q5, l2, show ((sub.len : Nat) : Int) = 0 by omega]
       exact ⟨by simp [c4, c5], F1⟩
     · simp only [evs, ↓reduceIte, Nat.reduceEqDiff, q1, aP_sbe, c2, q2, c3, q3, l1, show ((at'.length : Nat) : Int) = 0 by omega, q5, l2, show ¬ ((sub.len : Nat) : Int) = 0 by omega]
       exact ⟨by simp [c5], F1⟩
   · simp only [evs, ↓reduceIte, Nat.reduceEqDiff, q1, aP_sbe, c2, q2, c3, q3, l1, show ¬ ((at'.length : Nat) : Int) = 0 by omega]
     exact ⟨by simp [c4], F1⟩
 · unfold aloneB
   rw [if_neg c0]
   by_cases c1 : k = 1
   · obtain ⟨_, q1, q2, q3, q4, q5, _⟩ := hA h (Fr.refl w)
     have l1 := ra.len
     have l2 := rc.len
     refine does_fn g253x rfl ?_
     simp only [evs, ↓reduceIte, Nat.reduceEqDiff, fn253x, q0, show (k : Int) = 1 by omega, q1]
     refine OQ_does named_ok ?_
     rintro _ _ ⟨rfl, rfl⟩
     cases c2 : okN tg
     · simp only [evs, ↓reduceIte]
       exact ⟨by simp, Fr.refl w⟩
     cases ck : ky == []
     · simp only [evs, ↓reduceIte, Nat.reduceEqDiff, q2, aP_sbn, ck]
       refine OQ_does named_ok ?_
       rintro _ _ ⟨rfl, rfl⟩
       cases cn : okN ky
       · simp only [evs, ↓reduceIte]
         exact ⟨by simp, Fr.refl w⟩
       cases ct : tx == []
       · simp only [evs, ↓reduceIte, Nat.reduceEqDiff, aP_sbn, q4, ct]
         exact ⟨by simp, Fr.refl w⟩
       by_cases ca : at'.length ≤ 8
       · by_cases cs : sub.len ≤ 16
         · simp only [evs, ↓reduceIte, Nat.reduceEqDiff, aP_sbn, q4, ct, q3, l1, show ¬ (8 : Int) < (at'.length : Nat) by omega, q5, l2, show ¬ (16 : Int) < (sub.len : Nat) by omega]
           refine alA_ok w hA ra na rc nc ones (by simp [T.gs]) fun h' f => ⟨by simp [c1, ca, cs], f⟩
         · simp only [evs, ↓reduceIte, Nat.reduceEqDiff, aP_sbn, q4, ct, q3, l1, show ¬ (8 : Int) < (at'.length : Nat) by omega, q5, l2, show (16 : Int) < (sub.len : Nat) by omega]
           exact ⟨by simp [cs], Fr.refl w⟩
       · simp only [evs, ↓reduceIte, Nat.reduceEqDiff, aP_sbn, q4, ct, q3, l1, show (8 : Int) < (at'.length : Nat) by omega]
         exact ⟨by simp [ca], Fr.refl w⟩
     cases ct : tx == []
     · simp only [evs, ↓reduceIte, Nat.reduceEqDiff, q2, aP_sbn, ck, q4, ct]
       exact ⟨by simp, Fr.refl w⟩
     by_cases ca : at'.length ≤ 8
     · by_cases cs : sub.len ≤ 16
       · simp only [evs, ↓reduceIte, Nat.reduceEqDiff, q2, aP_sbn, ck, q4, ct, q3, l1, show ¬ (8 : Int) < (at'.length : Nat) by omega, q5, l2, show ¬ (16 : Int) < (sub.len : Nat) by omega]
         refine alA_ok w hA ra na rc nc ones (by simp [T.gs]) fun h' f => ⟨by simp [c1, ca, cs], f⟩
       · simp only [evs, ↓reduceIte, Nat.reduceEqDiff, q2, aP_sbn, ck, q4, ct, q3, l1, show ¬ (8 : Int) < (at'.length : Nat) by omega, q5, l2, show (16 : Int) < (sub.len : Nat) by omega]
         exact ⟨by simp [cs], Fr.refl w⟩
     · simp only [evs, ↓reduceIte, Nat.reduceEqDiff, q2, aP_sbn, ck, q4, ct, q3, l1, show (8 : Int) < (at'.length : Nat) by omega]
       exact ⟨by simp [ca], Fr.refl w⟩
   · refine does_fn g253x rfl ?_
     simp only [evs, ↓reduceIte, Nat.reduceEqDiff, fn253x, q0, show ¬ (k : Int) = 2 by omega, show ¬ (k : Int) = 1 by omega]
     exact ⟨by simp [c1], Fr.refl w⟩
theorem NH.ones {h : Heap} : ∀ {t : NT}, NH h t → onesB t.cells = true
 | .nil, _ => rfl
 | .cons k tg ky _ tx va vc _ nx, ⟨_, b, _, d, _, _, g⟩ => by
  show onesB ([.int .u8 (k : Int), .str tg, .str ky, va, .str tx, vc] ++ nx.cells) = true
  rw [onesB_append, NH.ones g]
  simp only [onesB_cons, onesB_nil, Sl.one b, Sl.one d]; rfl
namespace NT
def node (k : Nat) (tg ky : Str) (at' : List (Str × Str)) (tx : Str) (sub : NT) (w : Nat → Nat → Nat × Bool) (l c : Nat) : Nat × Bool :=
 if 6 < l ∨ 64 < c + 1 ∨ aloneB k tg ky at' tx sub = false then (c + 1, false) else w (l + 1) (c + 1)
def walk : NT → Nat → Nat → Nat × Bool
 | nil, _, c => (c, true)
 | cons k tg ky at' tx _ _ sub nx, l, c => let r := node k tg ky at' tx sub sub.walk l c; if r.2 = true then nx.walk l r.1 else r
theorem walk_le : ∀ (t : NT) (l c : Nat), c ≤ 64 → (t.walk l c).1 ≤ 65 ∧ ((t.walk l c).2 = true → (t.walk l c).1 ≤ 64)
 | nil, _, c, h => ⟨by simp [walk]; omega, fun _ => h⟩
 | cons k tg ky at' tx _ _ sub nx, l, c, h => by
  have q : (node k tg ky at' tx sub sub.walk l c).1 ≤ 65 ∧ ((node k tg ky at' tx sub sub.walk l c).2 = true → (node k tg ky at' tx sub sub.walk l c).1 ≤ 64) := by
   unfold node
   split
   · exact ⟨by simp; omega, fun e => by cases e⟩
   · rename_i x
     exact walk_le sub (l + 1) (c + 1) (by omega)
  simp only [walk]
  split
  · rename_i x; exact walk_le nx l _ (q.2 x)
  · exact q
theorem node_le (k : Nat) (tg ky : Str) (at' : List (Str × Str)) (tx : Str) (sub : NT) (l c : Nat) (h : c ≤ 64) : (node k tg ky at' tx sub sub.walk l c).1 ≤ 65 ∧ ((node k tg ky at' tx sub sub.walk l c).2 = true → (node k tg ky at' tx sub sub.walk l c).1 ≤ 64) := by
 unfold node
 split
 · exact ⟨by simp; omega, fun e => by cases e⟩
 · exact walk_le sub (l + 1) (c + 1) (by omega)
end NT
structure Ms (h0 h : Heap) (bc bd bw : Nat) (c d : Nat) : Prop where
 f : Fr [] h0 h
 oc : Own h bc [.int .i64 (c : Int)]
 od : Own h bd [.int .i64 (d : Int)]
 ow : Own h bw [.func (.func 252) [] [.ptr bc 0, .ptr bd 0, .ptr bw 0]]
 dl : d ≤ 7
structure MsB (h0 : Heap) (bc bd bw : Nat) : Prop where
 w : WF h0
 c : h0.next ≤ bc
 d : h0.next ≤ bd
 b : h0.next ≤ bw
 cd : bc ≠ bd
 cw : bc ≠ bw
 dw : bd ≠ bw
theorem Ms.fr {h0 h h' : Heap} {bc bd bw c d : Nat} (m : Ms h0 h bc bd bw c d) (f : Fr [] h h') : Ms h0 h' bc bd bw c d := ⟨m.f.then f, f.get m.oc, f.get m.od, f.get m.ow, m.dl⟩
def EachOK (h0 : Heap) (k : Nat) (tg ky : Str) (at' : List (Str × Str)) (tx : Str) (va vc : V) (sub : NT) : Prop :=
 ∀ (h : Heap) (b o bc bd bw l c d : Nat), MsB h0 bc bd bw → Ms h0 h bc bd bw c d → (∀ h', Fr [] h0 h' → At6 h' b o (.int .u8 (k : Int)) (.str tg) (.str ky) va (.str tx) vc) → l ≤ 7 → c ≤ 64 →
  Does go 252 [.ptr b o, .int .i64 (l : Int), .ptr bc 0, .ptr bd 0, .ptr bw 0] h fun u h' => u = .bool (NT.node k tg ky at' tx sub sub.walk l c).2 ∧ ∃ d', Ms h0 h' bc bd bw (NT.node k tg ky at' tx sub sub.walk l c).1 d'
def AllE (h0 : Heap) : NT → Prop
 | .nil => True
 | .cons k tg ky at' tx va vc sub nx => EachOK h0 k tg ky at' tx va vc sub ∧ AllE h0 nx
theorem AllE.at' {h : Heap} : ∀ {t : NT} (i : Nat), AllE h t → AllE h (t.at' i)
 | .nil, 0, _ => trivial
 | .nil, _ + 1, _ => trivial
 | .cons _ _ _ _ _ _ _ _ _, 0, a => a
 | .cons _ _ _ _ _ _ _ _ _, i + 1, ⟨_, g⟩ => AllE.at' i g
theorem each_ok {h0 : Heap} {k : Nat} {tg ky : Str} {at' : List (Str × Str)} {tx : Str} {va vc : V} {sub : NT}
 (ra : Recs attC 2 h0 va at') (na : at'.length ≤ 4096) (rc : Sl h0 6 vc sub.len sub.cells) (nc : sub.len ≤ 4096) (ns : NH h0 sub) (A : AllE h0 sub) : EachOK h0 k tg ky at' tx va vc sub := by
 intro h b o bc bd bw l c d B M hA hl hc
 have lc : hload1 h bc 0 = some (.int .i64 (c : Int)) := M.oc.ld1 0
 refine does_fn g252 rfl ?_
 simp (disch := omega) only [fn252, evs, ↓reduceIte, Nat.reduceEqDiff, Nat.reduceAdd, fwrap_i64, lc]
 refine store_step (c' := [.int .i64 ((c + 1 : Nat) : Int)]) M.f.wf M.oc rfl rfl rfl ?_
 rintro h1 o1 F1 n1
 have od1 : Own h1 bd [.int .i64 (d : Int)] := F1.own _ _ (by simpa using B.cd.symm) M.od
 have ld : hload1 h1 bd 0 = some (.int .i64 (d : Int)) := od1.ld1 0
 simp only [evs, ↓reduceIte, Nat.reduceEqDiff, ld]
 have dl := M.dl
 refine store_step (c' := [.int .i64 ((max d l : Nat) : Int)]) F1.wf od1 rfl rfl (by rw [show ((max d l : Nat) : Int) = max (d : Int) (l : Int) by omega]; rfl) ?_
 rintro h2 o2 F2 n2
 have M2 : Ms h0 h2 bc bd bw (c + 1) (max d l) := by
  refine ⟨?_, F2.own _ _ (by simpa using B.cd) o1, o2, F2.own _ _ (by simpa using B.dw.symm) (F1.own _ _ (by simpa using B.cw.symm) M.ow), by omega⟩
  exact Fr.trans (Fr.trans M.f F1 B.w (fun x hx => .inl hx) (fun x hx => .inr (by simp at hx; subst hx; exact B.c))) F2 B.w (fun x hx => .inl hx) (fun x hx => .inr (by simp at hx; subst hx; exact B.d))
 have lc2 : hload1 h2 bc 0 = some (.int .i64 ((c + 1 : Nat) : Int)) := M2.oc.ld1 0
 by_cases c1 : 6 < l
 · have e : NT.node k tg ky at' tx sub sub.walk l c = (c + 1, false) := if_pos (.inl c1)
   simp only [evs, ↓reduceIte, Nat.reduceEqDiff, show (6 : Int) < (l : Int) by omega]
   rw [e]
   exact ⟨rfl, _, M2⟩
 by_cases c2 : 64 < c + 1
 · have e : NT.node k tg ky at' tx sub sub.walk l c = (c + 1, false) := if_pos (.inr (.inl c2))
   simp only [evs, ↓reduceIte, Nat.reduceEqDiff, show ¬ (6 : Int) < (l : Int) by omega, lc2, show (64 : Int) < ((c + 1 : Nat) : Int) by omega]
   rw [e]
   exact ⟨rfl, _, M2⟩
 simp only [evs, ↓reduceIte, Nat.reduceEqDiff, show ¬ (6 : Int) < (l : Int) by omega, lc2, show ¬ (64 : Int) < ((c + 1 : Nat) : Int) by omega]
 refine OQ_does (alone_ok M2.f.wf (fun h' f => hA h' (M2.f.then f)) (ra.fr M2.f) na (rc.fr M2.f) nc ns.ones) ?_
 rintro _ h3 ⟨rfl, F3⟩
 have M3 := M2.fr F3
 cases c3 : aloneB k tg ky at' tx sub
 · have e : NT.node k tg ky at' tx sub sub.walk l c = (c + 1, false) := if_pos (.inr (.inr c3))
   simp only [evs, ↓reduceIte]
   rw [e]
   exact ⟨rfl, _, M3⟩
 have e : NT.node k tg ky at' tx sub sub.walk l c = sub.walk (l + 1) (c + 1) := if_neg (by simp [c3]; omega)
 rw [e]
 have q5 := (hA h3 M3.f).2.2.2.2.2.1
 simp only [evs, ↓reduceIte, Nat.reduceEqDiff, q5, (rc.fr M3.f).len]
 refine W_loop (fun n env hh => ∃ (i c' d' : Nat), Ms h0 hh bc bd bw c' d' ∧ env.get 30 = some (.int .i64 i) ∧ env.get 29 = some (.int .i64 sub.len) ∧ env.get 0 = some (.ptr b o) ∧ env.get 1 = some (.int .i64 l) ∧ env.get 4 = some (.ptr bw 0) ∧
  i ≤ sub.len ∧ c' ≤ 64 ∧ (sub.at' i).walk (l + 1) c' = sub.walk (l + 1) (c + 1) ∧ n = sub.len - i) sub.len (by omega) ?_ ?_
 · exact ⟨0, c + 1, max d l, M3, (by simp [T.gs]), (by simp [T.gs]), (by simp [T.gs]), (by simp [T.gs]), (by simp [T.gs]), by omega, by omega, by cases sub <;> rfl, rfl⟩
 · rintro n env hh ⟨i, c', d', M', g30, g29, g0, g1, g4, hi, hc', e', rfl⟩
   by_cases hlt : i < sub.len
   · obtain ⟨kd, tg', ky', at2, tx', va', vc', sb, nx, e1, e2, e3, e4, e5, e6⟩ := sub.split i hlt
     have hlt' : (i : Int) < sub.len := by omega
     have a := A.at' i
     rw [e1] at a e'
     obtain ⟨b', o', p1, _⟩ := (rc.fr M'.f).ix6 hlt e2
     have hA' : ∀ h', Fr [] h0 h' → At6 h' b' o' (.int .u8 (kd : Int)) (.str tg') (.str ky') va' (.str tx') vc' := fun h' f => by
      obtain ⟨b2, o2, p1', p2'⟩ := (rc.fr f).ix6 hlt e2
      rw [p1] at p1'; cases p1'; exact p2'
     have q5 := (hA hh M'.f).2.2.2.2.2.1
     have lw : hload1 hh bw 0 = some (.func (.func 252) [] [.ptr bc 0, .ptr bd 0, .ptr bw 0]) := M'.ow.ld1 0
     simp (disch := omega) only [evs, ↓reduceIte, Nat.reduceEqDiff, Nat.reduceLT, eff, fwrap_i64, g30, g29, g0, g1, g4, hlt', lw, q5, p1]
     refine OQ_does (a.1 hh b' o' bc bd bw (l + 1) c' d' B M' hA' (by omega) hc') ?_
     rintro _ h4 ⟨rfl, d4, M4⟩
     simp only [NT.walk] at e'
     have nl := NT.node_le kd tg' ky' at2 tx' sb (l + 1) c' hc'
     cases c4 : (NT.node kd tg' ky' at2 tx' sb sb.walk (l + 1) c').2
     · rw [c4] at e'
       simp only [evs, ↓reduceIte, Nat.reduceEqDiff, Nat.reduceAdd, DF, eff, Nat.reduceSub, g4, lw, q5]
       rw [← e']
       exact ⟨by simp [c4], d4, by simpa using M4⟩
     · rw [c4] at e'
       simp (disch := omega) only [evs, ↓reduceIte, Nat.reduceEqDiff, Nat.reduceAdd, DF, eff, Nat.reduceSub, fwrap_i64, g30, g4, lw, q5]
       refine (roundQ_norm _ _ _).2 ⟨sub.len - (i + 1), by omega, i + 1, _, d4, M4, (by simp [T.gs]), (by simp [T.gs, g29]), (by simp [T.gs, g0]), (by simp [T.gs, g1]), (by simp [T.gs, g4]), by omega, nl.2 c4, ?_, rfl⟩
       rw [e3]; simpa using e'
   · simp only [evs, ↓reduceIte, g30, g29, show ¬ (i : Int) < sub.len by omega]
     rw [NT.at_end _ _ (by omega)] at e'
     rw [← e']
     exact ⟨rfl, d', M'⟩
theorem allE {h : Heap} : ∀ {t : NT}, NH h t → AllE h t
 | .nil, _ => trivial
 | .cons _ _ _ _ _ _ _ _ _, ⟨_, b, c, d, e, f, g⟩ => ⟨each_ok b c d e f (allE f), allE g⟩
def NT.count (k : Nat) (tg ky : Str) (at' : List (Str × Str)) (tx : Str) (sub : NT) : Nat :=
 if (node k tg ky at' tx sub sub.walk 1 0).2 = true then (node k tg ky at' tx sub sub.walk 1 0).1 else 0
theorem measure_ok {h : Heap} {k : Nat} {tg ky : Str} {at' : List (Str × Str)} {tx : Str} {va vc : V} {sub : NT} (w : WF h) (n : NH h (.cons k tg ky at' tx va vc sub .nil)) :
 Does go 203 [.agg [.int .u8 (k : Int), .str tg, .str ky, va, .str tx, vc]] h fun u h' => ∃ d : Nat, u = .tup [.int .i64 (NT.count k tg ky at' tx sub : Nat), .int .i64 (d : Int)] ∧ Fr [] h h' := by
 obtain ⟨h1, e_h1⟩ : ∃ h1, h1 = halloc h [.int .u8 (k : Int), .str tg, .str ky, va, .str tx, vc] := ⟨_, rfl⟩
 have F_h1 : Fr [] h h1 := e_h1 ▸ Fr.halloc w _
 have o_h1 : Own h1 h.next [.int .u8 (k : Int), .str tg, .str ky, va, .str tx, vc] := e_h1 ▸ Own.new w _
 obtain ⟨h2, e_h2⟩ : ∃ h2, h2 = halloc h1 [.int .i64 0] := ⟨_, rfl⟩
 have F_h2 : Fr [] h1 h2 := e_h2 ▸ Fr.halloc F_h1.wf _
 have o_h2 : Own h2 h1.next [.int .i64 0] := e_h2 ▸ Own.new F_h1.wf _
 obtain ⟨h3, e_h3⟩ : ∃ h3, h3 = halloc h2 [.int .i64 0] := ⟨_, rfl⟩
 have F_h3 : Fr [] h2 h3 := e_h3 ▸ Fr.halloc F_h2.wf _
 have o_h3 : Own h3 h2.next [.int .i64 0] := e_h3 ▸ Own.new F_h2.wf _
 obtain ⟨h4, e_h4⟩ : ∃ h4, h4 = halloc h3 [.nilf] := ⟨_, rfl⟩
 have F_h4 : Fr [] h3 h4 := e_h4 ▸ Fr.halloc F_h3.wf _
 have o_h4 : Own h4 h3.next [.nilf] := e_h4 ▸ Own.new F_h3.wf _
 have n1 : h1.next = h.next + 1 := by rw [e_h1]; rfl
 have n2 : h2.next = h1.next + 1 := by rw [e_h2]; rfl
 have n3 : h3.next = h2.next + 1 := by rw [e_h3]; rfl
 refine does_fn g203 rfl ?_
 simp only [fn203, evs, ↓reduceIte, Nat.reduceEqDiff, ← e_h1, ← e_h2, ← e_h3, ← e_h4]
 refine store_step (c' := [.func (.func 252) [] [.ptr h1.next 0, .ptr h2.next 0, .ptr h3.next 0]]) F_h4.wf o_h4 rfl rfl rfl ?_
 rintro h5 o5 F5 n5
 have F15 : Fr [] h1 h5 := Fr.new F_h1.wf (F_h2.then (F_h3.then F_h4)) F5 (by simp; omega)
 have ob := F15.get o_h1
 have B : MsB h1 h1.next h2.next h3.next := ⟨F_h1.wf, Nat.le_refl _, by omega, by omega, by omega, by omega, by omega⟩
 have M : Ms h1 h5 h1.next h2.next h3.next 0 0 := ⟨F15, F5.own _ _ (by simp; omega) (F_h4.get (F_h3.get o_h2)), F5.own _ _ (by simp; omega) (F_h4.get o_h3), o5, by omega⟩
 have lw : hload1 h5 h3.next 0 = some (.func (.func 252) [] [.ptr h1.next 0, .ptr h2.next 0, .ptr h3.next 0]) := o5.ld1 0
 have A := (allE (n.fr F_h1)).1
 simp only [evs, ↓reduceIte, Nat.reduceEqDiff, Nat.reduceLT, lw]
 refine OQ_does (A h5 h.next 0 h1.next h2.next h3.next 1 0 0 B M (fun h' f => (f.get o_h1).at6) (by omega) (by omega)) ?_
 rintro _ h6 ⟨rfl, d, M6⟩
 unfold NT.count
 cases c : (NT.node k tg ky at' tx sub sub.walk 1 0).2
 · simp only [evs, ↓reduceIte, Nat.reduceEqDiff]
   refine store_step (c' := [.int .i64 0]) M6.f.wf M6.oc rfl rfl rfl ?_
   rintro h7 o7 F7 n7
   have od7 := F7.own _ _ (by simp; omega) M6.od
   simp only [evs, ↓reduceIte, Nat.reduceEqDiff]
   refine store_step (c' := [.int .i64 0]) F7.wf od7 rfl rfl rfl ?_
   rintro h8 o8 F8 n8
   have a7 : hload1 h8 h1.next 0 = some (.int .i64 0) := (F8.own _ _ (by simp; omega) o7).ld1 0
   have a8 : hload1 h8 h2.next 0 = some (.int .i64 0) := o8.ld1 0
   simp only [evs, ↓reduceIte, Nat.reduceEqDiff, a7, a8]
   refine ⟨0, by simp, ?_⟩
   exact Fr.new w F_h1 (Fr.trans (T := [h1.next, h2.next]) (Fr.trans (T := [h1.next, h2.next]) M6.f F7 F_h1.wf (by simp) (by simp)) F8 F_h1.wf (by simp) (by simp)) (by simp; omega)
 · have lc : hload1 h6 h1.next 0 = some (.int .i64 ((NT.node k tg ky at' tx sub sub.walk 1 0).1 : Int)) := M6.oc.ld1 0
   have ld : hload1 h6 h2.next 0 = some (.int .i64 (d : Int)) := M6.od.ld1 0
   simp only [evs, ↓reduceIte, Nat.reduceEqDiff, eff, lc, ld]
   refine store_step (c' := [.int .i64 ((NT.node k tg ky at' tx sub sub.walk 1 0).1 : Int)]) M6.f.wf M6.oc rfl rfl rfl ?_
   rintro h7 o7 F7 n7
   have od7 := F7.own _ _ (by simp; omega) M6.od
   have ld7 : hload1 h7 h2.next 0 = some (.int .i64 (d : Int)) := od7.ld1 0
   simp only [evs, ↓reduceIte, Nat.reduceEqDiff, eff]
   refine store_step (c' := [.int .i64 (d : Int)]) F7.wf od7 rfl rfl rfl ?_
   rintro h8 o8 F8 n8
   have a7 : hload1 h8 h1.next 0 = some (.int .i64 ((NT.node k tg ky at' tx sub sub.walk 1 0).1 : Int)) := (F8.own _ _ (by simp; omega) o7).ld1 0
   have a8 : hload1 h8 h2.next 0 = some (.int .i64 (d : Int)) := o8.ld1 0
   simp only [evs, ↓reduceIte, Nat.reduceEqDiff, Nat.reduceAdd, DF, Nat.reduceSub, lc, ld, ld7, a7, a8]
   refine ⟨d, by simp, ?_⟩
   exact Fr.new w F_h1 (Fr.trans (T := [h1.next, h2.next]) (Fr.trans (T := [h1.next, h2.next]) M6.f F7 F_h1.wf (by simp) (by simp)) F8 F_h1.wf (by simp) (by simp)) (by simp; omega)
theorem ncount_ok {h : Heap} {k : Nat} {tg ky : Str} {at' : List (Str × Str)} {tx : Str} {va vc : V} {sub : NT} (w : WF h) (n : NH h (.cons k tg ky at' tx va vc sub .nil)) :
 Does go 142 [.agg [.int .u8 (k : Int), .str tg, .str ky, va, .str tx, vc]] h fun u h' => u = .int .i64 (NT.count k tg ky at' tx sub : Nat) ∧ Fr [] h h' := by
 obtain ⟨h1, e_h1⟩ : ∃ h1, h1 = halloc h [.int .u8 (k : Int), .str tg, .str ky, va, .str tx, vc] := ⟨_, rfl⟩
 have F_h1 : Fr [] h h1 := e_h1 ▸ Fr.halloc w _
 have o_h1 : Own h1 h.next [.int .u8 (k : Int), .str tg, .str ky, va, .str tx, vc] := e_h1 ▸ Own.new w _
 refine does_fn g142 rfl ?_
 simp only [fn142, evs, ↓reduceIte, Nat.reduceEqDiff, ← e_h1, o_h1.at6.2.2.2.2.2.2]
 refine OQ_does (measure_ok F_h1.wf (n.fr F_h1)) ?_
 rintro _ h2 ⟨d, rfl, F2⟩
 simp only [evs, ↓reduceIte]
 exact F_h1.then F2
theorem ncheck_ok {h : Heap} {k : Nat} {tg ky : Str} {at' : List (Str × Str)} {tx : Str} {va vc : V} {sub : NT} (w : WF h) (n : NH h (.cons k tg ky at' tx va vc sub .nil)) :
 Does go 74 [.agg [.int .u8 (k : Int), .str tg, .str ky, va, .str tx, vc]] h fun u h' => u = .int .i64 (if NT.count k tg ky at' tx sub = 0 then 14 else 0) ∧ Fr [] h h' := by
 obtain ⟨h1, e_h1⟩ : ∃ h1, h1 = halloc h [.int .u8 (k : Int), .str tg, .str ky, va, .str tx, vc] := ⟨_, rfl⟩
 have F_h1 : Fr [] h h1 := e_h1 ▸ Fr.halloc w _
 have o_h1 : Own h1 h.next [.int .u8 (k : Int), .str tg, .str ky, va, .str tx, vc] := e_h1 ▸ Own.new w _
 by_cases c : NT.count k tg ky at' tx sub = 0
 · refine does_fn g74 rfl ?_
   simp only [fn74, evs, ↓reduceIte, Nat.reduceEqDiff, ← e_h1, o_h1.at6.2.2.2.2.2.2]
   refine OQ_does (ncount_ok F_h1.wf (n.fr F_h1)) ?_
   rintro _ h2 ⟨rfl, F2⟩
   simp only [evs, ↓reduceIte, show ((NT.count k tg ky at' tx sub : Nat) : Int) = 0 by omega]
   exact ⟨by rw [if_pos c], F_h1.then F2⟩
 · refine does_fn g74 rfl ?_
   simp only [fn74, evs, ↓reduceIte, Nat.reduceEqDiff, ← e_h1, o_h1.at6.2.2.2.2.2.2]
   refine OQ_does (ncount_ok F_h1.wf (n.fr F_h1)) ?_
   rintro _ h2 ⟨rfl, F2⟩
   simp only [evs, ↓reduceIte, show ¬ ((NT.count k tg ky at' tx sub : Nat) : Int) = 0 by omega]
   exact ⟨by rw [if_neg c], F_h1.then F2⟩
theorem count_name (z : Str) : NT.count 1 z [] [] [] .nil = if okN z then 1 else 0 := by
 have a : aloneB 1 z [] [] [] .nil = okN z := by simp [aloneB, attrsOK, keysOK, NT.keys, NT.len]
 have e : NT.node 1 z [] [] [] .nil NT.nil.walk 1 0 = (1, okN z) := by
  unfold NT.node; rw [a]; cases okN z <;> rfl
 unfold NT.count; rw [e]
theorem count_text (z : Str) : NT.count 2 [] [] [] z .nil = if okT z then 1 else 0 := by
 have a : aloneB 2 [] [] [] z .nil = okT z := by simp [aloneB, NT.len]
 have e : NT.node 2 [] [] [] z .nil NT.nil.walk 1 0 = (1, okT z) := by
  unfold NT.node; rw [a]; cases okT z <;> rfl
 unfold NT.count; rw [e]
theorem nh_name {h : Heap} (k : Nat) (hk : k < 256) (tg tx : Str) : NH h (.cons k tg [] [] tx .nils .nils .nil .nil) := ⟨hk, Recs.nil, by simp, ⟨rfl, rfl⟩, by simp [NT.len], trivial, trivial⟩
theorem tnamed_ok {h : Heap} {z : Str} (w : WF h) : Does go 248 [.str z] h fun u h' => u = .bool (okN z) ∧ Fr [] h h' := by
 refine does_fn g248 rfl ?_
 simp only [fn248, evs, ↓reduceIte, Nat.reduceEqDiff]
 refine OQ_does (ncheck_ok (at' := []) (sub := .nil) w (nh_name 1 (by omega) z [])) ?_
 rintro _ h1 ⟨rfl, F⟩
 rw [count_name]
 cases okN z
 · simp only [evs, ↓reduceIte]
   exact ⟨rfl, F⟩
 · simp only [evs, ↓reduceIte]
   exact F
theorem tplain_ok {h : Heap} {z : Str} (w : WF h) : Does go 246 [.str z] h fun u h' => u = .bool (okT z) ∧ Fr [] h h' := by
 refine does_fn g246 rfl ?_
 simp only [fn246, evs, ↓reduceIte, Nat.reduceEqDiff]
 refine OQ_does (ncheck_ok (at' := []) (sub := .nil) w (nh_name 2 (by omega) [] z)) ?_
 rintro _ h1 ⟨rfl, F⟩
 rw [count_text]
 cases okT z
 · simp only [evs, ↓reduceIte]
   exact ⟨rfl, F⟩
 · simp only [evs, ↓reduceIte]
   exact F
abbrev Slo := Str × Nat × Str
def sloC (s : Slo) : List V := [.str s.1, .int .u8 (s.2.1 : Int), .str s.2.2]
theorem sloC_len (s : Slo) : (sloC s).length = 3 := rfl
def sloB (p : Option Str) (s : Slo) : Bool := okN s.1 && (decide (s.2.1 ≤ 3) && (okT s.2.2 && ((decide (s.2.1 = 0) || s.2.2 == []) && prevOK p s.1)))
def slosOK : Option Str → List Slo → Bool
 | _, [] => true
 | p, s :: r => sloB p s && slosOK (some s.1) r
theorem slosOK_cons (p : Option Str) (s : Slo) (r : List Slo) : slosOK p (s :: r) = (sloB p s && slosOK (some s.1) r) := rfl
def prevS (at' : List Slo) (i : Nat) : Option Str := if i = 0 then none else (at'[i - 1]?).map (·.1)
theorem prevS_succ {at' : List Slo} {i : Nat} {a : Slo} (h : at'[i]? = some a) : prevS at' (i + 1) = some a.1 := by simp [prevS, h]
def slotsB (l : List Slo) : Bool := decide (l.length ≤ 8) && slosOK none l
theorem slots_ok {h : Heap} {v : V} {l : List Slo} (w : WF h) (ra : Recs sloC 3 h v l) (na : l.length ≤ 4096) : Does go 283 [v] h fun u h' => u = .bool (slotsB l) ∧ Fr [] h h' := by
 by_cases c8 : l.length ≤ 8
 · refine does_fn g283 rfl ?_
   simp only [fn283, evs, ↓reduceIte, Nat.reduceEqDiff, ra.len, show ¬ (8 : Int) < (l.length : Nat) by omega]
   refine W_loop (fun n env hh => Fr [] h hh ∧ ∃ (i : Nat), env.get 10 = some (.int .i64 i) ∧ env.get 9 = some (.int .i64 l.length) ∧ env.get 8 = some v ∧ env.get 0 = some v ∧
    i ≤ l.length ∧ slosOK (prevS l i) (l.drop i) = slosOK none l ∧ n = l.length - i) l.length (by omega) ?_ ?_
   · exact ⟨Fr.refl w, 0, (by simp [T.gs]), (by simp [T.gs]), (by simp [T.gs]), (by simp [T.gs]), by omega, rfl, rfl⟩
   · rintro n env hh ⟨F, i, g103, g102, g101, g0, hi, e, rfl⟩
     by_cases hlt : i < l.length
     · have hlt' : (i : Int) < l.length := by omega
       obtain ⟨b', o', a, p1, p2, p3, p4⟩ := (ra.fr F).ix sloC_len .i64 (i : Int) (by omega) hlt'
       rw [Int.toNat_natCast] at p4
       rw [drop_cons p4, slosOK_cons] at e
       have en := prevS_succ p4
       have bad : ∀ {h'}, Fr [] h h' → sloB (prevS l i) a = false → V.bool false = .bool (slotsB l) ∧ Fr [] h h' := fun f c => by
        rw [c] at e
        exact ⟨by simp [slotsB, ← e], f⟩
       obtain ⟨h1, e_h1⟩ : ∃ h1, h1 = halloc hh [.str [], .int .u8 0, .str []] := ⟨_, rfl⟩
       have F_h1 : Fr [] hh h1 := e_h1 ▸ Fr.halloc F.wf _
       have o_h1 : Own h1 hh.next [.str [], .int .u8 0, .str []] := e_h1 ▸ Own.new F.wf _
       simp only [evs, ↓reduceIte, Nat.reduceEqDiff, g103, g102, g101, hlt', p1, p3, ← e_h1]
       refine store_step (c' := [.str a.1, .int .u8 (a.2.1 : Int), .str a.2.2]) F_h1.wf o_h1 rfl rfl rfl ?_
       rintro h2 o2 F2 n2
       have F02 : Fr [] hh h2 := F_h1.fresh F2 F.wf (Nat.le_refl _)
       have q0 : hload1 h2 hh.next 0 = some (.str a.1) := o2.ld1 0
       simp only [evs, ↓reduceIte, Nat.reduceEqDiff, eff, q0]
       refine OQ_does (tnamed_ok F02.wf) ?_
       rintro _ h3 ⟨rfl, F3⟩
       have F03 := (F.then F02).then F3
       have r1 : hload1 h3 hh.next 1 = some (.int .u8 (a.2.1 : Int)) := (F3.get o2).ld1 1
       have r2 : hload1 h3 hh.next 2 = some (.str a.2.2) := (F3.get o2).ld1 2
       cases c1 : okN a.1
       · simp only [evs, ↓reduceIte, Nat.reduceAdd, DF, eff, Nat.reduceSub, q0]
         exact bad F03 (by simp [sloB, c1])
       by_cases c2 : 3 < a.2.1
       · simp only [evs, ↓reduceIte, Nat.reduceEqDiff, Nat.reduceAdd, DF, eff, Nat.reduceSub, q0, r1, show (3 : Int) < (a.2.1 : Nat) by omega]
         exact bad F03 (by simp [sloB]; omega)
       have c2' : ¬ (3 : Int) < (a.2.1 : Nat) := by omega
       simp only [evs, ↓reduceIte, Nat.reduceEqDiff, eff, r1, c2', r2]
       refine OQ_does (tplain_ok F3.wf) ?_
       rintro _ h4 ⟨rfl, F4⟩
       have F04 := F03.then F4
       have o4 := F4.get (F3.get o2)
       have s0 : hload1 h4 hh.next 0 = some (.str a.1) := o4.ld1 0
       have s1 : hload1 h4 hh.next 1 = some (.int .u8 (a.2.1 : Int)) := o4.ld1 1
       have s2 : hload1 h4 hh.next 2 = some (.str a.2.2) := o4.ld1 2
       cases c3 : okT a.2.2
       · simp only [evs, ↓reduceIte, Nat.reduceAdd, DF, eff, Nat.reduceSub, q0, r1, r2]
         exact bad F04 (by simp [sloB, c3])
       have fin : (decide (a.2.1 = 0) || a.2.2 == []) = true → prevOK (prevS l i) a.1 = true → slosOK (prevS l (i + 1)) (l.drop (i + 1)) = slosOK none l := fun x y => by
        have z : sloB (prevS l i) a = true := by
         unfold sloB
         rw [c1, c3, x, y, show decide (a.2.1 ≤ 3) = true by simp; omega]; rfl
        rw [z, Bool.true_and] at e
        rw [en]; exact e
       by_cases cf : a.2.1 = 0
       · by_cases c4 : i = 0
         · simp (disch := omega) only [evs, ↓reduceIte, Nat.reduceEqDiff, Nat.reduceAdd, DF, eff, Nat.reduceSub, fwrap_i64, g103, q0, r1, r2, s1, show ¬ (0 : Int) < (a.2.1 : Nat) by omega, show ¬ (0 : Int) < (i : Int) by omega]
           refine (roundQ_norm _ _ _).2 ⟨l.length - (i + 1), by omega, F04, i + 1, (by simp [T.gs]), (by simp [T.gs, g102]), (by simp [T.gs, g101]), (by simp [T.gs, g0]), by omega, fin (by simp [cf]) (by simp [prevS, c4, prevOK]), rfl⟩
           done
         · obtain ⟨b2, o2', a2, t1, t2, t3, t4⟩ := (ra.fr F04).ix sloC_len .i64 ((i : Int) - 1) (by omega) (by omega)
           have t4' : l[i - 1]? = some a2 := by rw [← t4]; congr 1; omega
           have t2' : hload1 h4 b2 o2' = some (.str a2.1) := t2 0 (by omega)
           have pe : prevS l i = some a2.1 := by simp [prevS, c4, t4']
           cases c5 : leS a.1 a2.1
           · simp (disch := omega) only [evs, ↓reduceIte, Nat.reduceEqDiff, Nat.reduceAdd, DF, eff, Nat.reduceSub, fwrap_i64, g103, g0, q0, r1, r2, s0, s1, show ¬ (0 : Int) < (a.2.1 : Nat) by omega, c5, t1, t2', aP_sble, show (0 : Int) < (i : Int) by omega]
             refine (roundQ_norm _ _ _).2 ⟨l.length - (i + 1), by omega, F04, i + 1, (by simp [T.gs]), (by simp [T.gs, g102]), (by simp [T.gs, g101]), (by simp [T.gs, g0]), by omega, fin (by simp [cf]) (by rw [pe]; simp [prevOK, c5]), rfl⟩
             done
           · simp (disch := omega) only [evs, ↓reduceIte, Nat.reduceEqDiff, Nat.reduceAdd, DF, eff, Nat.reduceSub, fwrap_i64, g0, q0, r1, r2, s0, s1, show ¬ (0 : Int) < (a.2.1 : Nat) by omega, c5, t1, t2', aP_sble, show (0 : Int) < (i : Int) by omega]
             exact bad F04 (by simp [sloB, pe, prevOK, c5])
       · cases cv : a.2.2 == []
         · simp only [evs, ↓reduceIte, Nat.reduceEqDiff, Nat.reduceAdd, DF, eff, Nat.reduceSub, q0, r1, r2, s1, s2, show (0 : Int) < (a.2.1 : Nat) by omega, aP_sbn, cv]
           exact bad F04 (by simp [sloB, cf, cv])
         · by_cases c4 : i = 0
           · simp (disch := omega) only [evs, ↓reduceIte, Nat.reduceEqDiff, Nat.reduceAdd, DF, eff, Nat.reduceSub, fwrap_i64, g103, q0, r1, r2, s1, s2, show (0 : Int) < (a.2.1 : Nat) by omega, aP_sbn, cv, show ¬ (0 : Int) < (i : Int) by omega]
             refine (roundQ_norm _ _ _).2 ⟨l.length - (i + 1), by omega, F04, i + 1, (by simp [T.gs]), (by simp [T.gs, g102]), (by simp [T.gs, g101]), (by simp [T.gs, g0]), by omega, fin (by simp [cv]) (by simp [prevS, c4, prevOK]), rfl⟩
             done
           · obtain ⟨b2, o2', a2, t1, t2, t3, t4⟩ := (ra.fr F04).ix sloC_len .i64 ((i : Int) - 1) (by omega) (by omega)
             have t4' : l[i - 1]? = some a2 := by rw [← t4]; congr 1; omega
             have t2' : hload1 h4 b2 o2' = some (.str a2.1) := t2 0 (by omega)
             have pe : prevS l i = some a2.1 := by simp [prevS, c4, t4']
             cases c5 : leS a.1 a2.1
             · simp (disch := omega) only [evs, ↓reduceIte, Nat.reduceEqDiff, Nat.reduceAdd, DF, eff, Nat.reduceSub, fwrap_i64, g103, g0, q0, r1, r2, s0, s1, s2, show (0 : Int) < (a.2.1 : Nat) by omega, aP_sbn, cv, c5, t1, t2', aP_sble, show (0 : Int) < (i : Int) by omega]
               refine (roundQ_norm _ _ _).2 ⟨l.length - (i + 1), by omega, F04, i + 1, (by simp [T.gs]), (by simp [T.gs, g102]), (by simp [T.gs, g101]), (by simp [T.gs, g0]), by omega, fin (by simp [cv]) (by rw [pe]; simp [prevOK, c5]), rfl⟩
               done
             · simp (disch := omega) only [evs, ↓reduceIte, Nat.reduceEqDiff, Nat.reduceAdd, DF, eff, Nat.reduceSub, fwrap_i64, g0, q0, r1, r2, s0, s1, s2, show (0 : Int) < (a.2.1 : Nat) by omega, aP_sbn, cv, c5, t1, t2', aP_sble, show (0 : Int) < (i : Int) by omega]
               exact bad F04 (by simp [sloB, pe, prevOK, c5])
     · simp only [evs, ↓reduceIte, g103, g102, show ¬ (i : Int) < l.length by omega]
       rw [List.drop_of_length_le (by omega)] at e
       exact ⟨by simp [slotsB, c8, ← e, slosOK], F⟩
 · refine does_fn g283 rfl ?_
   simp only [fn283, evs, ↓reduceIte, Nat.reduceEqDiff, ra.len, show (8 : Int) < (l.length : Nat) by omega]
   exact ⟨by simp [slotsB, c8], Fr.refl w⟩
set_option maxRecDepth 4000
inductive PT where
 | nil
 | cons (kind : Nat) (tag key : Str) (slots : List Slo) (text : Str) (va vc : V) (sub next : PT)
namespace PT
def len : PT → Nat
 | nil => 0
 | cons _ _ _ _ _ _ _ _ nx => nx.len + 1
def cells : PT → List V
 | nil => []
 | cons k tg ky _ tx va vc _ nx => [.int .u8 (k : Int), .str tg, .str ky, va, .str tx, vc] ++ nx.cells
def keys : PT → List Str
 | nil => []
 | cons _ _ ky _ _ _ _ _ nx => ky :: nx.keys
theorem cells_len : ∀ t : PT, t.cells.length = t.len * 6
 | nil => rfl
 | cons _ _ _ _ _ _ _ _ nx => by simp [cells, len, cells_len nx]; omega
theorem keys_len : ∀ t : PT, t.keys.length = t.len
 | nil => rfl
 | cons _ _ _ _ _ _ _ _ nx => by simp [keys, len, keys_len nx]
def at' : PT → Nat → PT
 | t, 0 => t
 | nil, _ + 1 => nil
 | cons _ _ _ _ _ _ _ _ nx, i + 1 => nx.at' i
end PT
def PH (h : Heap) : PT → Prop
 | .nil => True
 | .cons k _ _ at' _ va vc sub nx => k < 256 ∧ Recs sloC 3 h va at' ∧ at'.length ≤ 4096 ∧ Sl h 6 vc sub.len sub.cells ∧ sub.len ≤ 4096 ∧ PH h sub ∧ PH h nx
theorem PH.fr {h h' : Heap} (f : Fr [] h h') : ∀ {t : PT}, PH h t → PH h' t
 | .nil, _ => trivial
 | .cons _ _ _ _ _ _ _ _ _, ⟨a, b, c, d, e, g, i⟩ => ⟨a, b.fr f, c, d.fr f, e, PH.fr f g, PH.fr f i⟩
namespace PT
theorem split : ∀ (t : PT) (i : Nat), i < t.len → ∃ k tg ky at' tx va vc sub nx, t.at' i = .cons k tg ky at' tx va vc sub nx ∧ t.cells.drop (i * 6) = [.int .u8 ((k : Nat) : Int), .str tg, .str ky, va, .str tx, vc] ++ nx.cells ∧ t.at' (i + 1) = nx ∧ t.keys.drop i = ky :: nx.keys ∧ t.keys[i]? = some ky ∧ nx.len + (i + 1) = t.len
 | .nil, _, h => by cases h
 | .cons k tg ky at' tx va vc sub nx, 0, _ => ⟨k, tg, ky, at', tx, va, vc, sub, nx, rfl, rfl, by cases nx <;> rfl, rfl, rfl, rfl⟩
 | .cons _ _ _ _ _ _ _ _ nx, i + 1, h => by
  obtain ⟨k, tg, ky, at', tx, va, vc, sub, n, e1, e2, e3, e4, e5, e6⟩ := split nx i (by simp [len] at h; omega)
  refine ⟨k, tg, ky, at', tx, va, vc, sub, n, e1, ?_, e3, e4, ?_, by simp only [len]; omega⟩
  · rw [show (i + 1) * 6 = 6 + i * 6 by omega, ← List.drop_drop]; exact e2
  · simpa [keys] using e5
theorem at_end : ∀ (t : PT) (i : Nat), t.len ≤ i → t.at' i = .nil
 | .nil, 0, _ => rfl
 | .nil, _ + 1, _ => rfl
 | .cons _ _ _ _ _ _ _ _ nx, 0, h => by simp [len] at h
 | .cons _ _ _ _ _ _ _ _ nx, i + 1, h => at_end nx i (by simp [len] at h; omega)
end PT
theorem PH.at' {h : Heap} : ∀ {t : PT} (i : Nat), PH h t → PH h (t.at' i)
 | .nil, 0, _ => trivial
 | .nil, _ + 1, _ => trivial
 | .cons _ _ _ _ _ _ _ _ _, 0, a => a
 | .cons _ _ _ _ _ _ _ _ _, i + 1, ⟨_, _, _, _, _, _, g⟩ => PH.at' i g
def partB (k : Nat) (tg ky : Str) (sl : List Slo) (tx : Str) (n : Nat) : Bool :=
 if k = 1 then (ky == [] || okN ky) && (decide (n ≤ 16) && (okN tg && (slotsB sl && tx == [])))
 else if k = 5 then okN tg && (slotsB sl && (ky == [] && (tx == [] && decide (n = 0))))
 else if k = 2 then okT tx && (tg == [] && (ky == [] && (decide (sl.length = 0) && decide (n = 0))))
 else if k = 3 ∨ k = 4 then tg == [] && (ky == [] && (tx == [] && (decide (sl.length = 0) && decide (n = 0))))
 else false
theorem PH.ones {h : Heap} : ∀ {t : PT}, PH h t → onesB t.cells = true
 | .nil, _ => rfl
 | .cons k tg ky _ tx va vc _ nx, ⟨_, b, _, d, _, _, g⟩ => by
  show onesB ([.int .u8 (k : Int), .str tg, .str ky, va, .str tx, vc] ++ nx.cells) = true
  rw [onesB_append, PH.ones g]
  simp only [onesB_cons, onesB_nil, Sl.one b, Sl.one d]; rfl
namespace PT
def node (k : Nat) (tg ky : Str) (at' : List Slo) (tx : Str) (sub : PT) (w : Nat → Nat → Nat × Bool) (l c : Nat) : Nat × Bool :=
 if 6 < l ∨ 64 < c + 1 ∨ partB k tg ky at' tx sub.len = false then (c + 1, false) else w (l + 1) (c + 1)
def walk : PT → Nat → Nat → Nat × Bool
 | nil, _, c => (c, true)
 | cons k tg ky at' tx _ _ sub nx, l, c => let r := node k tg ky at' tx sub sub.walk l c; if r.2 = true then nx.walk l r.1 else r
theorem walk_le : ∀ (t : PT) (l c : Nat), c ≤ 64 → (t.walk l c).1 ≤ 65 ∧ ((t.walk l c).2 = true → (t.walk l c).1 ≤ 64)
 | nil, _, c, h => ⟨by simp [walk]; omega, fun _ => h⟩
 | cons k tg ky at' tx _ _ sub nx, l, c, h => by
  have q : (node k tg ky at' tx sub sub.walk l c).1 ≤ 65 ∧ ((node k tg ky at' tx sub sub.walk l c).2 = true → (node k tg ky at' tx sub sub.walk l c).1 ≤ 64) := by
   unfold node
   split
   · exact ⟨by simp; omega, fun e => by cases e⟩
   · rename_i x
     exact walk_le sub (l + 1) (c + 1) (by omega)
  simp only [walk]
  split
  · rename_i x; exact walk_le nx l _ (q.2 x)
  · exact q
theorem node_le (k : Nat) (tg ky : Str) (at' : List Slo) (tx : Str) (sub : PT) (l c : Nat) (h : c ≤ 64) : (node k tg ky at' tx sub sub.walk l c).1 ≤ 65 ∧ ((node k tg ky at' tx sub sub.walk l c).2 = true → (node k tg ky at' tx sub sub.walk l c).1 ≤ 64) := by
 unfold node
 split
 · exact ⟨by simp; omega, fun e => by cases e⟩
 · exact walk_le sub (l + 1) (c + 1) (by omega)
end PT
set_option maxRecDepth 4000
theorem talone_ok {h : Heap} {b o k : Nat} {tg ky tx : Str} {sl : List Slo} {va vc : V} {sub : PT} (w : WF h) (hA : ∀ h', Fr [] h h' → At6 h' b o (.int .u8 (k : Int)) (.str tg) (.str ky) va (.str tx) vc)
 (ra : Recs sloC 3 h va sl) (na : sl.length ≤ 4096) (rc : Sl h 6 vc sub.len sub.cells) (nc : sub.len ≤ 4096) :
 Does go 261 [.ptr b o] h fun u h' => u = .bool (partB k tg ky sl tx sub.len) ∧ Fr [] h h' := by
 have q := hA h (Fr.refl w)
 have va1 := Sl.one ra
 have vc1 := rc.one
 obtain ⟨h1, e_h1⟩ : ∃ h1, h1 = halloc h [.int .u8 0, .str [], .str [], .nils, .str [], .nils] := ⟨_, rfl⟩
 have F_h1 : Fr [] h h1 := e_h1 ▸ Fr.halloc w _
 have o_h1 : Own h1 h.next [.int .u8 0, .str [], .str [], .nils, .str [], .nils] := e_h1 ▸ Own.new w _
 refine does_fn g261 rfl ?_
 simp only [fn261, evs, ↓reduceIte, Nat.reduceEqDiff, ← e_h1, q.2.2.2.2.2.2]
 refine store_step (c' := [.int .u8 (k : Int), .str tg, .str ky, va, .str tx, vc]) F_h1.wf o_h1 rfl (by simp only [V.cells, onesB_cons, onesB_nil, va1, vc1]; rfl) rfl ?_
 rintro h2 o2 F2 n2
 have F02 : Fr [] h h2 := F_h1.fresh F2 w (Nat.le_refl _)
 obtain ⟨q0, q1, q2, q3, q4, q5, _⟩ := hA h2 F02
 have l3 : aP .lenS [va] = some (.int .i64 (sl.length : Nat)) := ra.len
 have l5 : aP .lenS [vc] = some (.int .i64 (sub.len : Nat)) := rc.len
 have s1 : hload1 h2 h.next 1 = some (.str tg) := o2.ld1 1
 have s2 : hload1 h2 h.next 2 = some (.str ky) := o2.ld1 2
 have s3 : hload1 h2 h.next 3 = some va := o2.ld1 3
 have s4 : hload1 h2 h.next 4 = some (.str tx) := o2.ld1 4
 have s5 : hload1 h2 h.next 5 = some vc := o2.ld1 5
 unfold partB
 by_cases k1 : k = 1
 · rw [if_pos k1]
   cases ck : ky == []
   · simp only [evs, ↓reduceIte, Nat.reduceEqDiff, q0, show (k : Int) = 1 by omega, q2, aP_sbn, ck]
     refine OQ_does (tnamed_ok F2.wf) ?_
     rintro _ h3 ⟨rfl, F3⟩
     have F03 := F02.then F3
     cases cn : okN ky
     · simp only [evs, ↓reduceIte]
       exact ⟨by simp [], F03⟩
     have qp := (hA h3 F03).2.2.2.2.2.1
     by_cases cp0 : ¬ sub.len ≤ 16
     · simp only [evs, ↓reduceIte, Nat.reduceEqDiff, qp, l5, show (16 : Int) < (sub.len : Nat) by omega]
       exact ⟨by simp [cp0], F03⟩
     have cp : sub.len ≤ 16 := by omega
     simp only [evs, ↓reduceIte, Nat.reduceEqDiff, qp, l5, show ¬ (16 : Int) < (sub.len : Nat) by omega]
     refine store_step (c' := [.int .u8 (k : Int), .str tg, .str [], va, .str tx, vc]) F3.wf (F3.get o2) rfl rfl rfl ?_
     rintro he oe Fe ne
     simp only [evs, ↓reduceIte, Nat.reduceEqDiff]
     refine store_step (c' := [.int .u8 (k : Int), .str tg, .str [], va, .str tx, .nils]) Fe.wf oe rfl rfl rfl ?_
     rintro hf of Ff nf
     have Gf : Fr [] h hf := (F03.fresh Fe w (Nat.le_refl _)).fresh Ff w (Nat.le_refl _)
     have qa := (hA hf Gf).2.1
     simp only [evs, ↓reduceIte, Nat.reduceEqDiff, qa]
     refine OQ_does (tnamed_ok Gf.wf) ?_
     rintro _ ha ⟨rfl, Fa⟩
     have G1 := Gf.then Fa
     have qb := (hA ha G1).2.2.2.1
     cases c1 : okN tg
     · simp only [evs, ↓reduceIte]
       exact ⟨by simp [cp], G1⟩
     simp only [evs, ↓reduceIte, Nat.reduceEqDiff, qb]
     refine OQ_does (slots_ok Fa.wf (ra.fr G1) na) ?_
     rintro _ hb ⟨rfl, Fb⟩
     have G2 := G1.then Fb
     cases c2 : slotsB sl
     · simp only [evs, ↓reduceIte]
       exact ⟨by simp [cp], G2⟩
     simp only [evs, ↓reduceIte, Nat.reduceEqDiff]
     have oa := Fb.get (Fa.get of)
     refine store_step (c' := [.int .u8 (k : Int), .str [], .str [], va, .str tx, .nils]) Fb.wf oa rfl rfl rfl ?_
     rintro hc oc Fc nc1
     simp only [evs, ↓reduceIte, Nat.reduceEqDiff]
     refine store_step (c' := [.int .u8 (k : Int), .str [], .str [], .nils, .str tx, .nils]) Fc.wf oc rfl rfl rfl ?_
     rintro hd od Fd nd
     have G3 : Fr [] h hd := (G2.fresh Fc w (Nat.le_refl _)).fresh Fd w (Nat.le_refl _)
     have z1 : hload1 hd h.next 1 = some (.str []) := od.ld1 1
     have z2 : hload1 hd h.next 2 = some (.str []) := od.ld1 2
     have z3 : hload1 hd h.next 3 = some (.nils) := od.ld1 3
     have z4 : hload1 hd h.next 4 = some (.str tx) := od.ld1 4
     have z5 : hload1 hd h.next 5 = some (.nils) := od.ld1 5
     cases tX : tx == []
     · simp only [evs, ↓reduceIte, Nat.reduceEqDiff, z1, z2, z4, aP_sbe, show (([] : Str) == []) = true from rfl, tX]
       exact ⟨by simp [cp], G3⟩
     simp only [evs, ↓reduceIte, Nat.reduceEqDiff, z1, z2, z3, z4, z5, aP_sbe, show (([] : Str) == []) = true from rfl, tX]
     exact ⟨by simp [cp], G3⟩
   · have F03 := F02
     have qp := (hA h2 F02).2.2.2.2.2.1
     by_cases cp0 : ¬ sub.len ≤ 16
     · simp only [evs, ↓reduceIte, Nat.reduceEqDiff, q0, show (k : Int) = 1 by omega, q2, aP_sbn, ck, qp, l5, show (16 : Int) < (sub.len : Nat) by omega]
       exact ⟨by simp [cp0], F02⟩
     have cp : sub.len ≤ 16 := by omega
     simp only [evs, ↓reduceIte, Nat.reduceEqDiff, q0, show (k : Int) = 1 by omega, q2, aP_sbn, ck, qp, l5, show ¬ (16 : Int) < (sub.len : Nat) by omega]
     refine store_step (c' := [.int .u8 (k : Int), .str tg, .str [], va, .str tx, vc]) F2.wf o2 rfl rfl rfl ?_
     rintro he oe Fe ne
     simp only [evs, ↓reduceIte, Nat.reduceEqDiff]
     refine store_step (c' := [.int .u8 (k : Int), .str tg, .str [], va, .str tx, .nils]) Fe.wf oe rfl rfl rfl ?_
     rintro hf of Ff nf
     have Gf : Fr [] h hf := (F02.fresh Fe w (Nat.le_refl _)).fresh Ff w (Nat.le_refl _)
     have qa := (hA hf Gf).2.1
     simp only [evs, ↓reduceIte, Nat.reduceEqDiff, qa]
     refine OQ_does (tnamed_ok Gf.wf) ?_
     rintro _ ha ⟨rfl, Fa⟩
     have G1 := Gf.then Fa
     have qb := (hA ha G1).2.2.2.1
     cases c1 : okN tg
     · simp only [evs, ↓reduceIte]
       exact ⟨by simp [cp], G1⟩
     simp only [evs, ↓reduceIte, Nat.reduceEqDiff, qb]
     refine OQ_does (slots_ok Fa.wf (ra.fr G1) na) ?_
     rintro _ hb ⟨rfl, Fb⟩
     have G2 := G1.then Fb
     cases c2 : slotsB sl
     · simp only [evs, ↓reduceIte]
       exact ⟨by simp [cp], G2⟩
     simp only [evs, ↓reduceIte, Nat.reduceEqDiff]
     have oa := Fb.get (Fa.get of)
     refine store_step (c' := [.int .u8 (k : Int), .str [], .str [], va, .str tx, .nils]) Fb.wf oa rfl rfl rfl ?_
     rintro hc oc Fc nc1
     simp only [evs, ↓reduceIte, Nat.reduceEqDiff]
     refine store_step (c' := [.int .u8 (k : Int), .str [], .str [], .nils, .str tx, .nils]) Fc.wf oc rfl rfl rfl ?_
     rintro hd od Fd nd
     have G3 : Fr [] h hd := (G2.fresh Fc w (Nat.le_refl _)).fresh Fd w (Nat.le_refl _)
     have z1 : hload1 hd h.next 1 = some (.str []) := od.ld1 1
     have z2 : hload1 hd h.next 2 = some (.str []) := od.ld1 2
     have z3 : hload1 hd h.next 3 = some (.nils) := od.ld1 3
     have z4 : hload1 hd h.next 4 = some (.str tx) := od.ld1 4
     have z5 : hload1 hd h.next 5 = some (.nils) := od.ld1 5
     cases tX : tx == []
     · simp only [evs, ↓reduceIte, Nat.reduceEqDiff, z1, z2, z4, aP_sbe, show (([] : Str) == []) = true from rfl, tX]
       exact ⟨by simp [cp], G3⟩
     simp only [evs, ↓reduceIte, Nat.reduceEqDiff, z1, z2, z3, z4, z5, aP_sbe, show (([] : Str) == []) = true from rfl, tX]
     exact ⟨by simp [cp], G3⟩
 by_cases k5 : k = 5
 · rw [if_neg k1, if_pos k5]
   have qa := (hA h2 F02).2.1
   simp only [evs, ↓reduceIte, Nat.reduceEqDiff, q0, show (k : Int) = 5 by omega, qa]
   refine OQ_does (tnamed_ok F02.wf) ?_
   rintro _ ha ⟨rfl, Fa⟩
   have G1 := F02.then Fa
   have qb := (hA ha G1).2.2.2.1
   cases c1 : okN tg
   · simp only [evs, ↓reduceIte]
     exact ⟨by simp [], G1⟩
   simp only [evs, ↓reduceIte, Nat.reduceEqDiff, qb]
   refine OQ_does (slots_ok Fa.wf (ra.fr G1) na) ?_
   rintro _ hb ⟨rfl, Fb⟩
   have G2 := G1.then Fb
   cases c2 : slotsB sl
   · simp only [evs, ↓reduceIte]
     exact ⟨by simp [], G2⟩
   simp only [evs, ↓reduceIte, Nat.reduceEqDiff]
   have oa := Fb.get (Fa.get o2)
   refine store_step (c' := [.int .u8 (k : Int), .str [], .str ky, va, .str tx, vc]) Fb.wf oa rfl rfl rfl ?_
   rintro hc oc Fc nc1
   simp only [evs, ↓reduceIte, Nat.reduceEqDiff]
   refine store_step (c' := [.int .u8 (k : Int), .str [], .str ky, .nils, .str tx, vc]) Fc.wf oc rfl rfl rfl ?_
   rintro hd od Fd nd
   have G3 : Fr [] h hd := (G2.fresh Fc w (Nat.le_refl _)).fresh Fd w (Nat.le_refl _)
   have z1 : hload1 hd h.next 1 = some (.str []) := od.ld1 1
   have z2 : hload1 hd h.next 2 = some (.str ky) := od.ld1 2
   have z3 : hload1 hd h.next 3 = some (.nils) := od.ld1 3
   have z4 : hload1 hd h.next 4 = some (.str tx) := od.ld1 4
   have z5 : hload1 hd h.next 5 = some (vc) := od.ld1 5
   cases tK : ky == []
   · simp only [evs, ↓reduceIte, Nat.reduceEqDiff, z1, z2, aP_sbe, show (([] : Str) == []) = true from rfl, tK]
     exact ⟨by simp [], G3⟩
   cases tX : tx == []
   · simp only [evs, ↓reduceIte, Nat.reduceEqDiff, z1, z2, z4, aP_sbe, show (([] : Str) == []) = true from rfl, tK, tX]
     exact ⟨by simp [], G3⟩
   by_cases tP0 : ¬ sub.len = 0
   · simp only [evs, ↓reduceIte, Nat.reduceEqDiff, z1, z2, z3, z4, z5, aP_sbe, show (([] : Str) == []) = true from rfl, tK, tX, l5, show ¬ ((sub.len : Nat) : Int) = 0 by omega]
     exact ⟨by simp [tP0], G3⟩
   have tP : sub.len = 0 := by omega
   simp only [evs, ↓reduceIte, Nat.reduceEqDiff, z1, z2, z3, z4, z5, aP_sbe, show (([] : Str) == []) = true from rfl, tK, tX, l5, show ((sub.len : Nat) : Int) = 0 by omega]
   exact ⟨by simp [tP], G3⟩
 by_cases k2 : k = 2
 · rw [if_neg k1, if_neg k5, if_pos k2]
   simp only [evs, ↓reduceIte, Nat.reduceEqDiff, q0, show (k : Int) = 2 by omega, q4]
   refine OQ_does (tplain_ok F2.wf) ?_
   rintro _ h3 ⟨rfl, F3⟩
   have F03 := F02.then F3
   cases c1 : okT tx
   · simp only [evs, ↓reduceIte]
     exact ⟨by simp, F03⟩
   simp only [evs, ↓reduceIte, Nat.reduceEqDiff]
   refine store_step (c' := [.int .u8 (k : Int), .str tg, .str ky, va, .str [], vc]) F3.wf (F3.get o2) rfl rfl rfl ?_
   rintro hd od Fd nd
   have G3 : Fr [] h hd := F03.fresh Fd w (Nat.le_refl _)
   have z1 : hload1 hd h.next 1 = some (.str tg) := od.ld1 1
   have z2 : hload1 hd h.next 2 = some (.str ky) := od.ld1 2
   have z3 : hload1 hd h.next 3 = some (va) := od.ld1 3
   have z4 : hload1 hd h.next 4 = some (.str []) := od.ld1 4
   have z5 : hload1 hd h.next 5 = some (vc) := od.ld1 5
   cases tT : tg == []
   · simp only [evs, ↓reduceIte, Nat.reduceEqDiff, z1, aP_sbe, tT]
     exact ⟨by simp [], G3⟩
   cases tK : ky == []
   · simp only [evs, ↓reduceIte, Nat.reduceEqDiff, z1, z2, aP_sbe, tT, tK]
     exact ⟨by simp [], G3⟩
   by_cases tS0 : ¬ sl.length = 0
   · simp only [evs, ↓reduceIte, Nat.reduceEqDiff, z1, z2, z3, z4, aP_sbe, show (([] : Str) == []) = true from rfl, tT, tK, l3, show ¬ ((sl.length : Nat) : Int) = 0 by omega]
     exact ⟨by simp [tS0], G3⟩
   have tS : sl.length = 0 := by omega
   by_cases tP0 : ¬ sub.len = 0
   · simp only [evs, ↓reduceIte, Nat.reduceEqDiff, z1, z2, z3, z4, z5, aP_sbe, show (([] : Str) == []) = true from rfl, tT, tK, l3, show ((sl.length : Nat) : Int) = 0 by omega, l5, show ¬ ((sub.len : Nat) : Int) = 0 by omega]
     exact ⟨by simp [tS, tP0], G3⟩
   have tP : sub.len = 0 := by omega
   simp only [evs, ↓reduceIte, Nat.reduceEqDiff, z1, z2, z3, z4, z5, aP_sbe, show (([] : Str) == []) = true from rfl, tT, tK, l3, show ((sl.length : Nat) : Int) = 0 by omega, l5, show ((sub.len : Nat) : Int) = 0 by omega]
   exact ⟨by simp [tS, tP], G3⟩
 by_cases k34 : k = 3 ∨ k = 4
 · rw [if_neg k1, if_neg k5, if_neg k2, if_pos k34]
   by_cases k3 : k = 3
   · have G3 := F02
     cases tT : tg == []
     · simp only [evs, ↓reduceIte, Nat.reduceEqDiff, q0, show (k : Int) = 3 by omega, s1, aP_sbe, tT]
       exact ⟨by simp [], G3⟩
     cases tK : ky == []
     · simp only [evs, ↓reduceIte, Nat.reduceEqDiff, q0, show (k : Int) = 3 by omega, s1, s2, aP_sbe, tT, tK]
       exact ⟨by simp [], G3⟩
     cases tX : tx == []
     · simp only [evs, ↓reduceIte, Nat.reduceEqDiff, q0, show (k : Int) = 3 by omega, s1, s2, s4, aP_sbe, tT, tK, tX]
       exact ⟨by simp [], G3⟩
     by_cases tS0 : ¬ sl.length = 0
     · simp only [evs, ↓reduceIte, Nat.reduceEqDiff, q0, show (k : Int) = 3 by omega, s1, s2, s3, s4, aP_sbe, tT, tK, tX, l3, show ¬ ((sl.length : Nat) : Int) = 0 by omega]
       exact ⟨by simp [tS0], G3⟩
     have tS : sl.length = 0 := by omega
     by_cases tP0 : ¬ sub.len = 0
     · simp only [evs, ↓reduceIte, Nat.reduceEqDiff, q0, show (k : Int) = 3 by omega, s1, s2, s3, s4, s5, aP_sbe, tT, tK, tX, l3, show ((sl.length : Nat) : Int) = 0 by omega, l5, show ¬ ((sub.len : Nat) : Int) = 0 by omega]
       exact ⟨by simp [tS, tP0], G3⟩
     have tP : sub.len = 0 := by omega
     simp only [evs, ↓reduceIte, Nat.reduceEqDiff, q0, show (k : Int) = 3 by omega, s1, s2, s3, s4, s5, aP_sbe, tT, tK, tX, l3, show ((sl.length : Nat) : Int) = 0 by omega, l5, show ((sub.len : Nat) : Int) = 0 by omega]
     exact ⟨by simp [tS, tP], G3⟩
   · have G3 := F02
     cases tT : tg == []
     · simp only [evs, ↓reduceIte, Nat.reduceEqDiff, q0, show (k : Int) = 4 by omega, s1, aP_sbe, tT]
       exact ⟨by simp [], G3⟩
     cases tK : ky == []
     · simp only [evs, ↓reduceIte, Nat.reduceEqDiff, q0, show (k : Int) = 4 by omega, s1, s2, aP_sbe, tT, tK]
       exact ⟨by simp [], G3⟩
     cases tX : tx == []
     · simp only [evs, ↓reduceIte, Nat.reduceEqDiff, q0, show (k : Int) = 4 by omega, s1, s2, s4, aP_sbe, tT, tK, tX]
       exact ⟨by simp [], G3⟩
     by_cases tS0 : ¬ sl.length = 0
     · simp only [evs, ↓reduceIte, Nat.reduceEqDiff, q0, show (k : Int) = 4 by omega, s1, s2, s3, s4, aP_sbe, tT, tK, tX, l3, show ¬ ((sl.length : Nat) : Int) = 0 by omega]
       exact ⟨by simp [tS0], G3⟩
     have tS : sl.length = 0 := by omega
     by_cases tP0 : ¬ sub.len = 0
     · simp only [evs, ↓reduceIte, Nat.reduceEqDiff, q0, show (k : Int) = 4 by omega, s1, s2, s3, s4, s5, aP_sbe, tT, tK, tX, l3, show ((sl.length : Nat) : Int) = 0 by omega, l5, show ¬ ((sub.len : Nat) : Int) = 0 by omega]
       exact ⟨by simp [tS, tP0], G3⟩
     have tP : sub.len = 0 := by omega
     simp only [evs, ↓reduceIte, Nat.reduceEqDiff, q0, show (k : Int) = 4 by omega, s1, s2, s3, s4, s5, aP_sbe, tT, tK, tX, l3, show ((sl.length : Nat) : Int) = 0 by omega, l5, show ((sub.len : Nat) : Int) = 0 by omega]
     exact ⟨by simp [tS, tP], G3⟩
 · rw [if_neg k1, if_neg k5, if_neg k2, if_neg k34]
   simp only [evs, ↓reduceIte, Nat.reduceEqDiff, q0, show ¬ (k : Int) = 1 by omega, show ¬ (k : Int) = 5 by omega, show ¬ (k : Int) = 2 by omega, show ¬ (k : Int) = 3 by omega, show ¬ (k : Int) = 4 by omega]
   exact F02
structure Tm (h0 h : Heap) (bc bf bw : Nat) (c : Nat) : Prop where
 f : Fr [] h0 h
 oc : Own h bc [.int .i64 (c : Int)]
 od : Own h bf [.func (.func 222) [] []]
 ow : Own h bw [.func (.func 260) [] [.ptr bc 0, .ptr bf 0, .ptr bw 0]]
theorem Tm.fr {h0 h h' : Heap} {bc bf bw c : Nat} (m : Tm h0 h bc bf bw c) (f : Fr [] h h') : Tm h0 h' bc bf bw c := ⟨m.f.then f, f.get m.oc, f.get m.od, f.get m.ow⟩
def TEach (h0 : Heap) (k : Nat) (tg ky : Str) (at' : List Slo) (tx : Str) (va vc : V) (sub : PT) : Prop :=
 ∀ (h : Heap) (b o bc bd bw l c : Nat), MsB h0 bc bd bw → Tm h0 h bc bd bw c → (∀ h', Fr [] h0 h' → At6 h' b o (.int .u8 (k : Int)) (.str tg) (.str ky) va (.str tx) vc) → l ≤ 7 → c ≤ 64 →
  Does go 260 [.ptr b o, .int .i64 (l : Int), .ptr bc 0, .ptr bd 0, .ptr bw 0] h fun u h' => u = .bool (PT.node k tg ky at' tx sub sub.walk l c).2 ∧ Tm h0 h' bc bd bw (PT.node k tg ky at' tx sub sub.walk l c).1
def TAll (h0 : Heap) : PT → Prop
 | .nil => True
 | .cons k tg ky at' tx va vc sub nx => TEach h0 k tg ky at' tx va vc sub ∧ TAll h0 nx
theorem TAll.at' {h : Heap} : ∀ {t : PT} (i : Nat), TAll h t → TAll h (t.at' i)
 | .nil, 0, _ => trivial
 | .nil, _ + 1, _ => trivial
 | .cons _ _ _ _ _ _ _ _ _, 0, a => a
 | .cons _ _ _ _ _ _ _ _ _, i + 1, ⟨_, g⟩ => TAll.at' i g
theorem nop_ok {h : Heap} (v : V) : Does go 222 [v] h fun u h' => u = .tup [] ∧ h = h' := by
 refine does_fn g222 rfl ?_
 simp only [fn222, evs]
theorem teach_ok {h0 : Heap} {k : Nat} {tg ky : Str} {at' : List Slo} {tx : Str} {va vc : V} {sub : PT}
 (ra : Recs sloC 3 h0 va at') (na : at'.length ≤ 4096) (rc : Sl h0 6 vc sub.len sub.cells) (nc : sub.len ≤ 4096) (A : TAll h0 sub) : TEach h0 k tg ky at' tx va vc sub := by
 intro h b o bc bd bw l c B M hA hl hc
 have lc : hload1 h bc 0 = some (.int .i64 (c : Int)) := M.oc.ld1 0
 refine does_fn g260 rfl ?_
 simp (disch := omega) only [fn260, evs, ↓reduceIte, Nat.reduceEqDiff, Nat.reduceAdd, fwrap_i64, lc]
 refine store_step (c' := [.int .i64 ((c + 1 : Nat) : Int)]) M.f.wf M.oc rfl rfl rfl ?_
 rintro h1 o1 F1 n1
 have M2 : Tm h0 h1 bc bd bw (c + 1) := by
  refine ⟨?_, o1, F1.own _ _ (by simpa using B.cd.symm) M.od, F1.own _ _ (by simpa using B.cw.symm) M.ow⟩
  exact Fr.trans M.f F1 B.w (fun x hx => .inl hx) (fun x hx => .inr (by simp at hx; subst hx; exact B.c))
 have lc2 : hload1 h1 bc 0 = some (.int .i64 ((c + 1 : Nat) : Int)) := M2.oc.ld1 0
 by_cases c1 : 6 < l
 · have e : PT.node k tg ky at' tx sub sub.walk l c = (c + 1, false) := if_pos (.inl c1)
   simp only [evs, ↓reduceIte, Nat.reduceEqDiff, show (6 : Int) < (l : Int) by omega]
   rw [e]
   exact ⟨rfl, M2⟩
 by_cases c2 : 64 < c + 1
 · have e : PT.node k tg ky at' tx sub sub.walk l c = (c + 1, false) := if_pos (.inr (.inl c2))
   simp only [evs, ↓reduceIte, Nat.reduceEqDiff, show ¬ (6 : Int) < (l : Int) by omega, lc2, show (64 : Int) < ((c + 1 : Nat) : Int) by omega]
   rw [e]
   exact ⟨rfl, M2⟩
 simp only [evs, ↓reduceIte, Nat.reduceEqDiff, show ¬ (6 : Int) < (l : Int) by omega, lc2, show ¬ (64 : Int) < ((c + 1 : Nat) : Int) by omega]
 refine OQ_does (talone_ok M2.f.wf (fun h' f => hA h' (M2.f.then f)) (ra.fr M2.f) na (rc.fr M2.f) nc) ?_
 rintro _ h3 ⟨rfl, F3⟩
 have M3 := M2.fr F3
 cases c3 : partB k tg ky at' tx sub.len
 · have e : PT.node k tg ky at' tx sub sub.walk l c = (c + 1, false) := if_pos (.inr (.inr c3))
   simp only [evs, ↓reduceIte]
   rw [e]
   exact ⟨rfl, M3⟩
 have e : PT.node k tg ky at' tx sub sub.walk l c = sub.walk (l + 1) (c + 1) := if_neg (by simp [c3]; omega)
 rw [e]
 have q5 := (hA h3 M3.f).2.2.2.2.2.1
 have lf : hload1 h3 bd 0 = some (.func (.func 222) [] []) := M3.od.ld1 0
 simp only [evs, ↓reduceIte, Nat.reduceEqDiff, Nat.reduceLT, lf]
 refine OQ_does (nop_ok _) ?_
 rintro _ _ ⟨rfl, rfl⟩
 simp only [evs, ↓reduceIte, Nat.reduceEqDiff, q5, (rc.fr M3.f).len]
 refine W_loop (fun n env hh => ∃ (i c' : Nat), Tm h0 hh bc bd bw c' ∧ env.get 30 = some (.int .i64 i) ∧ env.get 29 = some (.int .i64 sub.len) ∧ env.get 0 = some (.ptr b o) ∧ env.get 1 = some (.int .i64 l) ∧ env.get 4 = some (.ptr bw 0) ∧
  i ≤ sub.len ∧ c' ≤ 64 ∧ (sub.at' i).walk (l + 1) c' = sub.walk (l + 1) (c + 1) ∧ n = sub.len - i) sub.len (by omega) ?_ ?_
 · exact ⟨0, c + 1, M3, (by simp [T.gs]), (by simp [T.gs]), (by simp [T.gs]), (by simp [T.gs]), (by simp [T.gs]), by omega, by omega, by cases sub <;> rfl, rfl⟩
 · rintro n env hh ⟨i, c', M', g30, g29, g0, g1, g4, hi, hc', e', rfl⟩
   by_cases hlt : i < sub.len
   · obtain ⟨kd, tg', ky', at2, tx', va', vc', sb, nx, e1, e2, e3, e4, e5, e6⟩ := sub.split i hlt
     have hlt' : (i : Int) < sub.len := by omega
     have a := A.at' i
     rw [e1] at a e'
     obtain ⟨b', o', p1, _⟩ := (rc.fr M'.f).ix6 hlt e2
     have hA' : ∀ h', Fr [] h0 h' → At6 h' b' o' (.int .u8 (kd : Int)) (.str tg') (.str ky') va' (.str tx') vc' := fun h' f => by
      obtain ⟨b2, o2, p1', p2'⟩ := (rc.fr f).ix6 hlt e2
      rw [p1] at p1'; cases p1'; exact p2'
     have q5 := (hA hh M'.f).2.2.2.2.2.1
     have lw : hload1 hh bw 0 = some (.func (.func 260) [] [.ptr bc 0, .ptr bd 0, .ptr bw 0]) := M'.ow.ld1 0
     simp (disch := omega) only [evs, ↓reduceIte, Nat.reduceEqDiff, Nat.reduceLT, eff, fwrap_i64, g30, g29, g0, g1, g4, hlt', lw, q5, p1]
     refine OQ_does (a.1 hh b' o' bc bd bw (l + 1) c' B M' hA' (by omega) hc') ?_
     rintro _ h4 ⟨rfl, M4⟩
     simp only [PT.walk] at e'
     have nl := PT.node_le kd tg' ky' at2 tx' sb (l + 1) c' hc'
     cases c4 : (PT.node kd tg' ky' at2 tx' sb sb.walk (l + 1) c').2
     · rw [c4] at e'
       simp only [evs, ↓reduceIte, Nat.reduceEqDiff, Nat.reduceAdd, DF, eff, Nat.reduceSub, g4, lw, q5]
       rw [← e']
       exact ⟨by simp [c4], by simpa using M4⟩
     · rw [c4] at e'
       simp (disch := omega) only [evs, ↓reduceIte, Nat.reduceEqDiff, Nat.reduceAdd, DF, eff, Nat.reduceSub, fwrap_i64, g30, g4, lw, q5]
       refine (roundQ_norm _ _ _).2 ⟨sub.len - (i + 1), by omega, i + 1, _, M4, (by simp [T.gs]), (by simp [T.gs, g29]), (by simp [T.gs, g0]), (by simp [T.gs, g1]), (by simp [T.gs, g4]), by omega, nl.2 c4, ?_, rfl⟩
       rw [e3]; simpa using e'
   · simp only [evs, ↓reduceIte, g30, g29, show ¬ (i : Int) < sub.len by omega]
     rw [PT.at_end _ _ (by omega)] at e'
     rw [← e']
     exact ⟨rfl, M'⟩
theorem tall {h : Heap} : ∀ {t : PT}, PH h t → TAll h t
 | .nil, _ => trivial
 | .cons _ _ _ _ _ _ _ _ _, ⟨_, b, c, d, e, f, g⟩ => ⟨teach_ok b c d e (tall f), tall g⟩
def PT.count (k : Nat) (tg ky : Str) (at' : List Slo) (tx : Str) (sub : PT) : Nat :=
 if k = 1 ∧ (node k tg ky at' tx sub sub.walk 1 0).2 = true then (node k tg ky at' tx sub sub.walk 1 0).1 else 0
theorem twalk_ok {h : Heap} {k b o : Nat} {tg ky : Str} {at' : List Slo} {tx : Str} {va vc : V} {sub : PT} (w : WF h) (n : PH h (.cons k tg ky at' tx va vc sub .nil))
 (hA : ∀ h', Fr [] h h' → At6 h' b o (.int .u8 (k : Int)) (.str tg) (.str ky) va (.str tx) vc) :
 Does go 221 [.ptr b o, .func (.func 222) [] []] h fun u h' => u = .int .i64 (PT.count k tg ky at' tx sub : Nat) ∧ Fr [] h h' := by
 obtain ⟨h2, e_h2⟩ : ∃ h2, h2 = halloc h [.func (.func 222) [] []] := ⟨_, rfl⟩
 have F_h2 : Fr [] h h2 := e_h2 ▸ Fr.halloc w _
 have o_h2 : Own h2 h.next [.func (.func 222) [] []] := e_h2 ▸ Own.new w _
 have q0 := (hA h2 F_h2).1
 by_cases k1 : k = 1
 · obtain ⟨h3, e_h3⟩ : ∃ h3, h3 = halloc h2 [.int .i64 0] := ⟨_, rfl⟩
   have F_h3 : Fr [] h2 h3 := e_h3 ▸ Fr.halloc F_h2.wf _
   have o_h3 : Own h3 h2.next [.int .i64 0] := e_h3 ▸ Own.new F_h2.wf _
   have n2 : h2.next = h.next + 1 := by rw [e_h2]; rfl
   have n3 : h3.next = h2.next + 1 := by rw [e_h3]; rfl
   refine does_fn g221 rfl ?_
   simp only [fn221, evs, ↓reduceIte, Nat.reduceEqDiff, Nat.reduceAdd, ← e_h2, q0, show (k : Int) = 1 by omega, ← e_h3]
   refine store_step (c' := [.int .i64 0]) F_h3.wf o_h3 rfl rfl rfl ?_
   rintro h4 o4 F4 n4
   obtain ⟨h5, e_h5⟩ : ∃ h5, h5 = halloc h4 [.nilf] := ⟨_, rfl⟩
   have F_h5 : Fr [] h4 h5 := e_h5 ▸ Fr.halloc F4.wf _
   have o_h5 : Own h5 h4.next [.nilf] := e_h5 ▸ Own.new F4.wf _
   simp only [evs, ↓reduceIte, Nat.reduceEqDiff, ← e_h5]
   refine store_step (c' := [.func (.func 260) [] [.ptr h2.next 0, .ptr h.next 0, .ptr h4.next 0]]) F_h5.wf o_h5 rfl rfl rfl ?_
   rintro h6 o6 F6 n6
   have F24 : Fr [] h h4 := (F_h2.then F_h3).fresh F4 w (by omega)
   have F06 : Fr [] h h6 := (F24.then F_h5).fresh F6 w (by omega)
   have B : MsB h h2.next h.next h4.next := ⟨w, by omega, Nat.le_refl _, by omega, by omega, by omega, by omega⟩
   have M : Tm h h6 h2.next h.next h4.next 0 := ⟨F06, F6.own _ _ (by simp; omega) (F_h5.get o4), F6.own _ _ (by simp; omega) (F_h5.get (F4.own _ _ (by simp; omega) (F_h3.get o_h2))), o6⟩
   have lw : hload1 h6 h4.next 0 = some (.func (.func 260) [] [.ptr h2.next 0, .ptr h.next 0, .ptr h4.next 0]) := o6.ld1 0
   simp only [evs, ↓reduceIte, Nat.reduceEqDiff, Nat.reduceLT, lw]
   refine OQ_does ((tall n).1 h6 b o h2.next h.next h4.next 1 0 B M hA (by omega) (by omega)) ?_
   rintro _ h7 ⟨rfl, M7⟩
   unfold PT.count
   cases c : (PT.node k tg ky at' tx sub sub.walk 1 0).2
   · simp only [evs, ↓reduceIte]
     exact ⟨by simp, M7.f⟩
   · have lc : hload1 h7 h2.next 0 = some (.int .i64 ((PT.node k tg ky at' tx sub sub.walk 1 0).1 : Int)) := M7.oc.ld1 0
     simp only [evs, ↓reduceIte, Nat.reduceEqDiff, lc]
     exact ⟨by simp [k1], M7.f⟩
 · refine does_fn g221 rfl ?_
   simp only [fn221, evs, ↓reduceIte, Nat.reduceEqDiff, Nat.reduceAdd, ← e_h2, q0, show ¬ (k : Int) = 1 by omega]
   exact ⟨by simp [PT.count, k1], F_h2⟩
theorem tcount_ok {h : Heap} {k : Nat} {tg ky : Str} {at' : List Slo} {tx : Str} {va vc : V} {sub : PT} (w : WF h) (n : PH h (.cons k tg ky at' tx va vc sub .nil)) :
 Does go 163 [.agg [.int .u8 (k : Int), .str tg, .str ky, va, .str tx, vc]] h fun u h' => u = .int .i64 (PT.count k tg ky at' tx sub : Nat) ∧ Fr [] h h' := by
 obtain ⟨h1, e_h1⟩ : ∃ h1, h1 = halloc h [.int .u8 (k : Int), .str tg, .str ky, va, .str tx, vc] := ⟨_, rfl⟩
 have F_h1 : Fr [] h h1 := e_h1 ▸ Fr.halloc w _
 have o_h1 : Own h1 h.next [.int .u8 (k : Int), .str tg, .str ky, va, .str tx, vc] := e_h1 ▸ Own.new w _
 refine does_fn g163 rfl ?_
 simp only [fn163, evs, ↓reduceIte, Nat.reduceEqDiff, ← e_h1]
 refine OQ_does (twalk_ok F_h1.wf (n.fr F_h1) (fun h' f => (f.get o_h1).at6)) ?_
 rintro _ h2 ⟨rfl, F2⟩
 simp only [evs, ↓reduceIte]
 exact F_h1.then F2
theorem tcheck_ok {h : Heap} {k : Nat} {tg ky : Str} {at' : List Slo} {tx : Str} {va vc : V} {sub : PT} (w : WF h) (n : PH h (.cons k tg ky at' tx va vc sub .nil)) :
 Does go 89 [.agg [.int .u8 (k : Int), .str tg, .str ky, va, .str tx, vc]] h fun u h' => u = .int .i64 (if PT.count k tg ky at' tx sub = 0 then 14 else 0) ∧ Fr [] h h' := by
 obtain ⟨h1, e_h1⟩ : ∃ h1, h1 = halloc h [.int .u8 (k : Int), .str tg, .str ky, va, .str tx, vc] := ⟨_, rfl⟩
 have F_h1 : Fr [] h h1 := e_h1 ▸ Fr.halloc w _
 have o_h1 : Own h1 h.next [.int .u8 (k : Int), .str tg, .str ky, va, .str tx, vc] := e_h1 ▸ Own.new w _
 by_cases c : PT.count k tg ky at' tx sub = 0
 · refine does_fn g89 rfl ?_
   simp only [fn89, evs, ↓reduceIte, Nat.reduceEqDiff, ← e_h1, o_h1.at6.2.2.2.2.2.2]
   refine OQ_does (tcount_ok F_h1.wf (n.fr F_h1)) ?_
   rintro _ h2 ⟨rfl, F2⟩
   simp only [evs, ↓reduceIte, show ((PT.count k tg ky at' tx sub : Nat) : Int) = 0 by omega]
   exact ⟨by rw [if_pos c], F_h1.then F2⟩
 · refine does_fn g89 rfl ?_
   simp only [fn89, evs, ↓reduceIte, Nat.reduceEqDiff, ← e_h1, o_h1.at6.2.2.2.2.2.2]
   refine OQ_does (tcount_ok F_h1.wf (n.fr F_h1)) ?_
   rintro _ h2 ⟨rfl, F2⟩
   simp only [evs, ↓reduceIte, show ¬ ((PT.count k tg ky at' tx sub : Nat) : Int) = 0 by omega]
   exact ⟨by rw [if_neg c], F_h1.then F2⟩
theorem N247 : NotN 247 := ⟨by decide, fun z h w => by
 refine does_fn g247 rfl ?_
 simp only [fn247, evs, ↓reduceIte, Nat.reduceEqDiff]
 refine OQ_does (tnamed_ok w) ?_
 rintro _ h1 ⟨rfl, F⟩
 simp only [evs, ↓reduceIte]
 exact F⟩
def okCI (x : Itm) : Bool := decide (x.key ≠ 0) && (okT x.text && okM x.marks)
theorem okCI_of {x : Itm} {n : Nat} (h : okI x n = true) : okCI x = true := by
 simp only [okI, okCI, Bool.and_eq_true] at h ⊢
 exact ⟨h.1, h.2.2⟩
theorem checkItem_ok {h : Heap} {x : Itm} (w : WF h) (a : ItmH h x) : Does go 201 [.agg x.cells] h fun u h' => u = .int .i64 (if okCI x then 0 else 6) ∧ Fr [] h h' := by
 obtain ⟨h1, e_h1⟩ : ∃ h1, h1 = halloc h x.cells := ⟨_, rfl⟩
 have F_h1 : Fr [] h h1 := e_h1 ▸ Fr.halloc w _
 have o_h1 : Own h1 h.next x.cells := e_h1 ▸ Own.new w _
 have l0 : hload1 h1 h.next 0 = some (.int .u64 (x.key : Int)) := o_h1.ld1 0
 have l2 : hload1 h1 h.next 2 = some (.str x.text) := o_h1.ld1 2
 by_cases c0 : x.key = 0
 · refine does_fn g201 rfl ?_
   simp only [fn201, evs, ↓reduceIte, Nat.reduceEqDiff, ← e_h1, l0, show (x.key : Int) = 0 by omega]
   exact ⟨by simp [okCI, c0], F_h1⟩
 · refine does_fn g201 rfl ?_
   simp only [fn201, evs, ↓reduceIte, Nat.reduceEqDiff, ← e_h1, l0, show ¬ (x.key : Int) = 0 by omega, l2]
   refine OQ_does (tplain_ok F_h1.wf) ?_
   rintro _ h2 ⟨rfl, F2⟩
   have F02 := F_h1.then F2
   have l3 : hload1 h2 h.next 3 = some x.vm := (F2.get o_h1).ld1 3
   cases c2 : okT x.text
   · simp only [evs, ↓reduceIte]
     exact ⟨by simp [okCI, c2], F02⟩
   · by_cases c3 : x.marks.length ≤ 8
     · simp only [evs, ↓reduceIte, Nat.reduceEqDiff, l3, a.m.len, show ¬ (8 : Int) < (x.marks.length : Nat) by omega]
       refine OQ_does (containsN_ok N247 F2.wf (a.m.fr F02) a.n) ?_
       rintro _ h3 ⟨rfl, F3⟩
       cases c4 : x.marks.all okN
       · simp only [evs, ↓reduceIte]
         exact ⟨by simp [okCI, okM, c4], F02.then F3⟩
       · simp only [evs, ↓reduceIte]
         exact ⟨by simp [okCI, okM, c0, c2, c3, c4], F02.then F3⟩
     · simp only [evs, ↓reduceIte, Nat.reduceEqDiff, l3, a.m.len, show (8 : Int) < (x.marks.length : Nat) by omega]
       exact ⟨by simp [okCI, okM, c3], F02⟩
def dec (n : Nat) : Str := if h : n < 10 then [UInt8.ofNat (48 + n)] else dec (n / 10) ++ [UInt8.ofNat (48 + n % 10)]
termination_by n
decreasing_by omega
theorem dec_lt {n : Nat} (h : n < 10) : dec n = [UInt8.ofNat (48 + n)] := by rw [dec, dif_pos h]
theorem dec_ge {n : Nat} (h : ¬ n < 10) : dec n = dec (n / 10) ++ [UInt8.ofNat (48 + n % 10)] := by rw [dec, dif_neg h]
def c8 (b : UInt8) : V := .int .u8 (b.toNat : Int)
theorem bytes_c8 : ∀ z : Str, bytesOf (z.map c8) = some z
 | [] => rfl
 | b :: z => by
  show (match bytesOf (z.map c8) with | some s => some (UInt8.ofNat ((b.toNat : Int)).toNat :: s) | none => none) = _
  rw [bytes_c8 z, Int.toNat_natCast, UInt8.ofNat_toNat]
theorem digit_at : ∀ d, d < 10 → aP .ixstr [.str [48, 49, 50, 51, 52, 53, 54, 55, 56, 57], .int .u64 (d : Nat)] = some (c8 (UInt8.ofNat (48 + d))) := by
 intro d hd
 match d, hd with
 | 0, _ => rfl
 | 1, _ => rfl
 | 2, _ => rfl
 | 3, _ => rfl
 | 4, _ => rfl
 | 5, _ => rfl
 | 6, _ => rfl
 | 7, _ => rfl
 | 8, _ => rfl
 | 9, _ => rfl
theorem op_b2s {call : CallF} {loc : List V} {env : T V} {h : Heap} (x : Opd) (K : V → Heap → Prop) : OQ (evOp call loc env h (.b2s x)) K ↔ ∃ d, evO loc env x = some d ∧ VQ (ab2s h d) K h := by
 simp only [evOp, OQ, VQ]
 cases evO loc env x with
 | none => simp
 | some d =>
  simp only []
  cases e : ab2s h d with
  | none => simp [e]
  | some v =>
   simp only []
   exact ⟨fun ⟨_, _, q, k⟩ => by cases q; exact ⟨d, rfl, _, e, k⟩, fun ⟨_, q, _, e', k⟩ => by cases q; rw [e] at e'; cases e'; exact ⟨_, _, rfl, k⟩⟩
theorem b2s_some {h : Heap} (d : V) (K : V → Heap → Prop) : (∃ e, some d = some e ∧ VQ (ab2s h e) K h) ↔ VQ (ab2s h d) K h := ⟨fun ⟨_, e, k⟩ => by cases e; exact k, fun k => ⟨d, rfl, k⟩⟩
theorem decimal_ok {h : Heap} {n : Nat} (w : WF h) (hn : n < 18446744073709551616) : Does go 251 [.int .u64 (n : Int)] h fun u h' => u = .str (dec n) ∧ Fr [] h h' := by
 obtain ⟨h1, e_h1⟩ : ∃ h1, h1 = halloc h [.int .u8 0, .int .u8 0, .int .u8 0, .int .u8 0, .int .u8 0, .int .u8 0, .int .u8 0, .int .u8 0, .int .u8 0, .int .u8 0, .int .u8 0, .int .u8 0, .int .u8 0, .int .u8 0, .int .u8 0, .int .u8 0, .int .u8 0, .int .u8 0, .int .u8 0, .int .u8 0] := ⟨_, rfl⟩
 have F_h1 : Fr [] h h1 := e_h1 ▸ Fr.halloc w _
 have o_h1 : Own h1 h.next [.int .u8 0, .int .u8 0, .int .u8 0, .int .u8 0, .int .u8 0, .int .u8 0, .int .u8 0, .int .u8 0, .int .u8 0, .int .u8 0, .int .u8 0, .int .u8 0, .int .u8 0, .int .u8 0, .int .u8 0, .int .u8 0, .int .u8 0, .int .u8 0, .int .u8 0, .int .u8 0] := e_h1 ▸ Own.new w _
 refine does_fn g251 rfl ?_
 simp only [fn251, evs, ← e_h1]
 refine W_loop (fun k env hh => Fr [] h hh ∧ ∃ (i m : Nat) (acc : Str) (C : List V), env.get 4 = some (.int .i64 i) ∧ env.get 0 = some (.int .u64 m) ∧ env.get 3 = some (.ptr h.next 0) ∧ Own hh h.next C ∧
  C.length = 20 ∧ C.drop i = acc.map c8 ∧ 0 < i ∧ i ≤ 20 ∧ m < 10 ^ i ∧ dec n = dec m ++ acc ∧ m < 18446744073709551616 ∧ k = i) 20 (by omega) ?_ ?_
 · exact ⟨F_h1, 20, n, [], _, (by simp [T.gs]), (by simp [T.gs]), (by simp [T.gs]), o_h1, rfl, rfl, by omega, by omega, by omega, by simp, hn, rfl⟩
 · rintro k env hh ⟨F, i, m, acc, C, g4, g0, g3, oC, hC, hd, i0, i20, hm, e, hm2, hk⟩
   have r1 : aP (.ib .rem) [.int .u64 (m : Int), .int .u64 10] = some (.int .u64 ((m % 10 : Nat) : Int)) := by rw [aP_rem _ _ _ (by decide)]; rfl
   have r2 : aP (.ib .quo) [.int .u64 (m : Int), .int .u64 10] = some (.int .u64 ((m / 10 : Nat) : Int)) := by
    rw [aP_quo _ _ _ (by decide), show ((m : Int)).tdiv 10 = ((m / 10 : Nat) : Int) from rfl, fwrap_u64 _ (by omega) (by omega)]
   have r3 := digit_at (m % 10) (Nat.mod_lt _ (by omega))
   obtain ⟨j, rfl⟩ : ∃ j, i = j + 1 := ⟨i - 1, by omega⟩
   have r4 := aP_ixa 1 h.next 0 20 .i64 ((j : Int)) (by omega) (by omega)
   simp only [Int.toNat_natCast, Nat.mul_one, Nat.zero_add] at r4
   simp (disch := omega) only [evs, ↓reduceIte, Nat.reduceEqDiff, fwrap_i64, g4, g0, g3, r1, r3, show (((j + 1 : Nat) : Int) - 1) = (j : Int) by omega, r4]
   refine store_step (c' := C.set j (c8 (UInt8.ofNat (48 + m % 10)))) F.wf oC rfl rfl (updO_set1 C j _ (by omega)) ?_
   rintro h2 o2 F2 n2
   have F02 : Fr [] h h2 := F.fresh F2 w (Nat.le_refl _)
   have hd2 : (C.set j (c8 (UInt8.ofNat (48 + m % 10)))).drop j = (UInt8.ofNat (48 + m % 10) :: acc).map c8 := by
    rw [List.set_eq_take_append_cons_drop, if_pos (by omega), hd, List.drop_append_of_le_length (by simp; omega)]
    rw [List.drop_of_length_le (by simp; omega)]; rfl
   by_cases c : m / 10 = 0
   · have e2 : dec n = UInt8.ofNat (48 + m % 10) :: acc := by
      rw [e, dec_lt (by omega), show m % 10 = m by omega]; rfl
     have s1 : aP (.sl (some 20) 1 true false false) [.ptr h.next 0, .int .i64 (j : Int)] = some (.slice h.next j (20 - j) (20 - j)) := by
      simp only [aP, aslarr, abounds, abound_ok .i64 (j : Int) 20 (by omega) (by omega), Option.map_some, Option.getD_none, beq_ff (show (20 : Nat) ≠ j by omega), cond_false, Int.toNat_natCast, Nat.zero_add, Nat.mul_one]
     have s2 : ab2s h2 (.slice h.next j (20 - j) (20 - j)) = some (.str (dec n)) := by
      have : hload h2 h.next j (20 - j) = some ((UInt8.ofNat (48 + m % 10) :: acc).map c8) := by
       rw [o2.ld, dropL_eq, takeL_at _ _ (by simp; omega), List.take_of_length_le (by simp; omega), hd2]
      simp only [ab2s, this, bytes_c8, Option.map_some, e2]
     simp only [evs, ↓reduceIte, Nat.reduceEqDiff, r2, g0, g3, show ((m / 10 : Nat) : Int) = 0 by omega, s1, op_b2s, b2s_some, s2]
     exact F02
   · have e2 : dec n = dec (m / 10) ++ UInt8.ofNat (48 + m % 10) :: acc := by
      rw [e, dec_ge (by omega)]; simp
     have j0 : 0 < j := by
      rcases Nat.eq_zero_or_pos j with z | z
      · subst z; simp at hm; omega
      · exact z
     simp only [evs, ↓reduceIte, Nat.reduceEqDiff, r2, g0, show ¬ ((m / 10 : Nat) : Int) = 0 by omega]
     refine (roundQ_norm _ _ _).2 ⟨j, by omega, F02, j, m / 10, _, _, (by simp [T.gs]), (by simp [T.gs]), (by simp [T.gs, g3]), o2, by simp [hC], hd2, j0, by omega, by rw [Nat.pow_succ] at hm; omega, e2, by omega, rfl⟩
     done
def attV (x : Itm) (s : Slo) : Str := if s.2.1 = 0 then s.2.2 else if s.2.1 = 1 then x.text else if s.2.1 = 2 then dec x.key else dec x.marks.length
def att (x : Itm) (s : Slo) : Str × Str := (s.1, attV x s)
theorem words_ok {h : Heap} {z : Str} (w : WF h) : Does go 250 [.str z] h fun u h' => u = .agg [.int .u8 2, .str [], .str [], .nils, .str z, .nils] ∧ Fr [] h h' := by
 obtain ⟨h1, e_h1⟩ : ∃ h1, h1 = halloc h [.int .u8 0, .str [], .str [], .nils, .str [], .nils] := ⟨_, rfl⟩
 have F_h1 : Fr [] h h1 := e_h1 ▸ Fr.halloc w _
 have o_h1 : Own h1 h.next [.int .u8 0, .str [], .str [], .nils, .str [], .nils] := e_h1 ▸ Own.new w _
 refine does_fn g250 rfl ?_
 simp only [fn250, evs, ↓reduceIte, Nat.reduceEqDiff, ← e_h1]
 refine store_step (c' := [.int .u8 2, .str [], .str [], .nils, .str z, .nils]) F_h1.wf o_h1 rfl rfl rfl ?_
 rintro h2 o2 F2 n2
 have l := o2.at6.2.2.2.2.2.2
 simp only [evs, ↓reduceIte, l]
 exact F_h1.fresh F2 w (Nat.le_refl _)
theorem attrs_ok {h : Heap} {x : Itm} {v : V} {l : List Slo} (w : WF h) (a : ItmH h x) (r : Recs sloC 3 h v l) (nl : l.length ≤ 4096) (h3 : ∀ s ∈ l, s.2.1 ≤ 3) :
 Does go 276 [.agg x.cells, v] h fun u h' => ∃ b, h.next ≤ b ∧ TbC 2 h' u b ((l.map (att x)).flatMap attC) l.length ∧ Fr [] h h' := by
 have kx := a.k
 have nx := a.n
 obtain ⟨h1, e_h1⟩ : ∃ h1, h1 = halloc h x.cells := ⟨_, rfl⟩
 have F_h1 : Fr [] h h1 := e_h1 ▸ Fr.halloc w _
 have o_h1 : Own h1 h.next x.cells := e_h1 ▸ Own.new w _
 have n1 : h1.next = h.next + 1 := by rw [e_h1]; rfl
 refine does_fn g276 rfl ?_
 simp only [fn276, evs, ↓reduceIte, Nat.reduceEqDiff, Nat.reduceAdd, ← e_h1, r.len]
 refine (amake_ok _ _ _ _ _ _ _ _ (by omega) (by omega) (by omega) (by omega)).2 ?_
 simp only [Int.toNat_natCast]
 obtain ⟨h2, e_h2⟩ : ∃ h2, h2 = halloc h1 (repL [.str [], .str []] l.length) := ⟨_, rfl⟩
 have F_h2 : Fr [] h1 h2 := e_h2 ▸ Fr.halloc F_h1.wf _
 have o_h2 : Own h2 h1.next (repL [.str [], .str []] l.length) := e_h2 ▸ Own.new F_h1.wf _
 have ln : (repL [V.str [], V.str []] l.length).length = l.length * 2 := repL_len _ _
 rw [← e_h2]
 clear e_h2
 generalize repL [V.str [], V.str []] l.length = Z at ln o_h2
 simp only [evs, ↓reduceIte, Nat.reduceEqDiff, r.len]
 refine W_loop (fun n env hh => Fr [] h hh ∧ Fr [] h1 hh ∧ ∃ (i : Nat) (C : List V), env.get 13 = some (.int .i64 i) ∧ env.get 12 = some (.int .i64 l.length) ∧ env.get 11 = some v ∧ env.get 5 = some (.slice h1.next 0 l.length l.length) ∧ env.get 2 = some (.ptr h.next 0) ∧
  i ≤ l.length ∧ Own hh h1.next C ∧ C.length = l.length * 2 ∧ C.take (i * 2) = ((l.take i).map (att x)).flatMap attC ∧ n = l.length - i) l.length (by omega) ?_ ?_
 · exact ⟨F_h1.then F_h2, F_h2, 0, Z, (by simp [T.gs]), (by simp [T.gs]), (by simp [T.gs]), (by simp [T.gs]), (by simp [T.gs]), by omega, o_h2, ln, by simp, rfl⟩
 · rintro n env hh ⟨F, F1, i, C, g13, g12, g11, g5, g2, hi, oC, lC, eC, rfl⟩
   by_cases hlt : i < l.length
   · have hlt' : (i : Int) < l.length := by omega
     obtain ⟨b', o', s, p1, p2, p3, p4⟩ := (r.fr F).ix sloC_len .i64 (i : Int) (by omega) hlt'
     rw [Int.toNat_natCast] at p4
     have s3 := h3 s (List.mem_of_getElem? p4)
     obtain ⟨h3, e_h3⟩ : ∃ h3, h3 = halloc hh [.str [], .int .u8 0, .str []] := ⟨_, rfl⟩
     have F_h3 : Fr [] hh h3 := e_h3 ▸ Fr.halloc F.wf _
     have o_h3 : Own h3 hh.next [.str [], .int .u8 0, .str []] := e_h3 ▸ Own.new F.wf _
     simp only [evs, ↓reduceIte, Nat.reduceEqDiff, g13, g12, g11, hlt', p1, p3, ← e_h3]
     refine store_step (c' := [.str s.1, .int .u8 (s.2.1 : Int), .str s.2.2]) F_h3.wf o_h3 rfl rfl rfl ?_
     rintro h4 o4 F4 n4
     have F04 : Fr [] hh h4 := F_h3.fresh F4 F.wf (Nat.le_refl _)
     have ox := F04.get (F1.get o_h1)
     have u0 : hload1 h4 hh.next 0 = some (.str s.1) := o4.ld1 0
     have u1 : hload1 h4 hh.next 1 = some (.int .u8 (s.2.1 : Int)) := o4.ld1 1
     have u2 : hload1 h4 hh.next 2 = some (.str s.2.2) := o4.ld1 2
     have x0 : hload1 h4 h.next 0 = some (.int .u64 (x.key : Int)) := ox.ld1 0
     have x2 : hload1 h4 h.next 2 = some (.str x.text) := ox.ld1 2
     have x3 : hload1 h4 h.next 3 = some x.vm := ox.ld1 3
     simp only [evs, ↓reduceIte, Nat.reduceEqDiff, eff, g5, g2, u0, u2, x2, x0]
     refine OQ_does (decimal_ok F04.wf kx) ?_
     rintro _ h5 ⟨rfl, F5⟩
     have v0 : hload1 h5 hh.next 0 = some (.str s.1) := (F5.get o4).ld1 0
     have v1 : hload1 h5 hh.next 1 = some (.int .u8 (s.2.1 : Int)) := (F5.get o4).ld1 1
     have v2 : hload1 h5 hh.next 2 = some (.str s.2.2) := (F5.get o4).ld1 2
     have y2 : hload1 h5 h.next 2 = some (.str x.text) := (F5.get ox).ld1 2
     have y3 : hload1 h5 h.next 3 = some x.vm := (F5.get ox).ld1 3
     have cv : fwrap .u64 (x.marks.length : Int) = (x.marks.length : Int) := fwrap_u64 _ (by omega) (by omega)
     simp only [evs, ↓reduceIte, Nat.reduceEqDiff, eff, g2, y3, a.m.len, cv]
     refine OQ_does (decimal_ok F5.wf (by omega)) ?_
     rintro _ h6 ⟨rfl, F6⟩
     have F06 := (F04.then F5).then F6
     have w0 : hload1 h6 hh.next 0 = some (.str s.1) := (F6.get (F5.get o4)).ld1 0
     have w1 : hload1 h6 hh.next 1 = some (.int .u8 (s.2.1 : Int)) := (F6.get (F5.get o4)).ld1 1
     have w2 : hload1 h6 hh.next 2 = some (.str s.2.2) := (F6.get (F5.get o4)).ld1 2
     have z2 : hload1 h6 h.next 2 = some (.str x.text) := (F6.get (F5.get ox)).ld1 2
     have z3 : hload1 h6 h.next 3 = some x.vm := (F6.get (F5.get ox)).ld1 3
     have pk : aP (.ixarr 4 1 false) [.agg [.str s.2.2, .str x.text, .str (dec x.key), .str (dec x.marks.length)], .int .u8 (s.2.1 : Int)] = some (.str (attV x s)) := by
      rw [aP_ixarr _ _ _ _ (by omega)]
      have : s.2.1 = 0 ∨ s.2.1 = 1 ∨ s.2.1 = 2 ∨ s.2.1 = 3 := by omega
      rcases this with e | e | e | e <;> (rw [e]; simp only [attV, e]; rfl)
     have ix := aP_ixS 2 h1.next 0 l.length l.length .i64 (i : Int) (by omega) hlt'
     simp only [Int.toNat_natCast, Nat.zero_add] at ix
     simp only [evs, ↓reduceIte, Nat.reduceEqDiff, eff, w1, pk, ix]
     refine store_step (c' := C.take (i * 2) ++ attC (att x s) ++ C.drop (i * 2 + 2)) F6.wf (F06.get oC) rfl rfl (updO_at C (i * 2) (attC (att x s)) (by show i * 2 + 2 ≤ C.length; omega)) ?_
     rintro h7 o7 F7 n7
     have F17 : Fr [] h h7 := (F.then F06).fresh F7 w (by omega)
     have F27 : Fr [] h1 h7 := (F1.then F06).fresh F7 F_h1.wf (Nat.le_refl _)
     have fin : (C.take (i * 2) ++ attC (att x s) ++ C.drop (i * 2 + 2)).take ((i + 1) * 2) = ((l.take (i + 1)).map (att x)).flatMap attC := by
      have : (C.take (i * 2) ++ attC (att x s)).length = (i + 1) * 2 := by rw [List.length_append, attC_len, List.length_take]; omega
      rw [← this, List.take_left, eC, List.take_add_one, p4]; simp
     simp (disch := omega) only [evs, ↓reduceIte, Nat.reduceEqDiff, Nat.reduceAdd, DF, Nat.reduceSub, fwrap_i64, g13, u0, u1, u2, x0, x2, x3, v0, v1, v2, y2, y3, w0, w1, w2, z2]
     refine (roundQ_norm _ _ _).2 ⟨l.length - (i + 1), by omega, F17, F27, i + 1, _, (by simp [T.gs]), (by simp [T.gs, g12]), (by simp [T.gs, g11]), (by simp [T.gs, g5]), (by simp [T.gs, g2]), by omega, o7, by simp [attC]; omega, fin, rfl⟩
     done
   · simp only [evs, ↓reduceIte, Nat.reduceEqDiff, g13, g12, g5, show ¬ (i : Int) < l.length by omega]
     rw [List.take_of_length_le (by omega), List.take_of_length_le (by omega)] at eC
     subst eC
     exact ⟨h1.next, by omega, ⟨by rw [lC], .inr ⟨rfl, oC⟩⟩, F⟩
theorem clip_one {e : Nat} {h : Heap} {v : V} {n : Nat} {cs : List V} (he : 0 < e) (a : Sl h e v n cs) (hv : v ≠ .sliceE) :
 ∃ u, aP (.sl none e false true true) [v, .int .i64 (n : Int), .int .i64 (n : Int)] = some u ∧ Sl h e u n cs ∧ u ≠ .sliceE := by
 obtain ⟨hl, a⟩ := a
 have q : ∀ y, n ≤ y → abounds n y false true true [.int .i64 (n : Int), .int .i64 (n : Int)] = some (0, n, some n) := fun y hy => by
  simp only [abounds, abound_ok .i64 (n : Int) y (by omega) (by omega), abound_ok .i64 (n : Int) n (by omega) (by omega), Option.bind_some, Option.map_some, Int.toNat_natCast]
 cases v with
 | nils =>
  have a : n = 0 := a
  subst a
  exact ⟨.nils, by simp only [aP, aslice, q 0 (Nat.le_refl _), Option.map_some], ⟨hl, rfl⟩, by simp⟩
 | slice b o len cap =>
  obtain ⟨rfl, h2, c, hc, h3, e3⟩ := a
  refine ⟨.slice b (bif Nat.beq len 0 then o else o + 0 * e) (len - 0) (len - 0), by simp only [aP, aslice, q cap h2, Option.map_some, Option.getD_some], ⟨hl, rfl, Nat.le_refl _, c, hc, ?_⟩, by simp⟩
  by_cases c0 : len = 0
  · rw [beq_tt c0]; exact ⟨h3, e3⟩
  · rw [beq_ff c0]; simp only [cond_false, Nat.zero_mul, Nat.add_zero]; exact ⟨h3, e3⟩
 | sliceU b o len e' =>
  obtain ⟨rfl, rfl, c, hc, h3, e3⟩ := a
  refine ⟨.slice b (bif Nat.beq len 0 then o else o + 0 * e') (len - 0) (len - 0), by simp only [aP, aslice, beq_tt (rfl : e' = e'), (Nat.blt_eq ..).mpr he, Bool.and_self, cond_true, q len (Nat.le_refl _), Option.bind_some], ⟨hl, rfl, Nat.le_refl _, c, hc, ?_⟩, by simp⟩
  by_cases c0 : len = 0
  · rw [beq_tt c0]; exact ⟨h3, e3⟩
  · rw [beq_ff c0]; simp only [cond_false, Nat.zero_mul, Nat.add_zero]; exact ⟨h3, e3⟩
 | sliceE => exact absurd rfl hv
 | _ => exact a.elim
theorem clipN_ok {h : Heap} {v : V} {n : Nat} {cs : List V} (a : Sl h 6 v n cs) (hv : v ≠ .sliceE) : Does go 277 [v] h fun u h' => (∀ h2, Sl h2 6 v n cs → Sl h2 6 u n cs) ∧ u ≠ .sliceE ∧ h = h' := by
 obtain ⟨u, e, s, ne⟩ := clip_one (by omega) a hv
 refine does_fn g277 rfl ?_
 simp only [fn277, evs, ↓reduceIte, Nat.reduceEqDiff, a.len, e]
 refine ⟨fun h2 a2 => ?_, ne⟩
 obtain ⟨u2, e2, s2, _⟩ := clip_one (by omega) a2 hv
 rw [e] at e2; cases e2; exact s2
theorem element_ok {h : Heap} {x : Itm} {v : V} {k : Nat} {tg ky tx key : Str} {l : List Slo} {vs vp : V} {n : Nat} {cs : List V} (w : WF h) (a : ItmH h x) (r : Recs sloC 3 h vs l) (nl : l.length ≤ 4096) (h3 : ∀ s ∈ l, s.2.1 ≤ 3)
 (vp1 : vp.one = true) (c : Sl h 6 v n cs) (hv : v ≠ .sliceE) :
 Does go 249 [.agg x.cells, .agg [.int .u8 (k : Int), .str tg, .str ky, vs, .str tx, vp], .str key, v] h fun u h' => ∃ va vc ba, u = .agg [.int .u8 1, .str tg, .str key, va, .str [], vc] ∧ h.next ≤ ba ∧ TbC 2 h' va ba ((l.map (att x)).flatMap attC) l.length ∧ (∀ h2, Sl h2 6 v n cs → Sl h2 6 vc n cs) ∧ vc.one = true ∧ Fr [] h h' := by
 obtain ⟨h1, e_h1⟩ : ∃ h1, h1 = halloc h x.cells := ⟨_, rfl⟩
 have F_h1 : Fr [] h h1 := e_h1 ▸ Fr.halloc w _
 have o_h1 : Own h1 h.next x.cells := e_h1 ▸ Own.new w _
 obtain ⟨h2, e_h2⟩ : ∃ h2, h2 = halloc h1 [.int .u8 (k : Int), .str tg, .str ky, vs, .str tx, vp] := ⟨_, rfl⟩
 have F_h2 : Fr [] h1 h2 := e_h2 ▸ Fr.halloc F_h1.wf _
 have o_h2 : Own h2 h1.next [.int .u8 (k : Int), .str tg, .str ky, vs, .str tx, vp] := e_h2 ▸ Own.new F_h1.wf _
 obtain ⟨h3', e_h3'⟩ : ∃ h3', h3' = halloc h2 [.int .u8 0, .str [], .str [], .nils, .str [], .nils] := ⟨_, rfl⟩
 have F_h3' : Fr [] h2 h3' := e_h3' ▸ Fr.halloc F_h2.wf _
 have o_h3' : Own h3' h2.next [.int .u8 0, .str [], .str [], .nils, .str [], .nils] := e_h3' ▸ Own.new F_h2.wf _
 have n1 : h1.next = h.next + 1 := by rw [e_h1]; rfl
 have n2 : h2.next = h1.next + 1 := by rw [e_h2]; rfl
 have F03 := (F_h1.then F_h2).then F_h3'
 have ox := F_h3'.get (F_h2.get o_h1)
 have op := F_h3'.get o_h2
 have t1 : hload1 h3' h1.next 1 = some (.str tg) := op.ld1 1
 have t3 : hload1 h3' h1.next 3 = some vs := op.ld1 3
 have x4 : hload h3' h.next 0 4 = some x.cells := by rw [ox.ld]; rfl
 refine does_fn g249 rfl ?_
 simp only [fn249, evs, ↓reduceIte, Nat.reduceEqDiff, Nat.reduceAdd, eff, ← e_h1, ← e_h2, ← e_h3', t1, t3, x4]
 refine OQ_does (attrs_ok F_h3'.wf (a.fr F03) (r.fr F03) nl h3) ?_
 rintro va h4 ⟨ba, hba, ta, F4⟩
 have t1' : hload1 h4 h1.next 1 = some (.str tg) := (F4.get op).ld1 1
 simp only [evs, ↓reduceIte, Nat.reduceEqDiff, eff]
 refine OQ_does (clipN_ok (c.fr (F03.then F4)) hv) ?_
 rintro vc _ ⟨scA, _, rfl⟩
 have sc := scA _ (c.fr (F03.then F4))
 simp only [evs, ↓reduceIte, eff, cells_one ta.one, cells_one sc.one]
 refine store_step (c' := [.int .u8 1, .str tg, .str key, va, .str [], vc]) F4.wf (F4.get o_h3') rfl (by simp only [V.cells, onesB_cons, onesB_nil, ta.one, sc.one]; rfl) rfl ?_
 rintro h5 o5 F5 n5
 have l6 := o5.at6.2.2.2.2.2.2
 have F05 : Fr [] h h5 := (F03.then F4).fresh F5 w (by omega)
 simp only [evs, ↓reduceIte, Nat.reduceEqDiff, Nat.reduceAdd, DF, Nat.reduceSub, t1, t1', t3, x4, l6]
 have n3 : h3'.next = h2.next + 1 := by rw [e_h3']; rfl
 exact ⟨va, vc, ba, rfl, by omega, ta.fr F5 (by simp; omega), scA, sc.one, F05⟩
theorem _root_.Go.Ev.Gs.append1 {h : Heap} {B esz bytes : Nat} {v x : V} {cs xs : List V} {n : Nat} (w : WF h) (a : Gs h B esz v cs) (s : Sl h esz x n xs) (he : 0 < esz) (hn : n ≠ 0) (ho : onesB xs = true) (hB : B ≤ h.next)
 (hsz : (2 * (cs.length + n) + 1024) * bytes ≤ 281474976710656) {K : V → Heap → Prop} (k : ∀ v' h', Gs h' B esz v' (cs ++ xs) → vb v' = [h.next] → Fr (vb v) h h' → K v' h') : OQ (aapp h esz bytes v x) K := by
 unfold aapp
 rw [s.srcLen]
 simp only []
 · rw [beq_ff hn, cond_false, s.srcCells]
   simp only []
   rcases a with ⟨rfl, rfl⟩ | ⟨b, m, rfl, hm, hm0, hb, o⟩
   · simp only [agrow]
     have : Nat.ble ((2 * n + 1024) * bytes) 281474976710656 = true := by
      rw [Nat.ble_eq]; simpa using hsz
     rw [this, cond_true]
     refine (OQ_some _ _ _).2 (k _ _ (.inr ⟨h.next, n, rfl, by simpa using s.1, by omega, hB, by simpa using Own.new w xs⟩) rfl (Fr.halloc w xs))
   · have hle : (2 * (m + n) + 1024) * bytes ≤ (2 * (cs.length + n) + 1024) * bytes := by
      refine Nat.mul_le_mul_right _ ?_
      have : m ≤ cs.length := by rw [hm]; exact Nat.le_mul_of_pos_right m he
      omega
     have h1 : (Nat.beq esz esz && Nat.ble ((2 * (m + n) + 1024) * bytes) 281474976710656) = true := by
      simp only [Nat.beq_refl, Bool.true_and, Nat.ble_eq]; omega
     simp only [h1, cond_true, o.cells]
     have hmn : (m + n) * esz = m * esz + n * esz := Nat.add_mul _ _ _
     have hpos : 0 < n * esz := Nat.mul_pos (by omega) he
     rw [ble_ff (show ¬ 0 + (m + n) * esz ≤ cs.length by omega), cond_false]
     have h2 : (Nat.ble (0 + m * esz) cs.length && onesB xs) = true := by simp only [ho, Bool.and_true, Nat.ble_eq]; omega
     simp only [h2, cond_true, dropL_zero, takeL_at cs (m * esz) (by omega)]
     obtain ⟨h', e, o', f⟩ := own_super (pos := 0 + m * esz) (c' := cs.take (m * esz) ++ xs) w o
     rw [e]
     simp only [Option.map_some]
     refine (OQ_some _ _ _).2 (k _ _ (.inr ⟨h.next, m + n, rfl, by simp [s.1]; omega, by omega, hB, ?_⟩) rfl f)
     rwa [List.take_of_length_le (by omega)] at o'
inductive ST where
 | nil
 | cons (kind : Nat) (tag key : Str) (attrs : List (Str × Str)) (text : Str) (sub next : ST)
namespace ST
def app : ST → ST → ST
 | nil, t => t
 | cons k tg ky a tx sub nx, t => cons k tg ky a tx sub (nx.app t)
theorem app_nil : ∀ t : ST, t.app nil = t
 | nil => rfl
 | cons _ _ _ _ _ _ nx => by simp only [app, app_nil nx]
theorem app_assoc : ∀ a b c : ST, (a.app b).app c = a.app (b.app c)
 | nil, _, _ => rfl
 | cons _ _ _ _ _ _ nx, b, c => by simp only [app, app_assoc nx b c]
def len : ST → Nat
 | nil => 0
 | cons _ _ _ _ _ _ nx => nx.len + 1
def keys : ST → List Str
 | nil => []
 | cons _ _ ky _ _ _ nx => ky :: nx.keys
def alone (k : Nat) (tg ky : Str) (at' : List (Str × Str)) (tx : Str) (sub : ST) : Bool :=
 if k = 2 then okT tx && (tg == [] && (ky == [] && (decide (at'.length = 0) && decide (sub.len = 0))))
 else decide (k = 1) && (okN tg && ((ky == [] || okN ky) && (tx == [] && (decide (at'.length ≤ 8) && (decide (sub.len ≤ 16) && (attrsOK none at' && keysOK [] sub.keys))))))
def node (k : Nat) (tg ky : Str) (at' : List (Str × Str)) (tx : Str) (sub : ST) (w : Nat → Nat → Nat × Bool) (l c : Nat) : Nat × Bool :=
 if 6 < l ∨ 64 < c + 1 ∨ alone k tg ky at' tx sub = false then (c + 1, false) else w (l + 1) (c + 1)
def walk : ST → Nat → Nat → Nat × Bool
 | nil, _, c => (c, true)
 | cons k tg ky at' tx sub nx, l, c => let r := node k tg ky at' tx sub sub.walk l c; if r.2 = true then nx.walk l r.1 else r
def count (k : Nat) (tg ky : Str) (at' : List (Str × Str)) (tx : Str) (sub : ST) : Nat :=
 if (node k tg ky at' tx sub sub.walk 1 0).2 = true then (node k tg ky at' tx sub sub.walk 1 0).1 else 0
end ST
namespace NT
def sh : NT → ST
 | nil => .nil
 | cons k tg ky a tx _ _ sub nx => .cons k tg ky a tx sub.sh nx.sh
def app : NT → NT → NT
 | nil, t => t
 | cons k tg ky a tx va vc sub nx, t => cons k tg ky a tx va vc sub (nx.app t)
theorem app_sh : ∀ a b : NT, (a.app b).sh = a.sh.app b.sh
 | nil, _ => rfl
 | cons _ _ _ _ _ _ _ _ nx, b => by simp only [app, sh, ST.app, app_sh nx b]
theorem app_len : ∀ a b : NT, (a.app b).len = a.len + b.len
 | nil, b => by simp [app, len]
 | cons _ _ _ _ _ _ _ _ nx, b => by simp only [app, len, app_len nx b]; omega
theorem app_cells : ∀ a b : NT, (a.app b).cells = a.cells ++ b.cells
 | nil, _ => rfl
 | cons _ _ _ _ _ _ _ _ nx, b => by simp only [app, cells, app_cells nx b, List.append_assoc]
theorem sh_len : ∀ t : NT, t.sh.len = t.len
 | nil => rfl
 | cons _ _ _ _ _ _ _ _ nx => by simp only [sh, len, ST.len, sh_len nx]
theorem sh_keys : ∀ t : NT, t.sh.keys = t.keys
 | nil => rfl
 | cons _ _ _ _ _ _ _ _ nx => by simp only [sh, keys, ST.keys, sh_keys nx]
theorem sh_alone (k : Nat) (tg ky : Str) (at' : List (Str × Str)) (tx : Str) (sub : NT) : ST.alone k tg ky at' tx sub.sh = aloneB k tg ky at' tx sub := by
 simp only [ST.alone, aloneB, sh_len, sh_keys]
theorem sh_walk : ∀ (t : NT) (l c : Nat), t.sh.walk l c = t.walk l c
 | nil, _, _ => rfl
 | cons k tg ky at' tx _ _ sub nx, l, c => by
  have e1 : ST.node k tg ky at' tx sub.sh sub.sh.walk l c = node k tg ky at' tx sub sub.walk l c := by
   unfold ST.node node
   rw [sh_alone, sh_walk sub]
  show (let r := ST.node k tg ky at' tx sub.sh sub.sh.walk l c; if r.2 = true then nx.sh.walk l r.1 else r) = _
  rw [e1]
  simp only [walk, sh_walk nx]
theorem sh_count (k : Nat) (tg ky : Str) (at' : List (Str × Str)) (tx : Str) (sub : NT) : ST.count k tg ky at' tx sub.sh = count k tg ky at' tx sub := by
 have e1 : ST.node k tg ky at' tx sub.sh sub.sh.walk 1 0 = node k tg ky at' tx sub sub.walk 1 0 := by
  unfold ST.node node
  rw [sh_alone, sh_walk sub]
 unfold ST.count count
 rw [e1]
end NT
theorem NH.app {h : Heap} : ∀ {a b : NT}, NH h a → NH h b → NH h (a.app b)
 | .nil, _, _, q => q
 | .cons _ _ _ _ _ _ _ _ _, _, ⟨x1, x2, x3, x4, x5, x6, x7⟩, q => ⟨x1, x2, x3, x4, x5, x6, NH.app x7 q⟩
def wordsS (z : Str) : ST := .cons 2 [] [] [] z .nil .nil
def eachS (tg : Str) (a : List (Str × Str)) : List Str → ST
 | [] => .nil
 | m :: ms => .cons 1 tg m a [] (wordsS m) (eachS tg a ms)
def oneS (x : Itm) (k : Nat) (tg ky : Str) (sl : List Slo) (tx : Str) (sub : ST) : ST :=
 if k = 1 then .cons 1 tg ky (sl.map (att x)) [] sub .nil
 else if k = 2 then wordsS tx
 else if k = 3 then wordsS x.text
 else if k = 4 then wordsS (dec x.key)
 else if k = 5 then eachS tg (sl.map (att x)) x.marks
 else .nil
def made (x : Itm) : PT → ST
 | .nil => .nil
 | .cons k tg ky sl tx _ _ sub nx => (oneS x k tg ky sl tx (made x sub)).app (made x nx)
def TG : PT → Prop
 | .nil => True
 | .cons _ _ _ sl _ _ _ sub nx => (∀ s ∈ sl, s.2.1 ≤ 3) ∧ sub.len ≤ 16 ∧ TG sub ∧ TG nx
theorem TG.at' : ∀ {t : PT} (i : Nat), TG t → TG (t.at' i)
 | .nil, 0, _ => trivial
 | .nil, _ + 1, _ => trivial
 | .cons _ _ _ _ _ _ _ _ _, 0, a => a
 | .cons _ _ _ _ _ _ _ _ _, i + 1, ⟨_, _, _, g⟩ => TG.at' i g
theorem each_len (tg : Str) (a : List (Str × Str)) : ∀ ms : List Str, (eachS tg a ms).len = ms.length
 | [] => rfl
 | m :: ms => by simp [eachS, ST.len, each_len tg a ms]
theorem one_len (x : Itm) (k : Nat) (tg ky : Str) (sl : List Slo) (tx : Str) (sub : ST) (hm : x.marks.length ≤ 8) : (oneS x k tg ky sl tx sub).len ≤ 8 := by
 unfold oneS
 split
 · simp [ST.len]
 split
 · simp [wordsS, ST.len]
 split
 · simp [wordsS, ST.len]
 split
 · simp [wordsS, ST.len]
 split
 · rw [each_len]; exact hm
 · simp [ST.len]
def Inv (v : V) (n0 : Nat) (h : Heap) (s : NT) : Prop := ∀ (X : List Nat) (h' : Heap), (∀ x ∈ X, x < n0 ∨ x ∈ vb v) → Fr X h h' → NH h' s
theorem Inv.fr {v : V} {n0 : Nat} {h h' : Heap} {s : NT} (I : Inv v n0 h s) (w : WF h) (f : Fr [] h h') : Inv v n0 h' s := fun X h2 hx f2 =>
 I X h2 hx (Fr.trans f f2 w (by simp) (fun x hx => .inl hx))
theorem Inv.nh {v : V} {n0 : Nat} {h : Heap} {s : NT} (I : Inv v n0 h s) (w : WF h) : NH h s := I [] h (by simp) (Fr.refl w)
theorem push_ok {h : Heap} {n0 B k : Nat} {vo : V} {s sub : NT} {tg ky tx : Str} {at' : List (Str × Str)} {va vc : V} {K : V → Heap → Prop} (w : WF h) (g : Gs h B 6 vo s.cells) (hB : B ≤ h.next) (h0 : n0 ≤ h.next) (I : Inv vo n0 h s)
 (N : ∀ (X : List Nat) (h' : Heap), (∀ x ∈ X, x < n0 ∨ x ∈ vb vo) → Fr X h h' → NH h' (.cons k tg ky at' tx va vc sub .nil)) (hl : s.len ≤ 1000)
 (hk : ∀ v' h', Gs h' B 6 v' (s.app (.cons k tg ky at' tx va vc sub .nil)).cells → Inv v' n0 h' (s.app (.cons k tg ky at' tx va vc sub .nil)) → Fr (vb vo) h h' → (∀ y ∈ vb v', h.next ≤ y) → K v' h') :
 OQ (aapp (halloc h [.int .u8 (k : Int), .str tg, .str ky, va, .str tx, vc]) 6 104 vo (.slice h.next 0 1 1)) K := by
 have n1 := N [] h (by simp) (Fr.refl w)
 have on := NH.ones n1
 have F1 := Fr.halloc w [.int .u8 (k : Int), .str tg, .str ky, va, .str tx, vc]
 have o1 := Own.new w [.int .u8 (k : Int), .str tg, .str ky, va, .str tx, vc]
 have cl := s.cells_len
 have vlt : ∀ x ∈ vb vo, x < h.next := by
  rcases g with ⟨rfl, _⟩ | ⟨b, n, rfl, _, _, _, o⟩
  · simp [vb]
  · have := o.lt w
    simp only [vb, List.mem_singleton]; rintro x rfl; exact this
 refine Gs.append1 (n := 1) F1.wf (g.fr F1) (Sl.lit o1 rfl) (by omega) (by omega) on (Nat.le_trans hB F1.next) (by rw [cl]; omega) ?_
 intro v' h' g' e' F'
 have F : Fr (vb vo) h h' := Fr.trans F1 F' w (by simp) (fun x hx => .inl hx)
 refine hk v' h' ?_ ?_ F (by rw [e']; simp only [List.mem_singleton]; rintro y rfl; exact F1.next)
 · rw [NT.app_cells]; exact g'
 · intro X h2 hX f2
   have f3 : Fr (vb vo ++ X.filter (fun x => decide (x < n0))) h h2 := by
    refine Fr.trans F f2 w (fun x hx => .inl (by simp [hx])) (fun x hx => ?_)
    rcases hX x hx with q | q
    · exact .inl (by simp [hx, q])
    · rw [e'] at q
      simp at q
      exact .inr (by subst q; exact F1.next)
   have hX' : ∀ x ∈ vb vo ++ X.filter (fun x => decide (x < n0)), x < n0 ∨ x ∈ vb vo := by
    intro x hx
    simp at hx
    rcases hx with q | q
    · exact .inr q
    · exact .inl q.2
   exact NH.app (I _ h2 hX' f3) (N _ h2 hX' f3)
end Go.Ev.Lay
