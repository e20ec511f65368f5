/- An evaluator of the program, and contracts over it: StaF to StaP. -/
import Derived.Test.YtdbfhmneijcjbaaGreatP08
import Derived.Test.YtdbfhmneijcjbaaGreatP09
import Derived.Test.YtdbfhmneijcjbaaGreatP10
set_option linter.unusedSimpArgs false
set_option linter.unusedVariables false
set_option linter.constructorNameAsVariable false
namespace Go.Ev.Lay
set_option maxRecDepth 4000
def MK (t : PT) : Prop := ∀ (x : Itm) (h : Heap) (v : V), WF h → ItmH h x → x.marks.length ≤ 8 → PH h t → TG t → t.len ≤ 16 → Sl h 6 v t.len t.cells →
 Does go 202 [.agg x.cells, v] h fun u h' => ∃ s : NT, s.sh = made x t ∧ Fr [] h h' ∧ u ≠ .sliceE ∧ s.len ≤ 128 ∧ ∀ (X : List Nat) (h2 : Heap), (∀ y ∈ X, y < h.next) → Fr X h' h2 → NH h2 s ∧ Sl h2 6 u s.len s.cells
def MKs : PT → Prop
 | .nil => True
 | .cons _ _ _ _ _ _ _ sub nx => MK sub ∧ MKs nx
theorem MKs.at' : ∀ {t : PT} (i : Nat), MKs t → MKs (t.at' i)
 | .nil, 0, _ => trivial
 | .nil, _ + 1, _ => trivial
 | .cons _ _ _ _ _ _ _ _ _, 0, a => a
 | .cons _ _ _ _ _ _ _ _ _, i + 1, ⟨_, g⟩ => MKs.at' i g
theorem Gs.nE {h : Heap} {B e : Nat} {v : V} {cs : List V} (g : Gs h B e v cs) : v ≠ .sliceE := by
 rcases g with ⟨rfl, _⟩ | ⟨b, n, rfl, _⟩ <;> simp
theorem Gs.frX {h h' : Heap} {B e : Nat} {v : V} {cs : List V} {X : List Nat} (g : Gs h B e v cs) (f : Fr X h h') (hx : ∀ x ∈ X, x < B) : Gs h' B e v cs := by
 rcases g with ⟨rfl, rfl⟩ | ⟨b, n, rfl, h1, h2, h3, o⟩
 · exact .inl ⟨rfl, rfl⟩
 · exact .inr ⟨b, n, rfl, h1, h2, h3, f.own _ _ (fun m => by have := hx _ m; omega) o⟩
theorem wordsN {n0 : Nat} {v : V} {h : Heap} (z : Str) : ∀ (X : List Nat) (h' : Heap), (∀ x ∈ X, x < n0 ∨ x ∈ vb v) → Fr X h h' → NH h' (.cons 2 [] [] [] z .nils .nils .nil .nil) := fun _ _ _ _ => nh_name 2 (by omega) [] z
theorem make_ok {t : PT} (M : MKs t) : MK t := by
 intro x h v w a hm pt tg hl sl
 obtain ⟨h1, e_h1⟩ : ∃ h1, h1 = halloc h x.cells := ⟨_, rfl⟩
 have F_h1 : Fr [] h h1 := e_h1 ▸ Fr.halloc w _
 have o_h1 : Own h1 h.next x.cells := e_h1 ▸ Own.new w _
 have n1 : h1.next = h.next + 1 := by rw [e_h1]; rfl
 refine does_fn g202 rfl ?_
 simp only [fn202, evs, ↓reduceIte, Nat.reduceEqDiff, Nat.reduceAdd, ← e_h1, sl.len]
 refine W_loop (fun n env hh => Fr [] h hh ∧ Fr [] h1 hh ∧ ∃ (i : Nat) (s : NT) (vo : V), env.get 12 = some (.int .i64 i) ∧ env.get 11 = some (.int .i64 t.len) ∧ env.get 10 = some v ∧ env.get 5 = some vo ∧ env.get 2 = some (.ptr h.next 0) ∧
  i ≤ t.len ∧ Inv vo h.next hh s ∧ Gs hh h1.next 6 vo s.cells ∧ s.sh.app (made x (t.at' i)) = made x t ∧ s.len ≤ 8 * i ∧ n = t.len - i) t.len (by omega) ?_ ?_
 · exact ⟨F_h1, Fr.refl F_h1.wf, 0, .nil, .nils, (by simp [T.gs]), (by simp [T.gs]), (by simp [T.gs]), (by simp [T.gs]), (by simp [T.gs]), by omega, fun _ _ _ _ => trivial, .inl ⟨rfl, rfl⟩, by cases t <;> rfl, by simp [NT.len], rfl⟩
 · rintro n env hh ⟨F, F1, i, s, vo, g12, g11, g10, g5, g2, hi, I, G, e, sn, rfl⟩
   by_cases hlt : i < t.len
   · have hlt' : (i : Int) < t.len := by omega
     obtain ⟨k, tgn, ky, sl', tx, vs, vp, sub, nx, e1, e2, e3, e4, e5, e6⟩ := t.split i hlt
     have pti := pt.at' i
     have tgi := tg.at' i
     have Mi := M.at' i
     rw [e1] at pti tgi Mi e
     obtain ⟨pk, pr, pl, ps, pn, psub, _⟩ := pti
     obtain ⟨t3, tl, tsub, _⟩ := tgi
     obtain ⟨b', o', p1, p2⟩ := (sl.fr F).ix6 hlt e2
     have on : onesB [.int .u8 (k : Int), .str tgn, .str ky, vs, .str tx, vp] = true := by
      simp only [onesB_cons, onesB_nil, Sl.one pr, Sl.one ps]; rfl
     have vlt : ∀ y ∈ vb vo, y < hh.next := by
      rcases G with ⟨rfl, _⟩ | ⟨b, n, rfl, _, _, _, o⟩
      · simp [vb]
      · have := o.lt F.wf
        simp only [vb, List.mem_singleton]; rintro y rfl; exact this
     obtain ⟨h3, e_h3⟩ : ∃ h3, h3 = halloc hh [.int .u8 0, .str [], .str [], .nils, .str [], .nils] := ⟨_, rfl⟩
     have F_h3 : Fr [] hh h3 := e_h3 ▸ Fr.halloc F.wf _
     have o_h3 : Own h3 hh.next [.int .u8 0, .str [], .str [], .nils, .str [], .nils] := e_h3 ▸ Own.new F.wf _
     simp only [evs, ↓reduceIte, Nat.reduceEqDiff, g12, g11, g10, hlt', p1, p2.2.2.2.2.2.2, ← e_h3]
     refine store_step (c' := [.int .u8 (k : Int), .str tgn, .str ky, vs, .str tx, vp]) F_h3.wf o_h3 rfl on rfl ?_
     rintro h4 o4 F4 n4
     have F04 : Fr [] hh h4 := F_h3.fresh F4 F.wf (Nat.le_refl _)
     have q4 := o4.at6
     have ox := F04.get (F1.get o_h1)
     have x4 : hload h4 h.next 0 4 = some x.cells := by rw [ox.ld]; rfl
     have hn4 : hh.next ≤ h4.next := F04.next
     have h1n := F1.next
     simp only [made] at e
     have fin : ∀ {env2 : T V} {s2 : NT} {v2 : V} {h5 : Heap}, Fr [] h h5 → Fr [] h1 h5 → env2.get 12 = some (.int .i64 ((i : Int) + 1)) → env2.get 11 = some (.int .i64 t.len) → env2.get 10 = some v → env2.get 5 = some v2 → env2.get 2 = some (.ptr h.next 0) →
      Inv v2 h.next h5 s2 → Gs h5 h1.next 6 v2 s2.cells → s2.sh = s.sh.app (oneS x k tgn ky sl' tx (made x sub)) →
      ∃ k', k' < t.len - i ∧ Fr [] h h5 ∧ Fr [] h1 h5 ∧ ∃ (i : Nat) (s : NT) (vo : V), env2.get 12 = some (.int .i64 i) ∧ env2.get 11 = some (.int .i64 t.len) ∧ env2.get 10 = some v ∧ env2.get 5 = some vo ∧ env2.get 2 = some (.ptr h.next 0) ∧
       i ≤ t.len ∧ Inv vo h.next h5 s ∧ Gs h5 h1.next 6 vo s.cells ∧ s.sh.app (made x (t.at' i)) = made x t ∧ s.len ≤ 8 * i ∧ k' = t.len - i := by
      intro env2 s2 v2 h5 f f1 a1 a2 a3 a4 a5 I2 G2 es
      have ol := one_len x k tgn ky sl' tx (made x sub) hm
      refine ⟨t.len - (i + 1), by omega, f, f1, i + 1, s2, v2, a1, a2, a3, a4, a5, by omega, I2, G2, ?_, ?_, rfl⟩
      · rw [es, e3, ST.app_assoc]; exact e
      · rw [← NT.sh_len, es]
        have : ∀ a b : ST, (a.app b).len = a.len + b.len := by
         intro a b
         induction a with
         | nil => simp [ST.app, ST.len]
         | cons _ _ _ _ _ _ nx _ ih => simp only [ST.app, ST.len, ih]; omega
        rw [this, NT.sh_len]; omega
     have l0 : hload1 h4 hh.next 0 = some (.int .u8 (k : Int)) := q4.1
     have vge : ∀ y ∈ vb vo, h1.next ≤ y := by
      rcases G with ⟨rfl, _⟩ | ⟨b, n, rfl, _, _, hb, o⟩
      · simp [vb]
      · simp only [vb, List.mem_singleton]; rintro y rfl; exact hb
     have F0 : Fr [] h h4 := F.then F04
     have F10 : Fr [] h1 h4 := F1.then F04
     have att_h := a.fr F0
     by_cases k1 : k = 1
     · have ek : oneS x k tgn ky sl' tx (made x sub) = .cons 1 tgn ky (sl'.map (att x)) [] (made x sub) .nil := by subst k1; rfl
       have l2 : hload1 h4 hh.next 2 = some (.str ky) := q4.2.2.1
       have l5 : hload1 h4 hh.next 5 = some vp := q4.2.2.2.2.2.1
       have l6 := q4.2.2.2.2.2.2
       simp only [evs, ↓reduceIte, Nat.reduceEqDiff, eff, g5, g2, l0, eq_true (show (k : Int) = 1 by omega), x4, l6, l2, l5]
       refine OQ_does (Mi.1 x h4 vp F04.wf att_h hm (psub.fr F0) tsub tl (ps.fr F0)) ?_
       rintro u h5 ⟨s5, es5, F5, uE, s5l, st5⟩
       have st0 := st5 [] h5 (by simp) (Fr.refl F5.wf)
       have x5 : hload h5 h.next 0 4 = some x.cells := by rw [(F5.get ox).ld]; rfl
       have r5 := (F5.get o4).at6
       have m2 : hload1 h5 hh.next 2 = some (.str ky) := r5.2.2.1
       have m6 := r5.2.2.2.2.2.2
       simp only [evs, eff]
       refine OQ_does (element_ok F5.wf (att_h.fr F5) (Recs.fr pr (F0.then F5)) pl t3 (Sl.one ps) st0.2 uE) ?_
       rintro _ h6 ⟨va, vc, ba, rfl, hba, ta, scA, vc1, F6⟩
       simp only [evs, ↓reduceIte, Nat.reduceAdd, Nat.reduceLT, eff]
       have hn5 := F5.next
       refine push_ok (k := 1) (sub := s5) (at' := sl'.map (att x)) F6.wf (G.fr ((F04.then F5).then F6)) (by have := F6.next; omega) (by have := F6.next; omega) (I.fr F.wf ((F04.then F5).then F6)) ?_ (by omega) ?_
       · intro X h' hX f
         have hX' : ∀ y ∈ X, y < h4.next := fun y hy => by
          rcases hX y hy with q | q
          · omega
          · have := vlt y q; omega
         obtain ⟨z1, z2⟩ := st5 X h' hX' (Fr.trans F6 f F5.wf (by simp) (fun y hy => .inl hy))
         refine ⟨by omega, ?_, by simpa using pl, scA _ z2, by omega, z1, trivial⟩
         have := (ta.fr f (fun m => by have := hX' _ m; omega)).sl
         show Sl h' 2 va (sl'.map (att x)).length _
         rw [List.length_map]; exact this
       intro v' h' G' I' F' V'
       simp (disch := omega) only [evs, ↓reduceIte, Nat.reduceEqDiff, Nat.reduceAdd, DF, eff, Nat.reduceSub, fwrap_i64, g12, g2, x4, l6, l2, l5, x5, m6, m2]
       refine (roundQ_norm _ _ _).2 ?_
       exact fin (Fr.new w ((F0.then F5).then F6) F' (fun y hy => by have := vge y hy; omega)) (Fr.new F_h1.wf ((F10.then F5).then F6) F' vge) (by simp [T.gs]) (by simp [T.gs, g11]) (by simp [T.gs, g10]) (by simp [T.gs]) (by simp [T.gs, g2]) I' G' (by rw [ek, ← es5]; exact NT.app_sh _ _)
       done
     by_cases k2 : k = 2
     · have ek : oneS x k tgn ky sl' tx (made x sub) = wordsS tx := by subst k2; rfl
       simp only [evs, ↓reduceIte, Nat.reduceEqDiff, g5, l0, show ¬ (k : Int) = 1 by omega, eq_true (show (k : Int) = 2 by omega), q4.2.2.2.2.1]
       refine OQ_does (words_ok F04.wf) ?_
       rintro _ h5 ⟨rfl, F5⟩
       simp only [evs, ↓reduceIte, Nat.reduceAdd, Nat.reduceLT]
       refine push_ok (k := 2) F5.wf (G.fr (F04.then F5)) (by have := F5.next; omega) (by have := F5.next; omega) (I.fr F.wf (F04.then F5)) (wordsN _) (by omega) ?_
       intro v' h' G' I' F' V'
       simp (disch := omega) only [evs, ↓reduceIte, Nat.reduceEqDiff, fwrap_i64, g12]
       refine (roundQ_norm _ _ _).2 ?_
       exact fin (Fr.new w (F0.then F5) F' (fun y hy => by have := vge y hy; omega)) (Fr.new F_h1.wf (F10.then F5) F' vge) (by simp [T.gs]) (by simp [T.gs, g11]) (by simp [T.gs, g10]) (by simp [T.gs]) (by simp [T.gs, g2]) I' G' (by rw [ek]; exact NT.app_sh _ _)
       done
     by_cases k3 : k = 3
     · have ek : oneS x k tgn ky sl' tx (made x sub) = wordsS x.text := by subst k3; rfl
       simp only [evs, ↓reduceIte, Nat.reduceEqDiff, g5, g2, l0, show ¬ (k : Int) = 1 by omega, show ¬ (k : Int) = 2 by omega, eq_true (show (k : Int) = 3 by omega), show hload1 h4 h.next 2 = some (.str x.text) from ox.ld1 2]
       refine OQ_does (words_ok F04.wf) ?_
       rintro _ h5 ⟨rfl, F5⟩
       simp only [evs, ↓reduceIte, Nat.reduceAdd, Nat.reduceLT]
       refine push_ok (k := 2) F5.wf (G.fr (F04.then F5)) (by have := F5.next; omega) (by have := F5.next; omega) (I.fr F.wf (F04.then F5)) (wordsN _) (by omega) ?_
       intro v' h' G' I' F' V'
       simp (disch := omega) only [evs, ↓reduceIte, Nat.reduceEqDiff, fwrap_i64, g12]
       refine (roundQ_norm _ _ _).2 ?_
       exact fin (Fr.new w (F0.then F5) F' (fun y hy => by have := vge y hy; omega)) (Fr.new F_h1.wf (F10.then F5) F' vge) (by simp [T.gs]) (by simp [T.gs, g11]) (by simp [T.gs, g10]) (by simp [T.gs]) (by simp [T.gs, g2]) I' G' (by rw [ek]; exact NT.app_sh _ _)
       done
     by_cases k4 : k = 4
     · have ek : oneS x k tgn ky sl' tx (made x sub) = wordsS (dec x.key) := by subst k4; rfl
       simp only [evs, ↓reduceIte, Nat.reduceEqDiff, g5, g2, l0, show ¬ (k : Int) = 1 by omega, show ¬ (k : Int) = 2 by omega, show ¬ (k : Int) = 3 by omega, eq_true (show (k : Int) = 4 by omega), show hload1 h4 h.next 0 = some (.int .u64 (x.key : Int)) from ox.ld1 0]
       refine OQ_does (decimal_ok F04.wf a.k) ?_
       rintro _ h4' ⟨rfl, F4'⟩
       simp only [evs]
       refine OQ_does (words_ok F4'.wf) ?_
       rintro _ h5 ⟨rfl, F5'⟩
       have F5 := F4'.then F5'
       simp only [evs, ↓reduceIte, Nat.reduceAdd, Nat.reduceLT]
       refine push_ok (k := 2) F5.wf (G.fr (F04.then F5)) (by have := F5.next; omega) (by have := F5.next; omega) (I.fr F.wf (F04.then F5)) (wordsN _) (by omega) ?_
       intro v' h' G' I' F' V'
       simp (disch := omega) only [evs, ↓reduceIte, Nat.reduceEqDiff, fwrap_i64, g12]
       refine (roundQ_norm _ _ _).2 ?_
       exact fin (Fr.new w (F0.then F5) F' (fun y hy => by have := vge y hy; omega)) (Fr.new F_h1.wf (F10.then F5) F' vge) (by simp [T.gs]) (by simp [T.gs, g11]) (by simp [T.gs, g10]) (by simp [T.gs]) (by simp [T.gs, g2]) I' G' (by rw [ek]; exact NT.app_sh _ _)
       done
     by_cases k5 : k = 5
     · have ek : oneS x k tgn ky sl' tx (made x sub) = eachS tgn (sl'.map (att x)) x.marks := by subst k5; rfl
       have l3 : hload1 h4 h.next 3 = some x.vm := ox.ld1 3
       simp only [evs, ↓reduceIte, Nat.reduceEqDiff, g2, l0, show ¬ (k : Int) = 1 by omega, show ¬ (k : Int) = 2 by omega, show ¬ (k : Int) = 3 by omega, show ¬ (k : Int) = 4 by omega, eq_true (show (k : Int) = 5 by omega), l3, a.m.len]
       refine W_loop (fun n env' hh' => Fr [] h hh' ∧ Fr [] h1 hh' ∧ Own hh' hh.next [.int .u8 (k : Int), .str tgn, .str ky, vs, .str tx, vp] ∧ h4.next ≤ hh'.next ∧ ∃ (j : Nat) (s' : NT) (v2 : V), env'.get 65 = some (.int .i64 j) ∧ env'.get 64 = some (.int .i64 x.marks.length) ∧ env'.get 63 = some x.vm ∧ env'.get 7 = some (.ptr hh.next 0) ∧
        env'.get 12 = some (.int .i64 i) ∧ env'.get 11 = some (.int .i64 t.len) ∧ env'.get 10 = some v ∧ env'.get 5 = some v2 ∧ env'.get 2 = some (.ptr h.next 0) ∧ j ≤ x.marks.length ∧ hh.next ∉ vb v2 ∧ Inv v2 h.next hh' s' ∧ Gs hh' h1.next 6 v2 s'.cells ∧
        s'.sh.app (eachS tgn (sl'.map (att x)) (x.marks.drop j)) = s.sh.app (eachS tgn (sl'.map (att x)) x.marks) ∧ s'.len ≤ 8 * i + j ∧ n = x.marks.length - j) x.marks.length (by omega) ?_ ?_
       · exact ⟨F0, F10, o4, Nat.le_refl _, 0, s, vo, (by simp [T.gs]), (by simp [T.gs]), (by simp [T.gs]), (by simp [T.gs]), (by simp [T.gs, g12]), (by simp [T.gs, g11]), (by simp [T.gs, g10]), (by simp [T.gs, g5]), (by simp [T.gs, g2]), by omega, fun m => by (have := vlt _ m; omega), I.fr F.wf F04, G.fr F04, rfl, by omega, rfl⟩
       · rintro n' env' hh' ⟨F0j, F1j, oj, hnj, j, s', v2, g65, g64, g63, g7, g12, g11, g10, g5, g2, hj, hnv, I2, G2, ej, sl2, rfl⟩
         have oxj := F1j.get o_h1
         by_cases hjl : j < x.marks.length
         · have hjl' : (j : Int) < x.marks.length := by omega
           obtain ⟨b3, o3', mk, r1, r2, _, r4⟩ := (a.m.fr F0j).ix sS_len .i64 (j : Int) (by omega) hjl'
           have r2' : hload1 hh' b3 o3' = some (.str mk) := r2 0 (by omega)
           rw [Int.toNat_natCast] at r4
           rw [drop_cons r4] at ej
           have v2ge : ∀ y ∈ vb v2, h1.next ≤ y := by
            rcases G2 with ⟨rfl, _⟩ | ⟨b, n, rfl, _, _, hb, o⟩
            · simp [vb]
            · simp only [vb, List.mem_singleton]; rintro y rfl; exact hb
           have v2lt : ∀ y ∈ vb v2, y < hh'.next := by
            rcases G2 with ⟨rfl, _⟩ | ⟨b, n, rfl, _, _, _, o⟩
            · simp [vb]
            · have := o.lt F0j.wf
              simp only [vb, List.mem_singleton]; rintro y rfl; exact this
           have ja : hload hh' h.next 0 4 = some x.cells := by rw [oxj.ld]; rfl
           have jp := oj.at6.2.2.2.2.2.2
           simp only [evs, ↓reduceIte, Nat.reduceEqDiff, eff, g65, g64, g63, g7, g5, g2, hjl', r1, r2', ja, jp]
           refine OQ_does (words_ok F0j.wf) ?_
           rintro _ h5 ⟨rfl, F5⟩
           obtain ⟨h6, e_h6⟩ : ∃ h6, h6 = halloc h5 [.int .u8 2, .str [], .str [], .nils, .str mk, .nils] := ⟨_, rfl⟩
           have F_h6 : Fr [] h5 h6 := e_h6 ▸ Fr.halloc F5.wf _
           have o_h6 : Own h6 h5.next [.int .u8 2, .str [], .str [], .nils, .str mk, .nils] := e_h6 ▸ Own.new F5.wf _
           have n6 : h6.next = h5.next + 1 := by rw [e_h6]; rfl
           have ja5 : hload h5 h.next 0 4 = some x.cells := by rw [(F5.get oxj).ld]; rfl
           have jp5 := (F5.get oj).at6.2.2.2.2.2.2
           have ja6 : hload h6 h.next 0 4 = some x.cells := by rw [(F_h6.get (F5.get oxj)).ld]; rfl
           have jp6 := (F_h6.get (F5.get oj)).at6.2.2.2.2.2.2
           simp only [evs, ↓reduceIte, Nat.reduceAdd, Nat.reduceLT, eff, ← e_h6]
           have F06 := (F0j.then F5).then F_h6
           have kid : Sl h6 6 (.slice h5.next 0 1 1) 1 (NT.cons 2 [] [] [] mk .nils .nils .nil .nil).cells := Sl.lit o_h6 rfl
           refine OQ_does (element_ok F_h6.wf (a.fr F06) (Recs.fr pr F06) pl t3 (Sl.one ps) kid (by simp)) ?_
           rintro _ h7 ⟨va, vc, ba, rfl, hba, ta, scA, vc1, F7⟩
           simp only [evs, ↓reduceIte, Nat.reduceAdd, Nat.reduceLT, eff]
           have hn5 := F5.next
           have hn7 := F7.next
           have Fj7 := (F5.then F_h6).then F7
           refine push_ok (k := 1) (sub := .cons 2 [] [] [] mk .nils .nils .nil .nil) (at' := sl'.map (att x)) F7.wf (G2.fr Fj7) (by omega) (by omega) (I2.fr F0j.wf Fj7) ?_ (by omega) ?_
           · intro X h' hX f
             have hX' : ∀ y ∈ X, y < hh'.next := fun y hy => by
              rcases hX y hy with q | q
              · omega
              · exact v2lt y q
             have f2 : Fr X h6 h' := Fr.trans F7 f F_h6.wf (by simp) (fun y hy => .inl hy)
             have o' := f2.own _ _ (fun m => by have := hX' _ m; omega) o_h6
             refine ⟨by omega, ?_, by simpa using pl, scA _ (Sl.lit o' rfl), by simp [NT.len], nh_name 2 (by omega) [] mk, trivial⟩
             have := (ta.fr f (fun m => by have := hX' _ m; omega)).sl
             show Sl h' 2 va (sl'.map (att x)).length _
             rw [List.length_map]; exact this
           intro v' h' G' I' F' V'
           simp (disch := omega) only [evs, ↓reduceIte, Nat.reduceEqDiff, Nat.reduceAdd, DF, eff, Nat.reduceSub, fwrap_i64, g65, g7, g2, ja, jp, ja5, jp5, ja6, jp6]
           refine (roundQ_norm _ _ _).2 ⟨x.marks.length - (j + 1), by omega, Fr.new w (F0j.then Fj7) F' (fun y hy => by have := v2ge y hy; omega), Fr.new F_h1.wf (F1j.then Fj7) F' v2ge, F'.own _ _ hnv (Fj7.get oj), by have := F'.next; omega, j + 1, _, v', (by simp [T.gs]), (by simp [T.gs, g64]), (by simp [T.gs, g63]), (by simp [T.gs, g7]), (by simp [T.gs, g12]), (by simp [T.gs, g11]), (by simp [T.gs, g10]), (by simp [T.gs]), (by simp [T.gs, g2]), by omega, fun m => by (have := V' _ m; omega), I', G', ?_, ?_, rfl⟩
           · rw [NT.app_sh, ST.app_assoc]; exact ej
           · rw [NT.app_len]; simp only [NT.len]; omega
         · simp (disch := omega) only [evs, ↓reduceIte, Nat.reduceEqDiff, fwrap_i64, g65, g64, g12, show ¬ (j : Int) < x.marks.length by omega]
           rw [List.drop_of_length_le (by omega)] at ej
           simp only [eachS, ST.app_nil] at ej
           refine (roundQ_norm _ _ _).2 ?_
           exact fin F0j F1j (by simp [T.gs]) (by simp [T.gs, g11]) (by simp [T.gs, g10]) (by simp [T.gs, g5]) (by simp [T.gs, g2]) I2 G2 (by rw [ek]; exact ej)
           done
     have ek : oneS x k tgn ky sl' tx (made x sub) = .nil := by unfold oneS; simp [k1, k2, k3, k4, k5]
     simp (disch := omega) only [evs, ↓reduceIte, Nat.reduceEqDiff, fwrap_i64, g12, l0, show ¬ (k : Int) = 1 by omega, show ¬ (k : Int) = 2 by omega, show ¬ (k : Int) = 3 by omega, show ¬ (k : Int) = 4 by omega, show ¬ (k : Int) = 5 by omega]
     refine (roundQ_norm _ _ _).2 ?_
     exact fin F0 F10 (by simp [T.gs]) (by simp [T.gs, g11]) (by simp [T.gs, g10]) (by simp [T.gs, g5]) (by simp [T.gs, g2]) (I.fr F.wf F04) (G.fr F04) (by rw [ek, ST.app_nil])
     done
   · simp only [evs, ↓reduceIte, Nat.reduceEqDiff, g12, g11, g5, show ¬ (i : Int) < t.len by omega]
     rw [PT.at_end _ _ (by omega)] at e
     simp only [made, ST.app_nil] at e
     refine ⟨s, e, F, Gs.nE G, by omega, fun X h2 hX f2 => ⟨I X h2 (fun y hy => .inl (hX y hy)) f2, (Gs.frX G f2 (fun y hy => by have := hX y hy; omega)).sl s.cells_len (by omega)⟩⟩
theorem mks : ∀ t : PT, MKs t
 | .nil => trivial
 | .cons _ _ _ _ _ _ _ sub nx => ⟨make_ok (mks sub), mks nx⟩
theorem slos_le : ∀ (p : Option Str) (l : List Slo), slosOK p l = true → ∀ s ∈ l, s.2.1 ≤ 3
 | _, [], _, s, m => by simp at m
 | p, a :: l, e, s, m => by
  rw [slosOK_cons, Bool.and_eq_true] at e
  rcases List.mem_cons.1 m with rfl | m
  · have := e.1
    simp only [sloB, Bool.and_eq_true, decide_eq_true_eq] at this
    exact this.2.1
  · exact slos_le _ l e.2 s m
theorem partB_good {k : Nat} {tg ky tx : Str} {sl : List Slo} {n : Nat} (h : partB k tg ky sl tx n = true) : (∀ s ∈ sl, s.2.1 ≤ 3) ∧ n ≤ 16 := by
 unfold partB at h
 by_cases k1 : k = 1
 · rw [if_pos k1] at h
   simp only [Bool.and_eq_true, decide_eq_true_eq, slotsB] at h
   exact ⟨slos_le _ _ h.2.2.2.1.2, h.2.1⟩
 rw [if_neg k1] at h
 by_cases k5 : k = 5
 · rw [if_pos k5] at h
   simp only [Bool.and_eq_true, decide_eq_true_eq, slotsB] at h
   exact ⟨slos_le _ _ h.2.1.2, by omega⟩
 rw [if_neg k5] at h
 by_cases k2 : k = 2
 · rw [if_pos k2] at h
   simp only [Bool.and_eq_true, decide_eq_true_eq] at h
   obtain ⟨_, _, _, h4, h5⟩ := h
   have : sl = [] := List.length_eq_zero_iff.1 h4
   subst this
   exact ⟨by simp, by omega⟩
 rw [if_neg k2] at h
 by_cases k34 : k = 3 ∨ k = 4
 · rw [if_pos k34] at h
   simp only [Bool.and_eq_true, decide_eq_true_eq] at h
   obtain ⟨_, _, _, h4, h5⟩ := h
   have : sl = [] := List.length_eq_zero_iff.1 h4
   subst this
   exact ⟨by simp, by omega⟩
 · rw [if_neg k34] at h; cases h
theorem walk_TG : ∀ (t : PT) (l c : Nat), (t.walk l c).2 = true → TG t
 | .nil, _, _, _ => trivial
 | .cons k tg ky sl tx _ _ sub nx, l, c, h => by
  simp only [PT.walk] at h
  by_cases q : (PT.node k tg ky sl tx sub sub.walk l c).2 = true
  · rw [if_pos q] at h
    have g := walk_TG nx _ _ h
    unfold PT.node at q
    by_cases x : 6 < l ∨ 64 < c + 1 ∨ partB k tg ky sl tx sub.len = false
    · rw [if_pos x] at q; cases q
    · rw [if_neg x] at q
      have pb : partB k tg ky sl tx sub.len = true := by
       cases e : partB k tg ky sl tx sub.len
       · exact absurd (.inr (.inr e)) x
       · rfl
      exact ⟨(partB_good pb).1, (partB_good pb).2, walk_TG sub _ _ q, g⟩
  · rw [if_neg q] at h; exact absurd h q
theorem count_TG {k : Nat} {tg ky tx : Str} {sl : List Slo} {sub : PT} (va vc : V) (h : PT.count k tg ky sl tx sub ≠ 0) : k = 1 ∧ TG (.cons k tg ky sl tx va vc sub .nil) := by
 unfold PT.count at h
 split at h
 · rename_i q
   refine ⟨q.1, walk_TG (.cons k tg ky sl tx va vc sub .nil) 1 0 ?_⟩
   simp only [PT.walk]
   rw [if_pos q.2]
 · exact absurd rfl h
theorem NT.sh_one {s : NT} {k : Nat} {tg ky tx : Str} {a : List (Str × Str)} {sub : ST} (e : s.sh = .cons k tg ky a tx sub .nil) : ∃ va vc s', s = .cons k tg ky a tx va vc s' .nil ∧ s'.sh = sub := by
 cases s with
 | nil => cases e
 | cons k' tg' ky' a' tx' va vc s' nx =>
  simp only [NT.sh] at e
  cases nx with
  | nil => cases e; exact ⟨va, vc, s', rfl, rfl⟩
  | cons _ _ _ _ _ _ _ _ _ => cases e
def rendE (k : Nat) (tg ky : Str) (sl : List Slo) (tx : Str) (sub : PT) (x : Itm) (most : Int) : Int :=
 if most < 1 ∨ 64 < most then 1
 else if PT.count k tg ky sl tx sub = 0 then 14
 else if okCI x = false then 6
 else if ST.count 1 tg ky (sl.map (att x)) [] (made x sub) = 0 ∨ most < (ST.count 1 tg ky (sl.map (att x)) [] (made x sub) : Nat) then 14
 else 0
abbrev Z6 : List V := [.int .u8 0, .str [], .str [], .nils, .str [], .nils]
theorem render_ok {h : Heap} {k : Nat} {tg ky tx : Str} {sl : List Slo} {vs vp : V} {sub : PT} {x : Itm} {most : Int} (w : WF h) (n : PH h (.cons k tg ky sl tx vs vp sub .nil)) (a : ItmH h x) :
 Does go 141 [.agg [.int .u8 (k : Int), .str tg, .str ky, vs, .str tx, vp], .agg x.cells, .int .i64 most] h fun u h' => ∃ cs, u = .tup [.agg cs, .int .i64 (rendE k tg ky sl tx sub x most)] ∧ Fr [] h h' ∧
  (rendE k tg ky sl tx sub x most ≠ 0 → cs = Z6) ∧ (rendE k tg ky sl tx sub x most = 0 → ∃ (s : NT) (va vc : V), cs = [.int .u8 1, .str tg, .str ky, va, .str [], vc] ∧ NH h' (.cons 1 tg ky (sl.map (att x)) [] va vc s .nil) ∧ s.sh = made x sub) := by
 obtain ⟨h1, e_h1⟩ : ∃ h1, h1 = halloc h [.int .u8 (k : Int), .str tg, .str ky, vs, .str tx, vp] := ⟨_, rfl⟩
 have F_h1 : Fr [] h h1 := e_h1 ▸ Fr.halloc w _
 have o_h1 : Own h1 h.next [.int .u8 (k : Int), .str tg, .str ky, vs, .str tx, vp] := e_h1 ▸ Own.new w _
 obtain ⟨h2, e_h2⟩ : ∃ h2, h2 = halloc h1 x.cells := ⟨_, rfl⟩
 have F_h2 : Fr [] h1 h2 := e_h2 ▸ Fr.halloc F_h1.wf _
 have o_h2 : Own h2 h1.next x.cells := e_h2 ▸ Own.new F_h1.wf _
 obtain ⟨h3, e_h3⟩ : ∃ h3, h3 = halloc h2 [.int .u8 0, .str [], .str [], .nils, .str [], .nils] := ⟨_, rfl⟩
 have F_h3 : Fr [] h2 h3 := e_h3 ▸ Fr.halloc F_h2.wf _
 have o_h3 : Own h3 h2.next [.int .u8 0, .str [], .str [], .nils, .str [], .nils] := e_h3 ▸ Own.new F_h2.wf _
 have n1 : h1.next = h.next + 1 := by rw [e_h1]; rfl
 have n2 : h2.next = h1.next + 1 := by rw [e_h2]; rfl
 have F03 := (F_h1.then F_h2).then F_h3
 have op := F_h3.get (F_h2.get o_h1)
 have ox := F_h3.get o_h2
 have p6 := op.at6.2.2.2.2.2.2
 have x4 : hload h3 h1.next 0 4 = some x.cells := by rw [ox.ld]; rfl
 have bad : ∀ {h4 h5 : Heap} {e : Int} {c0 : List V}, rendE k tg ky sl tx sub x most = e → e ≠ 0 → Fr [] h h4 → Own h4 h2.next c0 → Fr [h2.next] h4 h5 → ∃ cs, V.tup [.agg Z6, .int .i64 e] = .tup [.agg cs, .int .i64 (rendE k tg ky sl tx sub x most)] ∧ Fr [] h h5 ∧
  (rendE k tg ky sl tx sub x most ≠ 0 → cs = Z6) ∧ (rendE k tg ky sl tx sub x most = 0 → ∃ (s : NT) (va vc : V), cs = [.int .u8 1, .str tg, .str ky, va, .str [], vc] ∧ NH h5 (.cons 1 tg ky (sl.map (att x)) [] va vc s .nil) ∧ s.sh = made x sub) := by
  intro h4 h5 e c0 q ne f _ f2
  subst q
  exact ⟨Z6, rfl, f.fresh f2 w (by omega), fun _ => rfl, fun q => absurd q ne⟩
 by_cases m1 : most < 1
 · refine does_fn g141 rfl ?_
   simp only [fn141, evs, ↓reduceIte, Nat.reduceEqDiff, Nat.reduceAdd, ← e_h1, ← e_h2, ← e_h3, m1]
   refine store_step (c' := Z6) F_h3.wf o_h3 rfl rfl rfl ?_
   rintro h4 o4 F4 n4
   simp only [evs, ↓reduceIte, Nat.reduceEqDiff, o4.at6.2.2.2.2.2.2]
   exact bad (if_pos (.inl m1)) (by omega) F03 o_h3 F4
 by_cases m2 : (64 : Int) < most
 · refine does_fn g141 rfl ?_
   simp only [fn141, evs, ↓reduceIte, Nat.reduceEqDiff, Nat.reduceAdd, ← e_h1, ← e_h2, ← e_h3, m1, m2]
   refine store_step (c' := Z6) F_h3.wf o_h3 rfl rfl rfl ?_
   rintro h4 o4 F4 n4
   simp only [evs, ↓reduceIte, Nat.reduceEqDiff, o4.at6.2.2.2.2.2.2]
   exact bad (if_pos (.inr m2)) (by omega) F03 o_h3 F4
 have r1 : rendE k tg ky sl tx sub x most = if PT.count k tg ky sl tx sub = 0 then 14 else if okCI x = false then 6 else if ST.count 1 tg ky (sl.map (att x)) [] (made x sub) = 0 ∨ most < (ST.count 1 tg ky (sl.map (att x)) [] (made x sub) : Nat) then 14 else 0 := if_neg (by omega)
 refine does_fn g141 rfl ?_
 simp only [fn141, evs, ↓reduceIte, Nat.reduceEqDiff, Nat.reduceAdd, ← e_h1, ← e_h2, ← e_h3, m1, m2, p6]
 refine OQ_does (tcheck_ok F_h3.wf (n.fr F03)) ?_
 rintro _ h4 ⟨rfl, F4⟩
 have F04 := F03.then F4
 have oz4 := F4.get o_h3
 have x4' : hload h4 h1.next 0 4 = some x.cells := by rw [(F4.get ox).ld]; rfl
 have p6' := (F4.get op).at6.2.2.2.2.2.2
 by_cases c0 : PT.count k tg ky sl tx sub = 0
 · rw [if_pos c0]
   simp only [evs, ↓reduceIte, Nat.reduceEqDiff]
   refine store_step (c' := Z6) F4.wf oz4 rfl rfl rfl ?_
   rintro h5 o5 F5 n5
   simp only [evs, ↓reduceIte, Nat.reduceEqDiff, o5.at6.2.2.2.2.2.2]
   exact bad (r1.trans (if_pos c0)) (by omega) F04 oz4 F5
 rw [if_neg c0]
 rw [if_neg c0] at r1
 simp only [evs, ↓reduceIte, Nat.reduceEqDiff, x4']
 refine OQ_does (checkItem_ok F4.wf (a.fr F04)) ?_
 rintro _ h5 ⟨rfl, F5⟩
 have F05 := F04.then F5
 have oz5 := F5.get oz4
 have x5 : hload h5 h1.next 0 4 = some x.cells := by rw [(F5.get (F4.get ox)).ld]; rfl
 have p5 := (F5.get (F4.get op)).at6.2.2.2.2.2.2
 cases c1 : okCI x
 · rw [c1] at r1
   simp only [evs, ↓reduceIte, Nat.reduceEqDiff]
   refine store_step (c' := Z6) F5.wf oz5 rfl rfl rfl ?_
   rintro h6 o6 F6 n6
   simp only [evs, ↓reduceIte, Nat.reduceEqDiff, o6.at6.2.2.2.2.2.2]
   exact bad r1 (by omega) F05 oz5 F6
 rw [c1, if_neg (by simp)] at r1
 obtain ⟨k1, tgd⟩ := count_TG vs vp c0
 have hm : x.marks.length ≤ 8 := by
  simp only [okCI, okM, Bool.and_eq_true, decide_eq_true_eq] at c1
  exact c1.2.2.1
 have em : made x (.cons k tg ky sl tx vs vp sub .nil) = .cons 1 tg ky (sl.map (att x)) [] (made x sub) .nil := by subst k1; rfl
 have bld : aP (.build [.int .u64 0, .int .u8 0, .str [], .nils] [(0, 4)]) [.agg x.cells] = some (.agg x.cells) := rfl
 have n5 := n.fr F05
 obtain ⟨h6, e_h6⟩ : ∃ h6, h6 = halloc h5 [.int .u8 (k : Int), .str tg, .str ky, vs, .str tx, vp] := ⟨_, rfl⟩
 have F_h6 : Fr [] h5 h6 := e_h6 ▸ Fr.halloc F5.wf _
 have o_h6 : Own h6 h5.next [.int .u8 (k : Int), .str tg, .str ky, vs, .str tx, vp] := e_h6 ▸ Own.new F5.wf _
 have n6 : h6.next = h5.next + 1 := by rw [e_h6]; rfl
 simp only [evs, ↓reduceIte, Nat.reduceEqDiff, Nat.reduceAdd, Nat.reduceLT, x5, p5, bld, ← e_h6]
 have F06 := F05.then F_h6
 refine OQ_does (make_ok (mks _) x h6 _ F_h6.wf (a.fr F06) hm (n.fr F06) tgd (by simp [PT.len]) (Sl.lit o_h6 rfl)) ?_
 rintro u h7 ⟨s, es, F7, uE, _, st⟩
 rw [em] at es
 obtain ⟨va, vc, s', rfl, es'⟩ := NT.sh_one es
 have st0 := st [] h7 (by simp) (Fr.refl F7.wf)
 have F07 := F06.then F7
 obtain ⟨b, o, i1, i2⟩ := st0.2.ix6 (i := 0) (by simp [NT.len]) (x0 := .int .u8 ((1 : Nat) : Int)) (x1 := .str tg) (x2 := .str ky) (x3 := va) (x4 := .str []) (x5 := vc) (r := []) rfl
 have i1' : aP (.ixs 6) [u, .int .i64 0] = some (.ptr b o) := i1
 have on := NH.ones st0.1
 have oz7 := F7.get (F_h6.get oz5)
 obtain ⟨h8, e_h8⟩ : ∃ h8, h8 = halloc h7 [.int .u8 0, .str [], .str [], .nils, .str [], .nils] := ⟨_, rfl⟩
 have F_h8 : Fr [] h7 h8 := e_h8 ▸ Fr.halloc F7.wf _
 have o_h8 : Own h8 h7.next [.int .u8 0, .str [], .str [], .nils, .str [], .nils] := e_h8 ▸ Own.new F7.wf _
 simp only [evs, ↓reduceIte, i1', i2.2.2.2.2.2.2, ← e_h8]
 refine store_step (c' := [.int .u8 ((1 : Nat) : Int), .str tg, .str ky, va, .str [], vc]) F_h8.wf o_h8 rfl (by exact on) rfl ?_
 rintro h9 o9 F9 n9
 have F79 : Fr [] h7 h9 := F_h8.fresh F9 F7.wf (Nat.le_refl _)
 have N9 := NH.fr F79 st0.1
 simp only [evs, ↓reduceIte, o9.at6.2.2.2.2.2.2]
 refine OQ_does (ncount_ok F9.wf N9) ?_
 rintro _ h10 ⟨rfl, F10⟩
 have oz10 := F10.get (F79.get oz7)
 have F010 := (F07.then F79).then F10
 have ec : ST.count 1 tg ky (sl.map (att x)) [] (made x sub) = NT.count 1 tg ky (sl.map (att x)) [] s' := by rw [← es', NT.sh_count]
 rw [ec] at r1
 by_cases z : NT.count 1 tg ky (sl.map (att x)) [] s' = 0
 · simp only [evs, ↓reduceIte, Nat.reduceEqDiff, show ((NT.count 1 tg ky (sl.map (att x)) [] s' : Nat) : Int) = 0 by omega]
   refine store_step (c' := Z6) F10.wf oz10 rfl rfl rfl ?_
   rintro h11 o11 F11 n11
   simp only [evs, ↓reduceIte, Nat.reduceEqDiff, o11.at6.2.2.2.2.2.2]
   exact bad (r1.trans (if_pos (.inl z))) (by omega) F010 oz10 F11
 by_cases z2 : most < ((NT.count 1 tg ky (sl.map (att x)) [] s' : Nat) : Int)
 · simp only [evs, ↓reduceIte, Nat.reduceEqDiff, eq_false (show ¬ ((NT.count 1 tg ky (sl.map (att x)) [] s' : Nat) : Int) = 0 by omega), z2]
   refine store_step (c' := Z6) F10.wf oz10 rfl rfl rfl ?_
   rintro h11 o11 F11 n11
   simp only [evs, ↓reduceIte, Nat.reduceEqDiff, o11.at6.2.2.2.2.2.2]
   exact bad (r1.trans (if_pos (.inr z2))) (by omega) F010 oz10 F11
 · have r2 := r1.trans (if_neg (by omega))
   have l10 := (F10.get o9).at6.2.2.2.2.2.2
   simp only [evs, ↓reduceIte, Nat.reduceEqDiff, eq_false (show ¬ ((NT.count 1 tg ky (sl.map (att x)) [] s' : Nat) : Int) = 0 by omega), z2, l10]
   refine store_step (c' := [.int .u8 ((1 : Nat) : Int), .str tg, .str ky, va, .str [], vc]) F10.wf oz10 rfl (by exact on) rfl ?_
   rintro h11 o11 F11 n11
   simp only [evs, ↓reduceIte, Nat.reduceEqDiff, o11.at6.2.2.2.2.2.2]
   rw [r2]
   refine ⟨_, rfl, F010.fresh F11 w (by omega), fun q => absurd rfl q, fun _ => ⟨s', va, vc, rfl, ?_, es'⟩⟩
   have h7n := F7.next
   exact (st [h2.next] h11 (by simp; have := F5.next; have := F4.next; have := F_h3.next; have := (show h3.next = h2.next + 1 by rw [e_h3]; rfl); omega) (Fr.trans (F79.then F10) F11 F7.wf (by simp) (fun y hy => .inl hy))).1
def Gn (e : Nat) (h : Heap) (B : Nat) (v : V) (n : Nat) (cs : List V) : Prop := cs.length = n * e ∧ ((n = 0 ∧ (v = .nils ∨ ∃ b, B ≤ b ∧ v = .slice b 0 0 0 ∧ Own h b [])) ∨ ∃ b, B ≤ b ∧ v = .sliceU b 0 n e ∧ Own h b cs)
theorem Gn.sl {e : Nat} {h : Heap} {B n : Nat} {v : V} {cs : List V} (g : Gn e h B v n cs) : Sl h e v n cs := by
 obtain ⟨hl, ⟨rfl, rfl | ⟨b, _, rfl, o⟩⟩ | ⟨b, _, rfl, o⟩⟩ := g
 · exact ⟨hl, rfl⟩
 · have : cs = [] := List.length_eq_zero_iff.1 (by omega)
   subst this
   exact ⟨hl, rfl, Nat.le_refl _, [], o, by simp, by simp⟩
 · exact ⟨hl, rfl, rfl, cs, o, by omega, by rw [List.drop_zero, List.take_of_length_le (by omega)]⟩
theorem Gn.fr {e : Nat} {h h' : Heap} {B n : Nat} {v : V} {cs : List V} {X : List Nat} (g : Gn e h B v n cs) (f : Fr X h h') (hx : ∀ x ∈ X, x < B) : Gn e h' B v n cs := by
 obtain ⟨hl, ⟨rfl, rfl | ⟨b, hb, rfl, o⟩⟩ | ⟨b, hb, rfl, o⟩⟩ := g
 · exact ⟨hl, .inl ⟨rfl, .inl rfl⟩⟩
 · exact ⟨hl, .inl ⟨rfl, .inr ⟨b, hb, rfl, f.own _ _ (fun m => by have := hx _ m; omega) o⟩⟩⟩
 · exact ⟨hl, .inr ⟨b, hb, rfl, f.own _ _ (fun m => by have := hx _ m; omega) o⟩⟩
theorem Gn.one {e : Nat} {h : Heap} {B n : Nat} {v : V} {cs : List V} (g : Gn e h B v n cs) : v.one = true := g.sl.one
theorem Gn.nE {e : Nat} {h : Heap} {B n : Nat} {v : V} {cs : List V} (g : Gn e h B v n cs) : v ≠ .sliceE := by
 obtain ⟨_, ⟨_, rfl | ⟨b, _, rfl, _⟩⟩ | ⟨b, _, rfl, _⟩⟩ := g <;> simp
def nZ : V → Bool
 | .sliceZ _ _ => false
 | _ => true
theorem _root_.Go.Ev.ASl.src {h : Heap} {e : Nat} {v : V} {n : Nat} {cs : List V} (a : ASl h e v n cs) (z : nZ v = true) : srcLen v = some n ∧ srcCells h e v n = some cs ∧ (v ≠ .nils → aP (.nil 1 false) [v, .nils] = some (.bool false)) := by
 obtain ⟨hl, a⟩ := a
 cases v with
 | slice b o len cap =>
  obtain ⟨rfl, _, c, hc, h2, q⟩ := a
  exact ⟨rfl, by simp only [Ev.srcCells, hc.ld, dropL_eq, takeL_at _ _ (show len * e ≤ (c.drop o).length by simp; omega), q], fun _ => rfl⟩
 | sliceU b o len e' =>
  obtain ⟨rfl, rfl, c, hc, h2, q⟩ := a
  exact ⟨rfl, by simp only [Ev.srcCells, hc.ld, dropL_eq, takeL_at _ _ (show len * e' ≤ (c.drop o).length by simp; omega), q], fun _ => rfl⟩
 | nils => have a : n = 0 := a; subst a; simp at hl; subst hl; exact ⟨rfl, rfl, fun q => absurd rfl q⟩
 | sliceE => have a : n = 0 := a; subst a; simp at hl; subst hl; exact ⟨rfl, rfl, fun _ => rfl⟩
 | sliceZ _ _ => cases z
 | _ => exact a.elim
theorem clone_core {h : Heap} {e bytes n : Nat} {x : V} {xs : List V} (w : WF h) (a : ASl h e x n xs) (z : nZ x = true) (he : 0 < e) (hsz : (2 * n + 1024) * bytes ≤ 281474976710656) {K : V → Heap → Prop}
 (k : ∀ v' h', Gn e h' h.next v' n xs → Fr [] h h' → K v' h') : OQ (aapp (halloc h []) e bytes (.slice h.next 0 0 0) x) K := by
 have F1 := Fr.halloc w ([] : List V)
 have o1 := Own.new w ([] : List V)
 obtain ⟨s1, s2, _⟩ := (a.fr F1).src z
 have hl := a.1
 unfold aapp
 rw [s1]
 simp only []
 by_cases c : n = 0
 · subst c
   rw [beq_tt rfl, cond_true]
   exact (OQ_some _ _ _).2 (k _ _ ⟨hl, .inl ⟨rfl, .inr ⟨h.next, Nat.le_refl _, rfl, o1⟩⟩⟩ F1)
 · rw [beq_ff c, cond_false, s2]
   simp only []
   rw [ble_ff (by omega), cond_false, Nat.zero_mul, o1.ld]
   have : takeL 0 (dropL ([] : List V) 0) = some [] := rfl
   rw [this]
   simp only [agrow, Nat.zero_add, List.nil_append]
   rw [(Nat.ble_eq ..).mpr hsz, cond_true]
   refine (OQ_some _ _ _).2 (k _ _ ⟨hl, .inr ⟨(halloc h []).next, F1.next, rfl, Own.new F1.wf xs⟩⟩ (F1.then (Fr.halloc F1.wf xs)))
theorem cloneS_ok {h : Heap} {n : Nat} {x : V} {xs : List V} (w : WF h) (a : ASl h 1 x n xs) (z : nZ x = true) (hn : n ≤ 100000) : Does go 140 [x] h fun u h' => Gn 1 h' h.next u n xs ∧ Fr [] h h' := by
 by_cases c : x = .nils
 · subst c
   have : n = 0 := a.2
   subst this
   have q : aP (.nil 1 false) [.nils, .nils] = some (.bool true) := rfl
   refine does_fn g140 rfl ?_
   simp only [fn140, evs, ↓reduceIte, Nat.reduceEqDiff, q]
   exact ⟨⟨a.1, .inl ⟨rfl, .inl rfl⟩⟩, Fr.refl w⟩
 · refine does_fn g140 rfl ?_
   simp only [fn140, evs, ↓reduceIte, Nat.reduceEqDiff, (a.src z).2.2 c]
   refine clone_core (bytes := 16) w a z (by omega) (by omega) ?_
   intro v' h' g f
   simp only [evs, ↓reduceIte]
   exact ⟨g, f⟩
theorem cloneSlo_ok {h : Heap} {n : Nat} {x : V} {xs : List V} (w : WF h) (a : ASl h 3 x n xs) (z : nZ x = true) (hn : n ≤ 100000) : Does go 92 [x] h fun u h' => Gn 3 h' h.next u n xs ∧ Fr [] h h' := by
 by_cases c : x = .nils
 · subst c
   have : n = 0 := a.2
   subst this
   have q : aP (.nil 1 false) [.nils, .nils] = some (.bool true) := rfl
   refine does_fn g92 rfl ?_
   simp only [fn92, evs, ↓reduceIte, Nat.reduceEqDiff, q]
   exact ⟨⟨a.1, .inl ⟨rfl, .inl rfl⟩⟩, Fr.refl w⟩
 · refine does_fn g92 rfl ?_
   simp only [fn92, evs, ↓reduceIte, Nat.reduceEqDiff, (a.src z).2.2 c]
   refine clone_core (bytes := 40) w a z (by omega) (by omega) ?_
   intro v' h' g f
   simp only [evs, ↓reduceIte]
   exact ⟨g, f⟩
theorem clonePart_ok {h : Heap} {n : Nat} {x : V} {xs : List V} (w : WF h) (a : ASl h 6 x n xs) (z : nZ x = true) (hn : n ≤ 100000) : Does go 93 [x] h fun u h' => Gn 6 h' h.next u n xs ∧ Fr [] h h' := by
 by_cases c : x = .nils
 · subst c
   have : n = 0 := a.2
   subst this
   have q : aP (.nil 1 false) [.nils, .nils] = some (.bool true) := rfl
   refine does_fn g93 rfl ?_
   simp only [fn93, evs, ↓reduceIte, Nat.reduceEqDiff, q]
   exact ⟨⟨a.1, .inl ⟨rfl, .inl rfl⟩⟩, Fr.refl w⟩
 · refine does_fn g93 rfl ?_
   simp only [fn93, evs, ↓reduceIte, Nat.reduceEqDiff, (a.src z).2.2 c]
   refine clone_core (bytes := 104) w a z (by omega) (by omega) ?_
   intro v' h' g f
   simp only [evs, ↓reduceIte]
   exact ⟨g, f⟩
theorem cloneKind_ok {h : Heap} {n : Nat} {x : V} {xs : List V} (w : WF h) (a : ASl h 9 x n xs) (z : nZ x = true) (hn : n ≤ 100000) : Does go 40 [x] h fun u h' => Gn 9 h' h.next u n xs ∧ Fr [] h h' := by
 by_cases c : x = .nils
 · subst c
   have : n = 0 := a.2
   subst this
   have q : aP (.nil 1 false) [.nils, .nils] = some (.bool true) := rfl
   refine does_fn g40 rfl ?_
   simp only [fn40, evs, ↓reduceIte, Nat.reduceEqDiff, q]
   exact ⟨⟨a.1, .inl ⟨rfl, .inl rfl⟩⟩, Fr.refl w⟩
 · refine does_fn g40 rfl ?_
   simp only [fn40, evs, ↓reduceIte, Nat.reduceEqDiff, (a.src z).2.2 c]
   refine clone_core (bytes := 128) w a z (by omega) (by omega) ?_
   intro v' h' g f
   simp only [evs, ↓reduceIte]
   exact ⟨g, f⟩
theorem clipS_ok {h : Heap} {v : V} {n : Nat} {cs : List V} (a : Sl h 1 v n cs) (hv : v ≠ .sliceE) : Does go 139 [v] h fun u h' => (∀ h2, Sl h2 1 v n cs → Sl h2 1 u n cs) ∧ u ≠ .sliceE ∧ h = h' := by
 obtain ⟨u, e, s, ne⟩ := clip_one (by omega) a hv
 refine does_fn g139 rfl ?_
 simp only [fn139, evs, ↓reduceIte, Nat.reduceEqDiff, a.len, e]
 refine ⟨fun h2 a2 => ?_, ne⟩
 obtain ⟨u2, e2, s2, _⟩ := clip_one (by omega) a2 hv
 rw [e] at e2; cases e2; exact s2
def Itm.own (x : Itm) (v : V) : Itm := ⟨x.key, x.type, x.text, x.marks, v⟩
theorem copied_ok {h : Heap} {x : Itm} (w : WF h) (a : ItmH h x) (z : nZ x.vm = true) : Does go 71 [.agg x.cells] h fun u h' => ∃ v, u = .agg (x.own v).cells ∧ Fr [] h h' ∧ v ≠ .sliceE ∧ v.one = true ∧
 ∀ (X : List Nat) (h2 : Heap), (∀ y ∈ X, y < h.next) → Fr X h' h2 → Recs sS 1 h2 v x.marks := by
 obtain ⟨h1, e_h1⟩ : ∃ h1, h1 = halloc h x.cells := ⟨_, rfl⟩
 have F_h1 : Fr [] h h1 := e_h1 ▸ Fr.halloc w _
 have o_h1 : Own h1 h.next x.cells := e_h1 ▸ Own.new w _
 obtain ⟨h2, e_h2⟩ : ∃ h2, h2 = halloc h1 [.int .u64 0, .int .u8 0, .str [], .nils] := ⟨_, rfl⟩
 have F_h2 : Fr [] h1 h2 := e_h2 ▸ Fr.halloc F_h1.wf _
 have o_h2 : Own h2 h1.next [.int .u64 0, .int .u8 0, .str [], .nils] := e_h2 ▸ Own.new F_h1.wf _
 have n1 : h1.next = h.next + 1 := by rw [e_h1]; rfl
 have F02 := F_h1.then F_h2
 have ob := F_h2.get o_h1
 have l3 : hload1 h2 h.next 3 = some x.vm := ob.ld1 3
 refine does_fn g71 rfl ?_
 simp only [fn71, evs, ↓reduceIte, Nat.reduceEqDiff, ← e_h1, ← e_h2, l3]
 refine OQ_does (cloneS_ok F_h2.wf (a.m.fr F02) z (by have := a.n; omega)) ?_
 rintro v1 h3 ⟨g, F3⟩
 simp only [evs]
 refine OQ_does (clipS_ok g.sl g.nE) ?_
 rintro v2 _ ⟨cl, hnE, rfl⟩
 have s2 := cl h3 g.sl
 simp only [evs, ↓reduceIte, Nat.reduceEqDiff]
 refine store_step (c' := (x.own v2).cells) F3.wf (F3.get ob) (by simp [cells_one s2.one]) (by rw [cells_one s2.one]; simp only [onesB_cons, onesB_nil, s2.one]; rfl) (by rw [cells_one s2.one]; rfl) ?_
 rintro h4 o4 F4 n4
 have l4 : hload h4 h.next 0 4 = some (x.own v2).cells := by rw [o4.ld]; rfl
 have oz4 := F4.own _ _ (by simp; omega) (F3.get o_h2)
 simp only [evs, ↓reduceIte, Nat.reduceEqDiff, l4]
 refine store_step (c' := (x.own v2).cells) F4.wf oz4 rfl (by show onesB [.int .u64 (x.key : Int), .int .u8 (x.type : Int), .str x.text, v2] = true; simp only [onesB_cons, onesB_nil, s2.one]; rfl) rfl ?_
 rintro h5 o5 F5 n5
 have l5 : hload h5 h1.next 0 4 = some (x.own v2).cells := by rw [o5.ld]; rfl
 simp only [evs, ↓reduceIte, l5]
 have F04 : Fr [] h h4 := (F02.then F3).fresh F4 w (Nat.le_refl _)
 refine ⟨v2, rfl, F04.fresh F5 w (by omega), hnE, s2.one, fun X h6 hX f => cl h6 ?_⟩
 have n2 : h2.next = h1.next + 1 := by rw [e_h2]; rfl
 have f3 : Fr ([h.next, h1.next] ++ X) h3 h6 := Fr.trans (Fr.trans (T := [h.next, h1.next]) F4 F5 F3.wf (by simp) (by simp)) f F3.wf (fun y hy => .inl (by simp at hy ⊢; omega)) (fun y hy => .inl (by simp [hy]))
 exact (g.fr f3 (by
  intro y hy
  simp at hy
  rcases hy with rfl | rfl | hy
  · omega
  · omega
  · have := hX y hy; omega)).sl
structure Knd where
 k : Nat
 tg : Str
 ky : Str
 sl : List Slo
 tx : Str
 vs : V
 vp : V
 sub : PT
 base : Int
 sticky : Bool
 pool : Int
def Knd.part (q : Knd) : List V := [.int .u8 (q.k : Int), .str q.tg, .str q.ky, q.vs, .str q.tx, q.vp]
def Knd.cells (q : Knd) : List V := q.part ++ [.int .i64 q.base, .bool q.sticky, .int .i64 q.pool]
theorem knd_len (q : Knd) : q.cells.length = 9 := rfl
def KndH (h : Heap) (q : Knd) : Prop := PH h (.cons q.k q.tg q.ky q.sl q.tx q.vs q.vp q.sub .nil)
theorem KndH.fr {h h' : Heap} {q : Knd} (a : KndH h q) (f : Fr [] h h') : KndH h' q := PH.fr f a
theorem KndH.ones {h : Heap} {q : Knd} (a : KndH h q) : onesB q.part = true := PH.ones a
theorem KndH.ones9 {h : Heap} {q : Knd} (a : KndH h q) : onesB q.cells = true := by
 show onesB (q.part ++ _) = true
 rw [onesB_append, a.ones]; rfl
def okB (b : Int) : Bool := decide (1 ≤ b) && decide (b ≤ 2305843009213693952)
def okK (q : Knd) : Bool := okB q.base && decide (PT.count q.k q.tg q.ky q.sl q.tx q.sub ≠ 0)
theorem height_ok {h : Heap} (n : Int) : Does go 88 [.int .i64 n] h fun u h' => u = .bool (okB n) ∧ h = h' := by
 by_cases c : 1 ≤ n
 · refine does_fn g88 rfl ?_
   simp only [fn88, evs, ↓reduceIte, Nat.reduceEqDiff, c]
   simp [okB, c]
 · refine does_fn g88 rfl ?_
   simp only [fn88, evs, ↓reduceIte, Nat.reduceEqDiff, c]
   simp [okB, c]
theorem badK_ok {h : Heap} {q : Knd} (w : WF h) (a : KndH h q) : Does go 87 [.agg q.cells] h fun u h' => u = .bool (!okK q) ∧ Fr [] h h' := by
 obtain ⟨h1, e_h1⟩ : ∃ h1, h1 = halloc h q.cells := ⟨_, rfl⟩
 have F_h1 : Fr [] h h1 := e_h1 ▸ Fr.halloc w _
 have o_h1 : Own h1 h.next q.cells := e_h1 ▸ Own.new w _
 have l6 : hload1 h1 h.next 6 = some (.int .i64 q.base) := o_h1.ld1 6
 have l0 : hload h1 h.next 0 6 = some q.part := by rw [o_h1.ld]; rfl
 refine does_fn g87 rfl ?_
 simp only [fn87, evs, ↓reduceIte, Nat.reduceEqDiff, ← e_h1, l6]
 refine OQ_does (height_ok _) ?_
 rintro _ _ ⟨rfl, rfl⟩
 cases c : okB q.base
 · simp only [evs, ↓reduceIte]
   exact ⟨by simp [okK, c], F_h1⟩
 · simp only [evs, ↓reduceIte, Nat.reduceEqDiff, l0]
   refine OQ_does (tcheck_ok (va := q.vs) (vc := q.vp) F_h1.wf (a.fr F_h1)) ?_
   rintro _ h2 ⟨rfl, F2⟩
   by_cases z : PT.count q.k q.tg q.ky q.sl q.tx q.sub = 0
   · rw [if_pos z]
     simp only [evs, ↓reduceIte]
     exact ⟨by simp [okK, z], F_h1.then F2⟩
   · rw [if_neg z]
     simp only [evs, ↓reduceIte]
     exact ⟨by simp [okK, c, z], F_h1.then F2⟩
theorem indexKd_ok {h : Heap} {v : V} {L : List Knd} (w : WF h) (a : Recs Knd.cells 9 h v L) (hL : ∀ q ∈ L, KndH h q) (hn : L.length ≤ 4096) :
 Does go 164 [v, .func (.func 87) [] []] h fun u h' => ∃ r : Int, u = .int .i64 r ∧ (decide (0 ≤ r) = !L.all okK) ∧ Fr [] h h' := by
 refine does_fn g164 rfl ?_
 simp only [fn164, evs, ↓reduceIte, Nat.reduceEqDiff, Nat.reduceAdd, Int.reduceNeg, Recs.len a]
 refine W_loop (fun k env hh => Fr [] h hh ∧ ∃ (i : Nat), env.get 8 = some (.int .i64 i) ∧ env.get 7 = some (.int .i64 L.length) ∧ env.get 0 = some v ∧ env.get 1 = some (.func (.func 87) [] []) ∧
  i ≤ L.length ∧ (L.drop i).all okK = L.all okK ∧ k = L.length - i) L.length (by omega) ?_ ?_
 · exact ⟨Fr.refl w, 0, (by simp [T.gs]), (by simp [T.gs]), (by simp [T.gs]), (by simp [T.gs]), by omega, rfl, rfl⟩
 · rintro k env hh ⟨F, i, g8, g7, g0, g1, hi, e, rfl⟩
   by_cases hlt : i < L.length
   · have hlt' : (i : Int) < L.length := by omega
     obtain ⟨b, o, s, e1, _, e3, e5⟩ := (Recs.fr a F).ix knd_len .i64 i (by omega) hlt'
     rw [Int.toNat_natCast] at e5
     rw [drop_cons e5, List.all_cons] at e
     have hs := hL s (List.mem_of_getElem? e5)
     simp only [evs, ↓reduceIte, Nat.reduceEqDiff, Nat.reduceLT, Int.reduceNeg, g8, g7, g0, g1, hlt', e1, e3]
     refine OQ_does (badK_ok F.wf (hs.fr F)) ?_
     rintro _ h1 ⟨rfl, F1⟩
     cases c : okK s
     · simp only [evs, ↓reduceIte, Nat.reduceEqDiff, Int.reduceNeg]
       rw [c] at e
       exact ⟨i, rfl, by rw [← e]; simp, F.then F1⟩
     · simp (disch := omega) only [evs, ↓reduceIte, Nat.reduceEqDiff, Int.reduceNeg, fwrap_i64, g8]
       rw [c] at e
       refine (roundQ_norm _ _ _).2 ⟨L.length - (i + 1), by omega, F.then F1, i + 1, (by simp [T.gs]), (by simp [T.gs, g7]), (by simp [T.gs, g0]), (by simp [T.gs, g1]), by omega, by simpa using e, rfl⟩
       done
   · simp only [evs, ↓reduceIte, Int.reduceNeg, g8, g7, show ¬ (i : Int) < L.length by omega]
     rw [List.drop_of_length_le (by omega)] at e
     exact ⟨-1, rfl, by rw [← e]; rfl, F⟩
def okR (L : List Knd) (cap : Int) : Bool := decide (1 ≤ L.length) && (decide (L.length ≤ 8) && (decide (1 ≤ cap) && (decide (cap ≤ 64) && L.all okK)))
theorem valid_ok {h : Heap} {v : V} {L : List Knd} {cap : Int} (w : WF h) (a : Recs Knd.cells 9 h v L) (hL : ∀ q ∈ L, KndH h q) (hn : L.length ≤ 4096) :
 Does go 38 [.agg [v, .int .i64 cap]] h fun u h' => u = .int .i64 (if okR L cap then 0 else 7) ∧ Fr [] h h' := by
 obtain ⟨h1, e_h1⟩ : ∃ h1, h1 = halloc h [v, .int .i64 cap] := ⟨_, rfl⟩
 have F_h1 : Fr [] h h1 := e_h1 ▸ Fr.halloc w _
 have o_h1 : Own h1 h.next [v, .int .i64 cap] := e_h1 ▸ Own.new w _
 have l0 : hload1 h1 h.next 0 = some v := o_h1.ld1 0
 have l1 : hload1 h1 h.next 1 = some (.int .i64 cap) := o_h1.ld1 1
 have len := Recs.len a
 by_cases c0 : L.length < 1
 · refine does_fn g38 rfl ?_
   simp only [fn38, evs, ↓reduceIte, Nat.reduceEqDiff, ← e_h1, l0, len, show (L.length : Int) < 1 by omega]
   exact ⟨by simp [okR]; omega, F_h1⟩
 by_cases c1 : 8 < L.length
 · refine does_fn g38 rfl ?_
   simp only [fn38, evs, ↓reduceIte, Nat.reduceEqDiff, ← e_h1, l0, len, show ¬ (L.length : Int) < 1 by omega, show (8 : Int) < L.length by omega]
   exact ⟨by simp [okR]; omega, F_h1⟩
 by_cases c2 : cap < 1
 · refine does_fn g38 rfl ?_
   simp only [fn38, evs, ↓reduceIte, Nat.reduceEqDiff, ← e_h1, l0, l1, len, show ¬ (L.length : Int) < 1 by omega, show ¬ (8 : Int) < L.length by omega, c2]
   exact ⟨by simp [okR]; omega, F_h1⟩
 by_cases c3 : 64 < cap
 · refine does_fn g38 rfl ?_
   simp only [fn38, evs, ↓reduceIte, Nat.reduceEqDiff, ← e_h1, l0, l1, len, show ¬ (L.length : Int) < 1 by omega, show ¬ (8 : Int) < L.length by omega, c2, c3]
   exact ⟨by simp [okR]; omega, F_h1⟩
 refine does_fn g38 rfl ?_
 simp only [fn38, evs, ↓reduceIte, Nat.reduceEqDiff, ← e_h1, l0, l1, len, show ¬ (L.length : Int) < 1 by omega, show ¬ (8 : Int) < L.length by omega, c2, c3]
 refine OQ_does (?_ : Does go 90 _ _ (fun u h' => u = .bool (!L.all okK) ∧ Fr [] h1 h')) ?_
 · refine does_fn g90 rfl ?_
   simp only [fn90, evs, ↓reduceIte, Nat.reduceEqDiff, Nat.reduceAdd]
   refine OQ_does (indexKd_ok F_h1.wf (Recs.fr a F_h1) (fun q m => (hL q m).fr F_h1) hn) ?_
   rintro _ h2 ⟨r, rfl, e, F2⟩
   simp only [evs, ↓reduceIte]
   exact ⟨by rw [e], F2⟩
 · rintro _ h2 ⟨rfl, F2⟩
   have e : okR L cap = L.all okK := by simp [okR, show 1 ≤ L.length by omega, show L.length ≤ 8 by omega, show 1 ≤ cap by omega, show cap ≤ 64 by omega]
   rw [e]
   cases c4 : L.all okK
   · simp only [evs, ↓reduceIte]
     exact F_h1.then F2
   · simp only [evs, ↓reduceIte]
     exact F_h1.then F2
set_option maxRecDepth 4000
namespace PT
def same : PT → PT → Prop
 | nil, nil => True
 | cons k tg ky sl tx _ _ s n, cons k' tg' ky' sl' tx' _ _ s' n' => k = k' ∧ tg = tg' ∧ ky = ky' ∧ sl = sl' ∧ tx = tx' ∧ same s s' ∧ same n n'
 | _, _ => False
def app : PT → PT → PT
 | nil, t => t
 | cons k tg ky a tx va vc sub nx, t => cons k tg ky a tx va vc sub (nx.app t)
theorem app_cells : ∀ a b : PT, (a.app b).cells = a.cells ++ b.cells
 | nil, _ => rfl
 | cons _ _ _ _ _ _ _ _ nx, b => by simp only [app, cells, app_cells nx b, List.append_assoc]
theorem app_len : ∀ a b : PT, (a.app b).len = a.len + b.len
 | nil, b => by simp [app, len]
 | cons _ _ _ _ _ _ _ _ nx, b => by simp only [app, len, app_len nx b]; omega
theorem same_app : ∀ {a b c d : PT}, same a b → same c d → same (a.app c) (b.app d)
 | nil, nil, _, _, _, h => h
 | cons _ _ _ _ _ _ _ _ _, cons _ _ _ _ _ _ _ _ _, _, _, h, g => ⟨h.1, h.2.1, h.2.2.1, h.2.2.2.1, h.2.2.2.2.1, h.2.2.2.2.2.1, same_app h.2.2.2.2.2.2 g⟩
 | nil, cons _ _ _ _ _ _ _ _ _, _, _, h, _ => h.elim
 | cons _ _ _ _ _ _ _ _ _, nil, _, _, h, _ => h.elim
def take' : PT → Nat → PT
 | _, 0 => nil
 | nil, _ + 1 => nil
 | cons k tg ky a tx va vc sub nx, i + 1 => cons k tg ky a tx va vc sub (nx.take' i)
theorem take_app : ∀ (t : PT) (i : Nat), (t.take' i).app (t.at' i) = t
 | nil, 0 => rfl
 | nil, _ + 1 => rfl
 | cons _ _ _ _ _ _ _ _ _, 0 => rfl
 | cons _ _ _ _ _ _ _ _ nx, i + 1 => by simp only [take', at', app, take_app nx i]
theorem take_succ {t : PT} {i k : Nat} {tg ky tx : Str} {sl : List Slo} {va vc : V} {sub nx : PT} (h : t.at' i = cons k tg ky sl tx va vc sub nx) : t.take' (i + 1) = (t.take' i).app (cons k tg ky sl tx va vc sub nil) := by
 induction i generalizing t with
 | zero =>
  cases t with
  | nil => cases h
  | cons _ _ _ _ _ _ _ _ nx' => cases h; cases nx <;> rfl
 | succ i ih =>
  cases t with
  | nil => cases h
  | cons _ _ _ _ _ _ _ _ nx' =>
   simp only [take', app]
   rw [ih h]
end PT
theorem PH.app {h : Heap} : ∀ {a b : PT}, PH h a → PH h b → PH h (a.app b)
 | .nil, _, _, q => q
 | .cons _ _ _ _ _ _ _ _ _, _, ⟨x1, x2, x3, x4, x5, x6, x7⟩, q => ⟨x1, x2, x3, x4, x5, x6, PH.app x7 q⟩
def PCp (k : Nat) (tg ky : Str) (sl : List Slo) (tx : Str) (vs vp : V) (sub : PT) : Prop := ∀ (h : Heap), WF h → PH h (.cons k tg ky sl tx vs vp sub .nil) →
 Does go 41 [.agg [.int .u8 (k : Int), .str tg, .str ky, vs, .str tx, vp]] h fun u h' => ∃ vs' vp' sub', u = .agg [.int .u8 (k : Int), .str tg, .str ky, vs', .str tx, vp'] ∧ PT.same sub sub' ∧ Fr [] h h' ∧
  ∀ (X : List Nat) (h2 : Heap), (∀ y ∈ X, y < h.next) → Fr X h' h2 → PH h2 (.cons k tg ky sl tx vs' vp' sub' .nil)
def PCs : PT → Prop
 | .nil => True
 | .cons k tg ky sl tx vs vp sub nx => PCp k tg ky sl tx vs vp sub ∧ PCs nx
theorem PCs.at' : ∀ {t : PT} (i : Nat), PCs t → PCs (t.at' i)
 | .nil, 0, _ => trivial
 | .nil, _ + 1, _ => trivial
 | .cons _ _ _ _ _ _ _ _ _, 0, a => a
 | .cons _ _ _ _ _ _ _ _ _, i + 1, ⟨_, g⟩ => PCs.at' i g
theorem Gn.frH {e : Nat} {h h' : Heap} {B n : Nat} {v : V} {cs : List V} {X : List Nat} (w : WF h) (g : Gn e h B v n cs) (f : Fr X h h') (hx : ∀ x ∈ X, x < B ∨ h.next ≤ x) : Gn e h' B v n cs := by
 obtain ⟨hl, ⟨rfl, rfl | ⟨b, hb, rfl, o⟩⟩ | ⟨b, hb, rfl, o⟩⟩ := g
 · exact ⟨hl, .inl ⟨rfl, .inl rfl⟩⟩
 · exact ⟨hl, .inl ⟨rfl, .inr ⟨b, hb, rfl, f.own _ _ (fun m => by have := hx _ m; have := o.lt w; omega) o⟩⟩⟩
 · exact ⟨hl, .inr ⟨b, hb, rfl, f.own _ _ (fun m => by have := hx _ m; have := o.lt w; omega) o⟩⟩
theorem tpart_ok {k : Nat} {tg ky : Str} {sl : List Slo} {tx : Str} {vs vp : V} {sub : PT} (P : PCs sub) : PCp k tg ky sl tx vs vp sub := by
 intro h w ⟨hk, rs, ls, sp, lp, ph, _⟩
 have zs : nZ vs = true := by cases vs <;> first | rfl | exact rs.2.elim
 have zp : nZ vp = true := by cases vp <;> first | rfl | exact sp.2.elim
 obtain ⟨h1, e_h1⟩ : ∃ h1, h1 = halloc h [.int .u8 (k : Int), .str tg, .str ky, vs, .str tx, vp] := ⟨_, rfl⟩
 have F_h1 : Fr [] h h1 := e_h1 ▸ Fr.halloc w _
 have o_h1 : Own h1 h.next [.int .u8 (k : Int), .str tg, .str ky, vs, .str tx, vp] := e_h1 ▸ Own.new w _
 obtain ⟨h2, e_h2⟩ : ∃ h2, h2 = halloc h1 [.int .u8 0, .str [], .str [], .nils, .str [], .nils] := ⟨_, rfl⟩
 have F_h2 : Fr [] h1 h2 := e_h2 ▸ Fr.halloc F_h1.wf _
 have o_h2 : Own h2 h1.next [.int .u8 0, .str [], .str [], .nils, .str [], .nils] := e_h2 ▸ Own.new F_h1.wf _
 have n1 : h1.next = h.next + 1 := by rw [e_h1]; rfl
 have n2 : h2.next = h1.next + 1 := by rw [e_h2]; rfl
 have F02 := F_h1.then F_h2
 have ob := F_h2.get o_h1
 have l3 : hload1 h2 h.next 3 = some vs := ob.ld1 3
 have l5 : hload1 h2 h.next 5 = some vp := ob.ld1 5
 refine does_fn g41 rfl ?_
 simp only [fn41, evs, ↓reduceIte, Nat.reduceEqDiff, ← e_h1, ← e_h2, l3]
 refine OQ_does (cloneSlo_ok F_h2.wf (Sl.a (Recs.fr rs F02)) zs (by omega)) ?_
 rintro vs' h3 ⟨gs, F3⟩
 simp only [evs, ↓reduceIte, Nat.reduceEqDiff]
 refine store_step (c' := [.int .u8 (k : Int), .str tg, .str ky, vs', .str tx, vp]) F3.wf (F3.get ob) (by simp [cells_one gs.one]) (by rw [cells_one gs.one]; simp only [onesB_cons, onesB_nil, gs.one]; rfl) (by rw [cells_one gs.one]; rfl) ?_
 rintro h4 o4 F4 n4
 have F04 : Fr [] h h4 := (F02.then F3).fresh F4 w (Nat.le_refl _)
 have l5' : hload1 h4 h.next 5 = some vp := o4.ld1 5
 simp only [evs, ↓reduceIte, Nat.reduceEqDiff, l5']
 refine OQ_does (clonePart_ok F4.wf (Sl.a (sp.fr F04)) zp (by omega)) ?_
 rintro vp' h5 ⟨gp, F5⟩
 simp only [evs, ↓reduceIte, Nat.reduceEqDiff]
 refine store_step (c' := [.int .u8 (k : Int), .str tg, .str ky, vs', .str tx, vp']) F5.wf (F5.get o4) (by simp [cells_one gp.one]) (by rw [cells_one gp.one]; simp only [onesB_cons, onesB_nil, gp.one]; rfl) (by rw [cells_one gp.one]; rfl) ?_
 rintro h6 o6 F6 n6
 have l56 : hload1 h6 h.next 5 = some vp' := o6.ld1 5
 have hn3 := F3.next
 have gp6 := gp.fr F6 (by simp; omega)
 simp only [evs, ↓reduceIte, Nat.reduceEqDiff, l56, gp6.sl.len]
 have F06 : Fr [] h h6 := (F04.then F5).fresh F6 w (Nat.le_refl _)
 have oz6 : Own h6 h1.next [.int .u8 0, .str [], .str [], .nils, .str [], .nils] := F6.own _ _ (by simp; omega) (F5.get (F4.own _ _ (by simp; omega) (F3.get o_h2)))
 have F26 : Fr [h.next] h3 h6 := Fr.trans (Fr.trans (T := [h.next]) F4 F5 F3.wf (by simp) (by simp)) F6 F3.wf (by simp) (by simp)
 have gs6 : Gn 3 h6 h2.next vs' sl.length (sl.flatMap sloC) := gs.fr F26 (by simp; omega)
 have vpl : ∀ y ∈ vb vp', h4.next ≤ y ∧ y < h6.next := by
  obtain ⟨_, ⟨_, rfl | ⟨b, _, rfl, _⟩⟩ | ⟨b, hb, rfl, o⟩⟩ := gp6
  · simp [vb]
  · simp [vb]
  · have := o.lt F6.wf
    simp only [vb, List.mem_singleton]; rintro y rfl; exact ⟨hb, this⟩
 refine W_loop (fun n env hh => Fr [] h hh ∧ h6.next ≤ hh.next ∧ Own hh h.next [.int .u8 (k : Int), .str tg, .str ky, vs', .str tx, vp'] ∧ Own hh h1.next [.int .u8 0, .str [], .str [], .nils, .str [], .nils] ∧ (∃ X3 : List Nat, (∀ y ∈ X3, y < h2.next ∨ h3.next ≤ y) ∧ Fr X3 h3 hh) ∧
  ∃ (i : Nat) (d : PT), env.get 15 = some (.int .i64 i) ∧ env.get 14 = some (.int .i64 sub.len) ∧ env.get 1 = some (.ptr h.next 0) ∧ env.get 2 = some (.ptr h1.next 0) ∧ i ≤ sub.len ∧ d.len = i ∧ PT.same (sub.take' i) d ∧
  Gn 6 hh h4.next vp' sub.len (d.cells ++ sub.cells.drop (i * 6)) ∧ (∀ (X : List Nat) (h2 : Heap), (∀ y ∈ X, y < h.next ∨ y = h.next ∨ y = h1.next ∨ y ∈ vb vp') → Fr X hh h2 → PH h2 d) ∧ n = sub.len - i) sub.len (by omega) ?_ ?_
 · exact ⟨F06, Nat.le_refl _, o6, oz6, ⟨_, by simp; omega, F26⟩, 0, .nil, (by simp [T.gs]), (by simp [T.gs]), (by simp [T.gs]), (by simp [T.gs]), by omega, rfl, by cases sub <;> trivial, by simpa [PT.cells] using gp6, fun _ _ _ _ => trivial, rfl⟩
 · rintro n env hh ⟨F, hn, ox, oz, ⟨X3, hX3, fX3⟩, i, d, g15, g14, g1, g2, hi, dl, ds, gph, dst, rfl⟩
   have lx : hload1 hh h.next 5 = some vp' := ox.ld1 5
   by_cases hlt : i < sub.len
   · have hlt' : (i : Int) < sub.len := by omega
     obtain ⟨kc, tgc, kyc, slc, txc, vsc, vpc, sb, nx, e1, e2, e3, e4, e5, e6⟩ := sub.split i hlt
     have Pi := P.at' i
     have phi := ph.at' i
     rw [e1] at Pi phi
     obtain ⟨_, ⟨z, _⟩ | ⟨bp, hbp, rfl, obp⟩⟩ := gph
     · omega
     have dc := d.cells_len
     rw [dl] at dc
     have q0 : ∀ Y : List V, (d.cells ++ Y).drop (i * 6) = Y := fun Y => by rw [← dc, List.drop_left]
     have q1 : ∀ Y : List V, (d.cells ++ Y).take (i * 6) = d.cells := fun Y => by rw [← dc, List.take_left]
     have q2 : ∀ Y : List V, (d.cells ++ Y).drop (i * 6 + 6) = Y.drop 6 := fun Y => by rw [← dc, List.drop_length_add_append]
     have ix := aP_ixU 6 bp 0 sub.len 6 .i64 (i : Int) (by omega) hlt'
     simp only [Int.toNat_natCast, Nat.zero_add] at ix
     have lc : hload hh bp (i * 6) 6 = some [.int .u8 (kc : Int), .str tgc, .str kyc, vsc, .str txc, vpc] := by
      rw [obp.ld, dropL_eq, q0, e2]; rfl
     have hb := vpl bp (by simp [vb])
     simp only [evs, ↓reduceIte, Nat.reduceEqDiff, eff, g15, g14, g1, hlt', lx, ix, lc]
     refine OQ_does (Pi.1 hh F.wf (PH.fr F ⟨phi.1, phi.2.1, phi.2.2.1, phi.2.2.2.1, phi.2.2.2.2.1, phi.2.2.2.2.2.1, trivial⟩)) ?_
     rintro _ h7 ⟨vs2, vp2, sb2, rfl, sm, F7, st2⟩
     have lx7 : hload1 h7 h.next 5 = some (.sliceU bp 0 sub.len 6) := (F7.get ox).ld1 5
     have on : onesB [.int .u8 (kc : Int), .str tgc, .str kyc, vs2, .str txc, vp2] = true := PH.ones (st2 [] h7 (by simp) (Fr.refl F7.wf))
     simp only [evs, eff, ix]
     have eC : updO (d.cells ++ sub.cells.drop (i * 6)) (i * 6) [.int .u8 (kc : Int), .str tgc, .str kyc, vs2, .str txc, vp2] = some ((d.app (.cons kc tgc kyc slc txc vs2 vp2 sb2 .nil)).cells ++ sub.cells.drop ((i + 1) * 6)) := by
      rw [updO_at _ _ _ (by rw [List.length_append, dc, e2]; simp), PT.app_cells]
      congr 1
      show _ ++ _ ++ (d.cells ++ sub.cells.drop (i * 6)).drop (i * 6 + 6) = _
      rw [q1, q2, List.drop_drop, show i * 6 + 6 = (i + 1) * 6 by omega]; simp [PT.cells]
     refine store_step F7.wf (F7.get obp) rfl on eC ?_
     rintro h8 o8 F8 n8
     have hn7 := F7.next
     have F08 : Fr [] h h8 := (F.then F7).fresh F8 w (by omega)
     simp (disch := omega) only [evs, ↓reduceIte, Nat.reduceEqDiff, Nat.reduceAdd, DF, Nat.reduceSub, fwrap_i64, g15, lx, lx7, lc]
     refine (roundQ_norm _ _ _).2 ⟨sub.len - (i + 1), by omega, F08, by omega, F8.own _ _ (by simp; omega) (F7.get ox), F8.own _ _ (by simp; omega) (F7.get oz), ⟨X3 ++ [bp], ?_, Fr.trans (Fr.trans fX3 F7 F3.wf (fun y hy => .inl (by simp [hy])) (by simp)) F8 F3.wf (fun y hy => .inl hy) (fun y hy => .inl (by simp at hy; simp [hy]))⟩, i + 1, _, (by simp [T.gs]), (by simp [T.gs, g14]), (by simp [T.gs, g1]), (by simp [T.gs, g2]), by omega, ?_, ?_, ⟨?_, .inr ⟨bp, hbp, rfl, o8⟩⟩, ?_, rfl⟩
     · intro y hy
       simp at hy
       rcases hy with hy | rfl
       · exact hX3 y hy
       · exact .inr (by omega)
     · rw [PT.app_len, dl]; rfl
     · rw [PT.take_succ e1]; exact PT.same_app ds ⟨rfl, rfl, rfl, rfl, rfl, sm, trivial⟩
     · rw [List.length_append, PT.app_cells, List.length_append, dc, List.length_drop, PT.cells_len, PT.cells_len]; simp only [PT.len]; omega
     · intro X h9 hX f9
       have f79 : Fr ([bp] ++ X) h7 h9 := Fr.trans F8 f9 F7.wf (fun y hy => .inl (by simp at hy; simp [hy])) (fun y hy => .inl (by simp [hy]))
       have fh9 : Fr ([bp] ++ X) hh h9 := Fr.trans F7 f79 F.wf (by simp) (fun y hy => .inl hy)
       refine PH.app (dst _ h9 ?_ fh9) (st2 _ h9 ?_ f79)
       · intro y hy
         simp at hy
         rcases hy with rfl | hy
         · exact .inr (.inr (.inr (by simp [vb])))
         · exact hX y hy
       · intro y hy
         simp at hy
         rcases hy with rfl | hy
         · omega
         · rcases hX y hy with q | q | q | q
           · omega
           · omega
           · omega
           · simp [vb] at q; omega
   · have hi' : i = sub.len := by omega
     have gsh := gs.frH F3.wf fX3 hX3
     have l6 := ox.at6.2.2.2.2.2.2
     have vp1 := gph.one
     have vs1 := gsh.one
     simp only [evs, ↓reduceIte, Nat.reduceEqDiff, g15, g14, g1, g2, show ¬ (i : Int) < sub.len by omega, l6]
     refine store_step (c' := [.int .u8 (k : Int), .str tg, .str ky, vs', .str tx, vp']) F.wf oz rfl (by simp only [V.cells, onesB_cons, onesB_nil, vs1, vp1]; rfl) rfl ?_
     rintro h7 o7 F7 n7
     simp only [evs, ↓reduceIte, Nat.reduceEqDiff, g2, o7.at6.2.2.2.2.2.2]
     subst hi'
     rw [List.drop_of_length_le (by rw [PT.cells_len]; omega), List.append_nil] at gph
     have te : sub.take' sub.len = sub := by
      have := PT.take_app sub sub.len
      rw [PT.at_end _ _ (Nat.le_refl _)] at this
      have an : ∀ t : PT, t.app .nil = t := by
       intro t
       induction t with
       | nil => rfl
       | cons _ _ _ _ _ _ _ _ nx _ ih => simp only [PT.app, ih]
      rw [an] at this; exact this
     rw [te] at ds
     refine ⟨vs', vp', d, rfl, ds, F.fresh F7 w (by omega), fun X h8 hX f8 => ?_⟩
     have f : Fr ([h1.next] ++ X) hh h8 := Fr.trans F7 f8 F.wf (fun y hy => .inl (by simp at hy; simp [hy])) (fun y hy => .inl (by simp [hy]))
     have a1 := gsh.fr f (by
      intro y hy
      simp at hy
      rcases hy with rfl | hy
      · omega
      · have := hX y hy; omega)
     have a2 := gph.fr f (by
      intro y hy
      simp at hy
      rcases hy with rfl | hy
      · omega
      · have := hX y hy; omega)
     refine ⟨hk, a1.sl, ls, by rw [dl]; exact a2.sl, by omega, dst _ h8 ?_ f, trivial⟩
     intro y hy
     simp at hy
     rcases hy with rfl | hy
     · exact .inr (.inr (.inl rfl))
     · exact .inl (hX y hy)
theorem pcs : ∀ t : PT, PCs t
 | .nil => trivial
 | .cons _ _ _ _ _ _ _ sub nx => ⟨tpart_ok (pcs sub), pcs nx⟩
set_option maxRecDepth 4000
theorem fCopy_ok {h : Heap} {b : Nat} {bs : List Bool} (w : WF h) (f : Fl h b bs) : Does go 109 [.ptr b 0] h fun u h' => ∃ c, u = .ptr c 0 ∧ h.next ≤ c ∧ Fl h' c bs ∧ Fr [] h h' := by
 obtain ⟨ws, o, ok, hn⟩ := f
 have q2 : hload h b 0 66 = some (flc (bs.length : Int) (bs.count true : Int) ws) := by
  rw [o.ld, dropL_eq, takeL_at _ _ (by simp [flc_len, ok.len])]
  rw [List.drop_zero, List.take_of_length_le (by simp [flc_len, ok.len])]
 have lf : (flc (bs.length : Int) (bs.count true : Int) ws).length = 66 := by simp [flc_len, ok.len]
 have on : onesB (flc (bs.length : Int) (bs.count true : Int) ws) = true := by
  unfold flc
  have : ∀ l : List Nat, onesB (l.map uw) = true := fun l => by induction l with
   | nil => rfl
   | cons x l ih => simp only [List.map_cons]; rw [onesB]; simp [uw, V.one]
  rw [onesB_cons, onesB_cons, this]; rfl
 refine does_fn g109 rfl ?_
 simp only [fn109, evs, ↓reduceIte, Nat.reduceEqDiff, q2]
 refine store_step (c' := flc (bs.length : Int) (bs.count true : Int) ws) (Fr.halloc w _).wf (Own.new w _) lf on (by rw [updO_at _ _ _ (by rw [V.cells, lf]; simp)]; simp [V.cells, lf]) ?_
 rintro h3 o3 F3 n3
 simp only [evs, ↓reduceIte]
 exact ⟨h.next, rfl, Nat.le_refl _, ⟨ws, o3, ok, hn⟩, (Fr.halloc w _).fresh F3 w (Nat.le_refl _)⟩
def cutB (n : Nat) (a k : Int) : Prop := a < 0 ∨ k < 0 ∨ (n : Int) < a ∨ (n : Int) - a < k
instance (n : Nat) (a k : Int) : Decidable (cutB n a k) := by unfold cutB; infer_instance
def movB (n : Nat) (a k t : Int) : Prop := cutB n a k ∨ t < 0 ∨ (n : Int) - k < t
instance (n : Nat) (a k t : Int) : Decidable (movB n a k t) := by unfold movB; infer_instance
def remL {α : Type} (l : List α) (a k : Nat) : List α := l.take a ++ (l.drop a).drop k
def rmv (a n : Int) (f : Int → Bool) (x : Int) : Bool := if x < a then f x else f (x + n)
theorem remL_len {α : Type} {l : List α} {a k : Nat} (h : a + k ≤ l.length) : (remL l a k).length = l.length - k := by
 unfold remL; simp; omega
theorem remL_get {α : Type} {l : List α} {a k : Nat} (h : a ≤ l.length) (i : Nat) : (remL l a k)[i]? = if i < a then l[i]? else l[i + k]? := by
 unfold remL
 by_cases c : i < a
 · rw [List.getElem?_append_left (by simp; omega), List.getElem?_take, if_pos c, if_pos c]
 · rw [List.getElem?_append_right (by simp; omega), if_neg c, List.getElem?_drop, List.getElem?_drop]
   congr 1
   simp; omega
theorem remL_getD {l : List Bool} {a k : Nat} (h : a ≤ l.length) (i : Nat) : (remL l a k).getD i false = if i < a then l.getD i false else l.getD (i + k) false := by
 rw [List.getD_eq_getElem?_getD, remL_get h]
 split <;> simp [List.getD_eq_getElem?_getD]
theorem cut_nat {n : Nat} {a k : Int} (c : ¬ cutB n a k) : 0 ≤ a ∧ 0 ≤ k ∧ a.toNat + k.toNat ≤ n := by
 unfold cutB at c; omega
theorem Kn.rem {L L' : List (Int × Int)} {ks : List Bool} {a k : Int} (K : Kn L ks) (c : ¬ cutB ks.length a k) (ok : SOK L' (-1)) (e : ∀ x, inS L' x = rmv a k (inS L) x) (le : ∀ s ∈ L', s.2 ≤ (ks.length : Int) - k) : Kn L' (remL ks a.toNat k.toNat) := by
 obtain ⟨c0, c1, c2⟩ := cut_nat c
 have hl := remL_len c2
 refine ⟨ok, fun s hs => by rw [hl]; have := le s hs; omega, fun i => ?_⟩
 rw [e, remL_getD (by omega)]
 unfold rmv
 by_cases q : (i : Int) < a
 · rw [if_pos q, if_pos (by omega), K.eq]
 · rw [if_neg q, if_neg (by omega), show (i : Int) + k = ((i + k.toNat : Nat) : Int) by omega, K.eq]
def LoP (h : Heap) (b : Nat) (pm : Option Nat) (l : List Int) (ks bs : List Bool) : Prop := ∃ p vk, Own h b [pv p, vk, pv pm] ∧ vk.one = true ∧ Ix h (.agg [pv p, vk]) l ks ∧ Mk h pm bs ∧ bs.length = l.length
theorem LoP.lo {h : Heap} {b : Nat} {pm : Option Nat} {l : List Int} {ks bs : List Bool} (a : LoP h b pm l ks bs) : Lo h b l ks bs := by
 obtain ⟨p, vk, x⟩ := a; exact ⟨p, vk, pm, x⟩
theorem Lo.p {h : Heap} {b : Nat} {l : List Int} {ks bs : List Bool} (a : Lo h b l ks bs) : ∃ pm, LoP h b pm l ks bs := by
 obtain ⟨p, vk, pm, x⟩ := a; exact ⟨pm, p, vk, x⟩
theorem LoP.fr {h h' : Heap} {b : Nat} {pm : Option Nat} {l : List Int} {ks bs : List Bool} (a : LoP h b pm l ks bs) (f : Fr [] h h') : LoP h' b pm l ks bs := by
 obtain ⟨p, vk, o, v1, ix, mk, e⟩ := a; exact ⟨p, vk, f.get o, v1, ix.fr f, mk.fr f, e⟩
abbrev FrQ (b : Nat) (pm : Option Nat) (h h' : Heap) : Prop := Fr (b :: pm.toList) h h'
theorem frQ {h h' : Heap} {b : Nat} {pm : Option Nat} (f : Fr [] h h') : FrQ b pm h h' := ⟨f.next, f.wf, fun _ _ _ o => f.get o, fun _ _ _ o => f.pl _ _ (by simp) o, f.lp, f.ro⟩
theorem FrQ.b {h h1 h2 : Heap} {b : Nat} {pm : Option Nat} (a : FrQ b pm h h1) (f : Fr [b] h1 h2) (w : WF h) : FrQ b pm h h2 := Fr.trans a f w (fun x hx => .inl hx) (fun x hx => .inl (by simp at hx; simp [hx]))
theorem FrQ.q {h h1 h2 : Heap} {b q : Nat} {pm : Option Nat} (a : FrQ b pm h h1) (f : Fr [q] h1 h2) (w : WF h) (hq : pm = some q ∨ h.next ≤ q) : FrQ b pm h h2 := by
 refine Fr.trans a f w (fun x hx => .inl hx) (fun x hx => ?_)
 simp at hx; subst hx
 rcases hq with e | e
 · left; simp [e]
 · exact .inr e
theorem FrQ.then {h h1 h2 : Heap} {b : Nat} {pm : Option Nat} (a : FrQ b pm h h1) (f : Fr [] h1 h2) (w : WF h) : FrQ b pm h h2 := Fr.trans a f w (fun x hx => .inl hx) (by simp)
theorem LInsQ_ok {h : Heap} {b : Nat} {pm : Option Nat} {l m : List Int} {ks bs st : List Bool} {i : Int} {u v : V} (w : WF h) (a : LoP h b pm l ks bs) (am : Ints h u m) (as : Bools h v st) (hm : m.length ≤ 1000000) (hst : st.length = m.length) (i0 : -9223372036854775808 ≤ i) (i1 : i ≤ 9223372036854775807) :
 Does go 167 [.ptr b 0, .int .i64 i, u, v] h fun z h' => z = .int .i64 (xinsE l i m) ∧ FrQ b pm h h' ∧ ∃ pm', (pm' = pm ∨ (pm = none ∧ ∀ q, pm' = some q → h.next ≤ q)) ∧ (if xinsE l i m = 0 then LoP h' b pm' (l.take i.toNat ++ m ++ l.drop i.toNat) (ks.take i.toNat ++ List.replicate m.length false ++ ks.drop i.toNat) (bs.take i.toNat ++ st ++ bs.drop i.toNat) else LoP h' b pm' l ks bs) := by
 have al := a
 obtain ⟨p, vk, o, v1, ix, mk, e⟩ := a
 have hle : ((m.length : Nat) : Int) = st.length := by omega
 refine does_fn g167 rfl ?_
 simp only [fn167, evs, ↓reduceIte, Nat.reduceEqDiff, Nat.reduceAdd, am.len, as.len, eq_true hle, o.ld]
 refine OQ_does (XIns_ok w ix am hm i0 i1) ?_
 rintro _ h1 ⟨F1, c, d, rfl, hc, hd, hx⟩
 obtain ⟨h2, e_h2⟩ : ∃ h2, h2 = halloc h1 [.nilp, .nils] := ⟨_, rfl⟩
 have F_h2 : Fr [] h1 h2 := e_h2 ▸ Fr.halloc F1.wf _
 have o_h2 : Own h2 h1.next [.nilp, .nils] := e_h2 ▸ Own.new F1.wf _
 simp only [evs, ↓reduceIte, ← e_h2]
 refine store_step (c' := [c, d]) F_h2.wf o_h2 rfl (by simp [onesB, V.cells, hc, hd]) rfl ?_
 rintro h3 o3 F3 n3
 have F13 : Fr [] h1 h3 := F_h2.fresh F3 F1.wf (Nat.le_refl _)
 have F03 := F1.then F13
 by_cases z : xinsE l i m = 0
 · have ix' := hx z
   obtain ⟨p', rfl⟩ := ix'.form
   have hi : 0 ≤ i ∧ i ≤ l.length ∧ l.length + m.length ≤ 1024 := by
    unfold xinsE at z
    by_cases c1 : 0 ≤ i ∧ i ≤ l.length
    · rw [if_pos c1] at z
      by_cases c2 : 1024 - (l.length : Int) < m.length
      · rw [if_pos c2] at z; omega
      · omega
    · rw [if_neg c1] at z; omega
   by_cases c0 : (m.length : Int) = 0
   · have hm0 : m = [] := List.length_eq_zero_iff.1 (by omega)
     have hs0 : st = [] := List.length_eq_zero_iff.1 (by omega)
     subst hm0 hs0
     simp only [evs, ↓reduceIte, Nat.reduceEqDiff, eq_true z, am.len]
     refine ⟨frQ F03, pm, .inl rfl, ?_⟩
     simpa using al.fr F03
   · obtain ⟨k, rfl⟩ : ∃ k : Nat, i = k := ⟨i.toNat, by omega⟩
     simp only [Int.toNat_natCast] at hx ix' ⊢
     have blt : b < h1.next := Nat.lt_of_lt_of_le (o.lt w) F1.next
     have niv := ix.noint
     have nbv := ix.nobool
     -- the marks are there
     cases pm
     case' none =>
      have mk : bs = [] := mk
      simp only [evs, ↓reduceIte, Nat.reduceEqDiff, eq_true z, am.len, eq_false c0, (F03.get o).ld1, pv_none]
      refine OQ_does (fNew_ok F13.wf) ?_
      rintro _ h4 ⟨q, rfl, hq, fl4, F4⟩
      simp only [evs, ↓reduceIte, Nat.reduceEqDiff]
      have F04 := F03.then F4
      refine store_step (c' := [pv p, vk, .ptr q 0]) F4.wf (F04.get o) rfl rfl rfl ?_
      rintro H oH F5 n5
      have FH : FrQ b none h H := (frQ F04).b F5 w
      have hqq : (none : Option Nat) = some q ∨ h.next ≤ q := .inr (Nat.le_trans F03.next hq)
      have hpq : some q = (none : Option Nat) ∨ ((none : Option Nat) = none ∧ ∀ q', some q = some q' → h.next ≤ q') := .inr ⟨rfl, fun q' e => by cases e; exact Nat.le_trans F03.next hq⟩
      have flH : Fl H q bs := Mk.frb (pm := some q) (show Mk h4 (some q) bs from mk ▸ fl4) F5 (F04.get o) rfl
      have ixH := (ix'.fr (F13.then F4)).frb F5 (F04.get o) (by simp) (nosp (noInt niv))
      have oxH := F5.own _ _ (by simp; omega) (F4.get o3)
      have stH := Bools.frl (as.fr F04) F5 (F04.get o) oH (nobool nbv) rfl
      have wfH := F5.wf
      simp only [evs, ↓reduceIte, Nat.reduceEqDiff, oH.ld1, am.len]
     case' some q =>
      have flH : Fl h3 q bs := Fl.fr mk F03
      obtain ⟨H, eH⟩ : ∃ H, H = h3 := ⟨h3, rfl⟩
      have oH : Own H b [pv p, vk, .ptr q 0] := eH ▸ F03.get o
      have FH : FrQ b (some q) h H := eH ▸ frQ F03
      have hqq : some q = some q ∨ h.next ≤ q := .inl rfl
      have hpq : some q = some q ∨ (some q = none ∧ ∀ q', some q = some q' → h.next ≤ q') := .inl rfl
      have ixH := eH ▸ ix'.fr F13
      have oxH := eH ▸ o3
      have stH := eH ▸ as.fr F03
      have wfH : WF H := eH ▸ F13.wf
      rw [← eH] at flH
      simp only [evs, ↓reduceIte, Nat.reduceEqDiff, eq_true z, am.len, eq_false c0, (F03.get o).ld1, pv_some]
      rw [← eH]
     all_goals
      have qb : q ≠ b := by
       rintro rfl
       obtain ⟨ws, oq, ok, _⟩ := flH
       have := congrArg List.length (oq.uniq oH)
       rw [flc_len, ok.len] at this; simp at this
      refine OQ_does (fIns_ok (a := k) (n := m.length) (v := false) wfH flH (by omega) (by omega)) ?_
      rintro _ h6 ⟨rfl, fl6, F6⟩
      have o6b := F6.own _ _ (by simp; omega) oH
      have ix6 := ixH.frf F6 flH
      have qx : q ≠ h1.next := by
       rintro rfl
       obtain ⟨ws, oq, ok, _⟩ := flH
       have := congrArg List.length (oq.uniq oxH)
       rw [flc_len, ok.len] at this; simp at this
      have ox6 := F6.own _ _ (by simp; omega) oxH
      have st6 : Bools h6 v st := by
       obtain ⟨ws, oq, ok, _⟩ := flH
       obtain ⟨ws', oq', ok', _⟩ := fl6
       exact Bools.frb stH F6 oq oq' (by rw [ok'.len, ok.len])
      simp only [evs, ↓reduceIte, Nat.reduceEqDiff, ox6.ld]
      refine store_step (c' := [pv p', d, .ptr q 0]) F6.wf o6b rfl (by simp [onesB, V.cells, hc, hd]) rfl ?_
      rintro h7 o7 F7 n7
      have fl7 : Fl h7 q _ := Mk.frb (pm := some q) fl6 F7 o6b rfl
      have ix7 := ix6.frb F7 o6b (by simp) (nosp (noInt (pm := some q) niv))
      have st7 := Bools.frl st6 F7 o6b o7 (nobool (pm := some q) nbv) rfl
      have F07 := (FH.q F6 w hqq).b F7 w
      simp only [evs, ↓reduceIte, Nat.reduceEqDiff, st7.len]
      obtain ⟨PP, hPP, hPq, hPw, hP0⟩ : ∃ PP : Heap → Prop, PP h7 ∧ (∀ h1 h2, PP h1 → Fr [q] h1 h2 → PP h2) ∧ (∀ h1, PP h1 → WF h1) ∧ (∀ h1, PP h1 → FrQ b _ h h1) := ⟨_, F07, fun h1 h2 x f => FrQ.q x f w hqq, fun h1 x => Fr.wf x, fun h1 x => x⟩
      refine W_loop (fun n env hh => ∃ j : Nat, env.get 71 = some (.int .i64 j) ∧ env.get 70 = some (.int .i64 st.length) ∧ env.get 69 = some v ∧ env.get 0 = some (.ptr b 0) ∧ env.get 1 = some (.int .i64 k) ∧ j ≤ st.length ∧ PP hh ∧
       Own hh b [pv p', d, .ptr q 0] ∧ Fl hh q (bs.take k ++ (st.take j ++ List.replicate (st.length - j) false) ++ bs.drop k) ∧ Ix hh (.agg [pv p', d]) (l.take k ++ m ++ l.drop k) (ks.take k ++ List.replicate m.length false ++ ks.drop k) ∧ Bools hh v st ∧ n = st.length - j) st.length (by omega) ?_ ?_
      · exact ⟨0, (by simp [T.gs]), (by simp [T.gs]), (by simp [T.gs]), (by simp [T.gs]), (by simp [T.gs]), by omega, hPP, o7, by simpa [hst] using fl7, ix7, st7, rfl⟩
      · rintro n env hh ⟨j, g71, g70, g69, g0, g1, hj, FF, oo, ff, ii, ss, rfl⟩
        by_cases hlt : (j : Int) < st.length
        · obtain ⟨bb, oo', x, q1, q2, q3⟩ := ss.ix .i64 j (by omega) hlt
          simp only [Int.toNat_natCast] at q3
          cases x
          · simp (disch := omega) only [evs, ↓reduceIte, Nat.reduceEqDiff, fwrap_i64, g71, g70, g69, hlt, q1, q2]
            rw [ins_false q3] at ff
            refine (roundQ_norm _ _ _).2 ⟨st.length - (j + 1), by omega, j + 1, (by simp [T.gs]), (by simp [T.gs, g70]), (by simp [T.gs, g69]), (by simp [T.gs, g0]), (by simp [T.gs, g1]), by omega, FF, oo, ff, ii, ss, rfl⟩
            done
          · simp (disch := omega) only [evs, ↓reduceIte, Nat.reduceEqDiff, fwrap_i64, g71, g70, g69, g0, g1, hlt, q1, q2, oo.ld1]
            refine OQ_does (fSet_ok (hPw _ FF) ff (by omega) (by omega)) ?_
            rintro _ h8 ⟨rfl, f8, F8, n8⟩
            have lf : (k : Int) + j < ((bs.take k ++ (st.take j ++ List.replicate (st.length - j) false) ++ bs.drop k).length : Nat) := by simp; omega
            rw [if_pos ⟨by omega, lf⟩, show ((k : Int) + j).toNat = k + j by omega, ins_set (by omega) _ q3] at f8
            simp (disch := omega) only [evs, ↓reduceIte, Nat.reduceEqDiff, fwrap_i64, g71]
            have o8 := F8.own _ _ (by simp; omega) oo
            have s8 : Bools h8 v st := by
             obtain ⟨ws, oq, ok, _⟩ := ff
             obtain ⟨ws', oq', ok', _⟩ := f8
             exact Bools.frb ss F8 oq oq' (by rw [ok'.len, ok.len])
            refine (roundQ_norm _ _ _).2 ⟨st.length - (j + 1), by omega, j + 1, (by simp [T.gs]), (by simp [T.gs, g70]), (by simp [T.gs, g69]), (by simp [T.gs, g0]), (by simp [T.gs, g1]), by omega, hPq _ _ FF F8, o8, f8, ii.frf F8 ff, s8, rfl⟩
            done
        · simp only [evs, ↓reduceIte, g71, g70, hlt]
          have ej : j = st.length := by omega
          subst ej
          simp only [List.take_length, Nat.sub_self, List.replicate_zero, List.append_nil] at ff
          refine ⟨by first | rw [z] | trivial, hP0 _ FF, some q, (by first | exact hpq | simpa using hpq), ?_⟩
          try rw [if_pos z]
          exact ⟨p', d, oo, hd, ii, ff, by simp; omega⟩
 · simp only [evs, ↓reduceIte, Nat.reduceEqDiff, eq_false z]
   exact ⟨frQ F03, pm, .inl rfl, al.fr F03⟩
theorem LoP.qb {h : Heap} {b q : Nat} {l : List Int} {ks bs : List Bool} (a : LoP h b (some q) l ks bs) : b ≠ q := by
 obtain ⟨p, vk, o, v1, ix, mk, e⟩ := a
 rintro rfl
 obtain ⟨ws, oq, ok, _⟩ := (mk : Fl h b bs)
 have := congrArg List.length (oq.uniq o)
 rw [flc_len, ok.len] at this; simp at this
theorem LSetQ_ok {h : Heap} {b : Nat} {pm : Option Nat} {l : List Int} {ks bs : List Bool} {i size : Int} {kn : Bool} (w : WF h) (a : LoP h b pm l ks bs) (s0 : -9223372036854775808 ≤ size) (s1 : size ≤ 9223372036854775807) (i0 : -9223372036854775808 ≤ i) (i1 : i ≤ 9223372036854775807) :
 Does go 54 [.ptr b 0, .int .i64 i, .int .i64 size, .bool kn] h fun u h' => u = .int .i64 (xsetE l i size) ∧ (if xsetE l i size = 0 then LoP h' b pm (l.set i.toNat size) (ks.set i.toNat kn) bs else LoP h' b pm l ks bs) ∧ FrQ b pm h h' := by
 have al := a
 obtain ⟨p, vk, o, v1, ix, mk, e⟩ := a
 refine does_fn g54 rfl ?_
 simp only [fn54, evs, ↓reduceIte, Nat.reduceEqDiff, Nat.reduceAdd, o.ld]
 refine OQ_does (XSet_ok w ix s0 s1 i0 i1) ?_
 rintro _ h1 ⟨F1, c, d, rfl, hc, hd, hx⟩
 obtain ⟨h2, e_h2⟩ : ∃ h2, h2 = halloc h1 [.nilp, .nils] := ⟨_, rfl⟩
 have F_h2 : Fr [] h1 h2 := e_h2 ▸ Fr.halloc F1.wf _
 have o_h2 : Own h2 h1.next [.nilp, .nils] := e_h2 ▸ Own.new F1.wf _
 simp only [evs, ↓reduceIte, ← e_h2]
 refine store_step (c' := [c, d]) F_h2.wf o_h2 rfl (by simp [onesB, V.cells, hc, hd]) rfl ?_
 rintro h3 o3 F3 n3
 have F13 : Fr [] h1 h3 := F_h2.fresh F3 F1.wf (Nat.le_refl _)
 have F03 := F1.then F13
 by_cases z : xsetE l i size = 0
 · simp only [evs, ↓reduceIte, Nat.reduceEqDiff, eq_true z, o3.ld]
   refine store_step (c' := [c, d, pv pm]) F13.wf (F03.get o) rfl (by simp [onesB, V.cells, hc, hd]) rfl ?_
   rintro h4 o4 F4 n4
   simp only [evs, ↓reduceIte, Nat.reduceEqDiff]
   have ix' := hx z
   obtain ⟨p', rfl⟩ := ix'.form
   exact ⟨⟨p', d, o4, hd, (ix'.fr F13).frb F4 (F03.get o) (by simp) (nosp (noInt ix.noint)), (mk.fr F03).frb F4 (F03.get o) rfl, by simpa using e⟩, (frQ F03).b F4 w⟩
 · simp only [evs, ↓reduceIte, Nat.reduceEqDiff, eq_false z]
   exact ⟨al.fr F03, frQ F03⟩
theorem LMarkQ_ok {h : Heap} {b : Nat} {pm : Option Nat} {l : List Int} {ks bs : List Bool} {i : Int} {v : Bool} (w : WF h) (a : LoP h b pm l ks bs) (a0 : -9223372036854775808 ≤ i) (a1 : i ≤ 9223372036854775807) :
 Does go 104 [.ptr b 0, .int .i64 i, .bool v] h fun u h' => FrQ b pm h h' ∧ if 0 ≤ i ∧ i < l.length then u = .int .i64 0 ∧ LoP h' b pm l ks (bs.set i.toNat v) else u = .int .i64 4 ∧ LoP h' b pm l ks bs := by
 have al := a
 have all := a.lo
 obtain ⟨p, vk, o, v1, ix, mk, e⟩ := a
 by_cases c : i < 0
 · refine does_fn g104 rfl ?_
   simp only [fn104, evs, ↓reduceIte, Nat.reduceEqDiff, Nat.reduceAdd, eq_true c]
   rw [if_neg (by omega)]
   exact ⟨Fr.refl w, al⟩
 · refine does_fn g104 rfl ?_
   simp only [fn104, evs, ↓reduceIte, Nat.reduceEqDiff, Nat.reduceAdd, eq_false c]
   refine OQ_does (LLen_ok w all) ?_
   rintro _ h2 ⟨rfl, F2⟩
   by_cases c2 : (l.length : Int) ≤ i
   · simp only [evs, ↓reduceIte, eq_true c2]
     rw [if_neg (by omega)]
     exact ⟨frQ F2, al.fr F2⟩
   · cases pm with
     | none => have mk : bs = [] := mk; subst mk; simp at e; omega
     | some q =>
      have fl : Fl h q bs := mk
      have qb := al.qb
      simp only [evs, ↓reduceIte, Nat.reduceEqDiff, eq_false c2, (F2.get o).ld1, pv_some]
      refine OQ_does (fSet_ok F2.wf (fl.fr F2) a0 a1) ?_
      rintro _ h3 ⟨rfl, f3, F3, n3⟩
      rw [if_pos (by omega)] at f3
      simp only [evs, ↓reduceIte]
      rw [if_pos (by omega)]
      refine ⟨(frQ F2).q F3 w (.inl rfl), ?_, p, vk, F3.own _ _ (by simpa using qb) (F2.get o), v1, (ix.fr F2).frf F3 (fl.fr F2), f3, by simpa using e⟩
      first | rfl | (rw [if_pos (by omega)])
theorem LCopyQ_ok {h : Heap} {b : Nat} {pm : Option Nat} {l : List Int} {ks bs : List Bool} (w : WF h) (a : LoP h b pm l ks bs) : Does go 53 [.ptr b 0] h fun u h' => ∃ c pm', u = .ptr c 0 ∧ h.next ≤ c ∧ (∀ q, pm' = some q → h.next ≤ q) ∧ LoP h' c pm' l ks bs ∧ Fr [] h h' := by
 obtain ⟨p, vk, o, v1, ix, mk, e⟩ := a
 obtain ⟨h1, e_h1⟩ : ∃ h1, h1 = halloc h [pv p, vk, .nilp] := ⟨_, rfl⟩
 have F_h1 : Fr [] h h1 := e_h1 ▸ Fr.halloc w _
 have o_h1 : Own h1 h.next [pv p, vk, .nilp] := e_h1 ▸ Own.new w _
 cases pm with
 | none =>
  have mk : bs = [] := mk
  refine does_fn g53 rfl ?_
  simp only [fn53, evs, ↓reduceIte, Nat.reduceEqDiff, Nat.reduceAdd, Nat.reduceLT, o.ld, (F_h1.get o).ld1, pv_none, ← e_h1]
  exact ⟨h.next, none, rfl, Nat.le_refl _, by simp, ⟨p, vk, o_h1, v1, ix.fr F_h1, mk, e⟩, F_h1⟩
 | some q =>
  have fl : Fl h q bs := mk
  refine does_fn g53 rfl ?_
  simp only [fn53, evs, ↓reduceIte, Nat.reduceEqDiff, Nat.reduceAdd, Nat.reduceLT, o.ld, (F_h1.get o).ld1, pv_some, ← e_h1]
  refine OQ_does (fCopy_ok F_h1.wf (fl.fr F_h1)) ?_
  rintro _ h2 ⟨c, rfl, hc, f2, F2⟩
  simp only [evs, ↓reduceIte, Nat.reduceEqDiff]
  refine store_step (c' := [pv p, vk, .ptr c 0]) F2.wf (F2.get o_h1) rfl rfl rfl ?_
  rintro h3 o3 F3 n3
  simp only [evs, ↓reduceIte, Nat.reduceEqDiff]
  have F02 := F_h1.then F2
  exact ⟨h.next, some c, rfl, Nat.le_refl _, fun q e => by cases e; exact Nat.le_trans F_h1.next hc, ⟨p, vk, o3, v1, (ix.fr F02).frb F3 (F2.get o_h1) (by simp) (nosp (noInt (pm := none) ix.noint)), Mk.frb (pm := some c) f2 F3 (F2.get o_h1) rfl, e⟩, F02.fresh F3 w (Nat.le_refl _)⟩
def Knd.same (q p : Knd) : Prop := q.k = p.k ∧ q.tg = p.tg ∧ q.ky = p.ky ∧ q.sl = p.sl ∧ q.tx = p.tx ∧ q.base = p.base ∧ q.sticky = p.sticky ∧ q.pool = p.pool ∧ PT.same q.sub p.sub
def sameKs : List Knd → List Knd → Prop
 | [], [] => True
 | q :: l, p :: m => q.same p ∧ sameKs l m
 | _, _ => False
theorem sameKs_len : ∀ {a b : List Knd}, sameKs a b → a.length = b.length
 | [], [], _ => rfl
 | _ :: _, _ :: _, h => by simp [sameKs_len h.2]
 | [], _ :: _, h => h.elim
 | _ :: _, [], h => h.elim
theorem sameKs_app : ∀ {a b c d : List Knd}, sameKs a b → sameKs c d → sameKs (a ++ c) (b ++ d)
 | [], [], _, _, _, g => g
 | _ :: _, _ :: _, _, _, h, g => ⟨h.1, sameKs_app h.2 g⟩
 | [], _ :: _, _, _, h, _ => h.elim
 | _ :: _, [], _, _, h, _ => h.elim
theorem sameKs_get : ∀ {a b : List Knd} {i : Nat} {q : Knd}, sameKs a b → a[i]? = some q → ∃ p, b[i]? = some p ∧ q.same p
 | _ :: _, p :: _, 0, _, h, e => by simp at e; subst e; exact ⟨p, rfl, h.1⟩
 | _ :: _, _ :: _, i + 1, _, h, e => by simpa using sameKs_get h.2 (by simpa using e)
 | [], [], _, _, _, e => by simp at e
 | [], _ :: _, _, _, h, _ => h.elim
 | _ :: _, [], _, _, h, _ => h.elim
theorem _root_.Go.Ev.Fr.old {S : List Nat} {h h' : Heap} (w : WF h) (f : Fr S h h') : Fr (S.filter fun x => decide (x < h.next)) h h' :=
 ⟨f.next, f.wf, fun b c hb o => f.own b c (fun m => hb (by have := o.lt w; simp [m, this])) o, fun b c hb o => f.pl b c (fun m => hb (by have := o.own.lt w; simp [m, this])) o, f.lp, f.ro⟩
theorem gIns0_ok {h : Heap} {b : Nat} (o : Own h b [.nils, .int .i64 0, .int .i64 0]) : Does go 91 [.ptr b 0, .int .i64 0, .nils] h fun u h' => u = .int .i64 0 ∧ h = h' := by
 have k : GpT h b (b + 1) .nils [] [] [] 0 0 0 := ⟨o, ⟨rfl, .inl ⟨rfl, rfl⟩⟩, rfl, rfl, rfl, rfl, rfl, by omega, by omega, by omega, fun x m => by simp at m⟩
 have e : gchk (0 + 0) 0 0 = 0 := rfl
 refine does_fn g91 rfl ?_
 simp only [fn91, evs, ↓reduceIte, Nat.reduceEqDiff, Nat.reduceAdd]
 refine OQ_does (gcheck_ok k 0 0) ?_
 rintro _ _ ⟨rfl, rfl⟩
 rw [e]
 simp only [evs, ↓reduceIte, Nat.reduceEqDiff]
 refine OQ_does (gLen_ok k) ?_
 rintro _ _ ⟨rfl, rfl⟩
 simp (disch := omega) only [evs, ↓reduceIte, Nat.reduceEqDiff, fwrap_i64, show ¬ ((4096 : Int) - ((0 + 0 : Nat) : Int) < 0) by omega]
theorem gNew0_ok {h : Heap} (w : WF h) : Does go 39 [.nils] h fun z h' => ∃ b, z = .tup [.ptr b 0, .int .i64 0] ∧ h.next ≤ b ∧ Own h' b [.nils, .int .i64 0, .int .i64 0] ∧ Fr [] h h' := by
 obtain ⟨h1, e_h1⟩ : ∃ h1, h1 = halloc h [.nils, .int .i64 0, .int .i64 0] := ⟨_, rfl⟩
 have F_h1 : Fr [] h h1 := e_h1 ▸ Fr.halloc w _
 have o_h1 : Own h1 h.next [.nils, .int .i64 0, .int .i64 0] := e_h1 ▸ Own.new w _
 refine does_fn g39 rfl ?_
 simp only [fn39, evs, ↓reduceIte, Nat.reduceEqDiff, ← e_h1]
 refine OQ_does (gIns0_ok o_h1) ?_
 rintro _ _ ⟨rfl, rfl⟩
 simp only [evs, ↓reduceIte, Nat.reduceEqDiff]
 exact ⟨h.next, rfl, Nat.le_refl _, o_h1, F_h1⟩
theorem New_ok {h : Heap} {v : V} {L : List Knd} {cap : Int} (w : WF h) (a : Recs Knd.cells 9 h v L) (hL : ∀ q ∈ L, KndH h q) (hn : L.length ≤ 4096) (ok : okR L cap = true) :
 Does go 8 [.agg [v, .int .i64 cap]] h fun u h' => ∃ b bg bm bl vK K, u = .tup [.ptr b 0, .int .i64 0] ∧ Fr [] h h' ∧ sameKs L K ∧ Own h' b [vK, .int .i64 cap, .ptr bg 0, .ptr bm 0, .ptr bl 0] ∧
  Own h' bg [.nils, .int .i64 0, .int .i64 0] ∧ Km h' bm bm (fun _ => none) 0 ∧ LoP h' bl none [] [] [] ∧ h.next < bg ∧ bg < bm ∧ bm < bl ∧ bl < b ∧ h.next < h'.next ∧ Own h' h.next [v, .int .i64 cap] ∧
  (∀ (X : List Nat) (h2 : Heap), (∀ y ∈ X, y ≤ h.next ∨ y = b ∨ y = bg ∨ y = bm ∨ y = bl ∨ h'.next ≤ y) → Fr X h' h2 → Recs Knd.cells 9 h2 vK K ∧ ∀ q ∈ K, KndH h2 q) := by
 have zv : nZ v = true := by cases v <;> first | rfl | exact a.2.elim
 obtain ⟨h1, e_h1⟩ : ∃ h1, h1 = halloc h [v, .int .i64 cap] := ⟨_, rfl⟩
 have F_h1 : Fr [] h h1 := e_h1 ▸ Fr.halloc w _
 have o_h1 : Own h1 h.next [v, .int .i64 cap] := e_h1 ▸ Own.new w _
 have l0 : hload1 h1 h.next 0 = some v := o_h1.ld1 0
 have l2 : hload h1 h.next 0 2 = some [v, .int .i64 cap] := by rw [o_h1.ld]; rfl
 refine does_fn g8 rfl ?_
 simp only [fn8, evs, ↓reduceIte, Nat.reduceEqDiff, ← e_h1, l2]
 refine OQ_does (valid_ok F_h1.wf (Recs.fr a F_h1) (fun q m => (hL q m).fr F_h1) hn) ?_
 rintro _ h2 ⟨rfl, F2⟩
 rw [ok, if_pos rfl]
 simp only [evs, ↓reduceIte]
 refine OQ_does (gNew0_ok F2.wf) ?_
 rintro _ h3 ⟨bg, rfl, hbg, g3, F3⟩
 have F03 := (F_h1.then F2).then F3
 have o3 := F3.get (F2.get o_h1)
 have l3 : hload1 h3 h.next 0 = some v := o3.ld1 0
 simp only [evs, ↓reduceIte, Nat.reduceEqDiff, l3]
 refine OQ_does (cloneKind_ok F3.wf (Sl.a (Recs.fr a F03)) zv (by omega)) ?_
 rintro vK h4 ⟨gk, F4⟩
 simp only [evs, ↓reduceIte, gk.sl.len]
 have F04 := F03.then F4
 have vpl : ∀ y ∈ vb vK, h3.next ≤ y ∧ y < h4.next := by
  obtain ⟨_, ⟨_, rfl | ⟨b, _, rfl, _⟩⟩ | ⟨b, hb, rfl, o⟩⟩ := gk
  · simp [vb]
  · simp [vb]
  · have := o.lt F4.wf
    simp only [vb, List.mem_singleton]; rintro y rfl; exact ⟨hb, this⟩
 refine W_loop (fun n env hh => Fr [] h hh ∧ Fr [] h1 hh ∧ Fr [] h3 hh ∧ h4.next ≤ hh.next ∧
  ∃ (i : Nat) (D : List Knd), env.get 26 = some (.int .i64 i) ∧ env.get 25 = some (.int .i64 L.length) ∧ env.get 1 = some (.ptr h.next 0) ∧ env.get 5 = some (.ptr bg 0) ∧ env.get 7 = some vK ∧ i ≤ L.length ∧ D.length = i ∧ sameKs (L.take i) D ∧
  Gn 9 hh h3.next vK L.length ((D ++ L.drop i).flatMap Knd.cells) ∧ (∀ (X : List Nat) (h2 : Heap), (∀ y ∈ X, y < h3.next ∨ y ∈ vb vK) → Fr X hh h2 → ∀ q ∈ D, KndH h2 q) ∧ n = L.length - i) L.length (by omega) ?_ ?_
 · exact ⟨F04, (F2.then F3).then F4, F4, Nat.le_refl _, 0, [], (by simp [T.gs]), (by simp [T.gs]), (by simp [T.gs]), (by simp [T.gs]), (by simp [T.gs]), by omega, rfl, trivial, by simpa using gk, by simp, rfl⟩
 · rintro n env hh ⟨F, F1', F3', hn4, i, D, g26, g25, g1, g5, g7, hi, dl, ds, gph, dst, rfl⟩
   by_cases hlt : i < L.length
   · have hlt' : (i : Int) < L.length := by omega
     obtain ⟨q, hq⟩ : ∃ q, L[i]? = some q := ⟨_, List.getElem?_eq_getElem hlt⟩
     have hqL := hL q (List.mem_of_getElem? hq)
     obtain ⟨_, ⟨z, _⟩ | ⟨bp, hbp, rfl, obp⟩⟩ := gph
     · omega
     have fl : ∀ M : List Knd, (M.flatMap Knd.cells).length = M.length * 9 := flat_len knd_len
     have dc : (D.flatMap Knd.cells).length = i * 9 := by rw [fl, dl]
     have eL : (D ++ L.drop i).flatMap Knd.cells = D.flatMap Knd.cells ++ (q.cells ++ (L.drop (i + 1)).flatMap Knd.cells) := by
      rw [drop_cons hq]; simp
     rw [eL] at obp
     have ix := aP_ixU 9 bp 0 L.length 9 .i64 (i : Int) (by omega) hlt'
     simp only [Int.toNat_natCast, Nat.zero_add] at ix
     have lc : hload hh bp (i * 9) 6 = some q.part := by
      rw [obp.ld, dropL_eq, ← dc, List.drop_left]; rfl
     have hb := vpl bp (by simp [vb])
     simp only [evs, ↓reduceIte, Nat.reduceEqDiff, g26, g25, g7, hlt', ix, lc]
     refine OQ_does (tpart_ok (pcs q.sub) hh F.wf (hqL.fr F)) ?_
     rintro _ h7 ⟨vs2, vp2, sb2, rfl, sm, F7, st2⟩
     have on : onesB [.int .u8 (q.k : Int), .str q.tg, .str q.ky, vs2, .str q.tx, vp2] = true := PH.ones (st2 [] h7 (by simp) (Fr.refl F7.wf))
     simp only [evs, ↓reduceIte, Nat.reduceEqDiff, g7, ix]
     have eC : updO (D.flatMap Knd.cells ++ (q.cells ++ (L.drop (i + 1)).flatMap Knd.cells)) (i * 9) [.int .u8 (q.k : Int), .str q.tg, .str q.ky, vs2, .str q.tx, vp2] = some ((D ++ [(⟨q.k, q.tg, q.ky, q.sl, q.tx, vs2, vp2, sb2, q.base, q.sticky, q.pool⟩ : Knd)] ++ L.drop (i + 1)).flatMap Knd.cells) := by
      rw [updO_at _ _ _ (by rw [List.length_append, dc, List.length_append, knd_len]; simp only [List.length_cons, List.length_nil]; omega)]
      congr 1
      have q1 : (D.flatMap Knd.cells ++ (q.cells ++ (L.drop (i + 1)).flatMap Knd.cells)).take (i * 9) = D.flatMap Knd.cells := by rw [← dc, List.take_left]
      have q2 : (D.flatMap Knd.cells ++ (q.cells ++ (L.drop (i + 1)).flatMap Knd.cells)).drop (i * 9 + 6) = [.int .i64 q.base, .bool q.sticky, .int .i64 q.pool] ++ (L.drop (i + 1)).flatMap Knd.cells := by
       rw [← dc, List.drop_length_add_append]; rfl
      show _ ++ _ ++ (D.flatMap Knd.cells ++ (q.cells ++ (L.drop (i + 1)).flatMap Knd.cells)).drop (i * 9 + 6) = _
      rw [q1, q2]; simp [Knd.cells, Knd.part]
     refine store_step F7.wf (F7.get obp) rfl on eC ?_
     rintro h8 o8 F8 n8
     have hn7 := F7.next
     have hn3 := F4.next
     simp (disch := omega) only [evs, ↓reduceIte, Nat.reduceEqDiff, fwrap_i64, g26]
     refine (roundQ_norm _ _ _).2 ⟨L.length - (i + 1), by omega, (F.then F7).fresh F8 w ?_, (F1'.then F7).fresh F8 F_h1.wf ?_, (F3'.then F7).fresh F8 F3.wf (by omega), by omega, i + 1, _, (by simp [T.gs]), (by simp [T.gs, g25]), (by simp [T.gs, g1]), (by simp [T.gs, g5]), (by simp [T.gs, g7]), by omega, ?_, ?_, ⟨?_, .inr ⟨bp, hbp, rfl, o8⟩⟩, ?_, rfl⟩
     · have := F03.next; omega
     · have := F2.next; have := F3.next; omega
     · simp [dl]
     · rw [List.take_add_one, hq]; exact sameKs_app ds ⟨⟨rfl, rfl, rfl, rfl, rfl, rfl, rfl, rfl, sm⟩, trivial⟩
     · rw [fl]; simp [dl]; omega
     · intro X h9 hX f9 p hp
       have f79 : Fr ([bp] ++ X) h7 h9 := Fr.trans F8 f9 F7.wf (fun y hy => .inl (by simp at hy; simp [hy])) (fun y hy => .inl (by simp [hy]))
       have fh9 : Fr ([bp] ++ X) hh h9 := Fr.trans F7 f79 F.wf (by simp) (fun y hy => .inl hy)
       have hX' : ∀ y ∈ [bp] ++ X, y < h3.next ∨ y ∈ vb (.sliceU bp 0 L.length 9) := by
        intro y hy
        simp at hy
        rcases hy with rfl | hy
        · exact .inr (by simp [vb])
        · exact hX y hy
       rcases List.mem_append.1 hp with hp | hp
       · exact dst _ h9 hX' fh9 p hp
       · simp at hp; subst hp
         refine st2 _ h9 (fun y hy => ?_) f79
         rcases hX' y hy with q | q
         · omega
         · simp [vb] at q; omega
   · have hi' : i = L.length := by omega
     subst hi'
     rw [List.take_of_length_le (Nat.le_refl _)] at ds
     rw [List.drop_of_length_le (Nat.le_refl _), List.append_nil] at gph
     have ob := F1'.get o_h1
     have l1 : hload1 hh h.next 1 = some (.int .i64 cap) := ob.ld1 1
     simp only [evs, ↓reduceIte, Nat.reduceEqDiff, eff, g26, g25, g1, g5, g7, show ¬ ((L.length : Nat) : Int) < (L.length : Nat) by omega, l1, cells_one gph.one]
     refine OQ_does (kNew_ok F.wf) ?_
     rintro _ h5 ⟨bm, rfl, hbm, km, F5⟩
     have l1' : hload1 h5 h.next 1 = some (.int .i64 cap) := (F5.get ob).ld1 1
     simp only [evs, eff]
     refine OQ_does (LNew_ok F5.wf) ?_
     rintro _ h6 ⟨bl, rfl, hbl, lo, ol, F6⟩
     have l1'' : hload1 h6 h.next 1 = some (.int .i64 cap) := (F6.get (F5.get ob)).ld1 1
     obtain ⟨h9, e_h9⟩ : ∃ h9, h9 = halloc h6 [vK, .int .i64 cap, .ptr bg 0, .ptr bm 0, .ptr bl 0] := ⟨_, rfl⟩
     have F_h9 : Fr [] h6 h9 := e_h9 ▸ Fr.halloc F6.wf _
     have o_h9 : Own h9 h6.next [vK, .int .i64 cap, .ptr bg 0, .ptr bm 0, .ptr bl 0] := e_h9 ▸ Own.new F6.wf _
     have n9 : h9.next = h6.next + 1 := by rw [e_h9]; rfl
     simp only [evs, ↓reduceIte, Nat.reduceEqDiff, Nat.reduceAdd, Nat.reduceLT, DF, eff, Nat.reduceSub, l1, l1', l1'', ← e_h9]
     have n1 : h1.next = h.next + 1 := by rw [e_h1]; rfl
     have nn2 := F2.next
     have nn3 := F3.next
     have nn4 := F4.next
     have nn5 := F5.next
     have nn6 := F6.next
     have bg3 := g3.lt F3.wf
     have bm5 : bm < h5.next := by
      rcases km with ⟨o, _⟩ | ⟨v, sl, t, k, _⟩
      · exact o.lt F5.wf
      · exact k.ob.lt F5.wf
     have bl6 := ol.lt F6.wf
     have F69 := (F5.then F6).then F_h9
     refine ⟨h6.next, bg, bm, bl, vK, D, rfl, F.then F69, ds, o_h9, ?_, (km.fr F6).fr F_h9, ?_, by omega, by omega, by omega, by omega, by omega, (F1'.then F69).get o_h1, fun X h10 hX f10 => ?_⟩
     · exact (F3'.then F69).get g3
     · obtain ⟨p, vk, pm, o, x⟩ := lo
       have e := o.uniq ol
       cases pm with
       | none => exact LoP.fr ⟨p, vk, o, x⟩ F_h9
       | some q => simp [pv] at e
     · have f : Fr X hh h10 := Fr.trans F69 f10 F.wf (by simp) (fun y hy => .inl hy)
       have hX' : ∀ y ∈ X, y < h3.next ∨ hh.next ≤ y := fun y hy => by
        rcases hX y hy with q | q | q | q | q | q <;> omega
       refine ⟨?_, dst _ h10 (fun y hy => ?_) (f.old F.wf)⟩
       · have := (gph.frH F.wf f hX').sl
         show Sl h10 9 vK D.length _
         rw [dl]; exact this
       · simp at hy
         rcases hX' y hy.1 with q | q
         · exact .inl q
         · omega
def Seen (h : Heap) (b : Nat) (ks : List Nat) : Prop := ∃ es c, h.bl.get b = some (.mp es c) ∧ es.map (·.1) = ks.map (fun k : Nat => V.int .u64 (k : Int)) ∧ ∀ e ∈ es, e.2.1 = .bool true
theorem mfind_seen (k : Nat) : ∀ (es : List (V × V × Nat)) (ks : List Nat) (i : Nat), es.map (·.1) = ks.map (fun k : Nat => V.int .u64 (k : Int)) → (∀ e ∈ es, e.2.1 = .bool true) →
 (k ∈ ks → ∃ j, mfind none (.int .u64 (k : Int)) es i = some (some (j, .bool true))) ∧ (k ∉ ks → mfind none (.int .u64 (k : Int)) es i = some none)
 | [], [], _, _, _ => ⟨by simp, fun _ => rfl⟩
 | [], _ :: _, _, e, _ => by simp at e
 | _ :: _, [], _, e, _ => by simp at e
 | (k', v, n) :: es, q :: ks, i, e, t => by
  simp only [List.map_cons, List.cons.injEq] at e
  obtain ⟨e1, e2⟩ := e
  have tv : v = .bool true := t (k', v, n) (by simp)
  subst e1 tv
  have ih := mfind_seen k es ks (i + 1) e2 (fun x hx => t x (by simp [hx]))
  have ek : keyEq none (.int .u64 (k : Int)) (.int .u64 (q : Int)) = some (decide (k = q)) := by
   simp only [keyEq, kbeq_self, cond_true, ieq_eq]
   congr 1
   by_cases c : k = q
   · simp [c]
   · simp [c]; omega
  by_cases c : k = q
  · refine ⟨fun _ => ⟨i, ?_⟩, fun m => absurd (by simp [c]) m⟩
    simp only [mfind]
    rw [ek, decide_eq_true c]
  · refine ⟨fun m => ?_, fun m => ?_⟩
    · obtain ⟨j, hj⟩ := ih.1 (by simpa [c] using m)
      exact ⟨j, by simp only [mfind]; rw [ek, decide_eq_false c]; exact hj⟩
    · simp only [mfind]; rw [ek, decide_eq_false c]; exact ih.2 (fun m' => m (by simp [m']))
theorem Seen.lt {h : Heap} {b : Nat} {ks : List Nat} (s : Seen h b ks) (w : WF h) : b < h.next := by
 obtain ⟨es, c, e, _⟩ := s
 rcases Nat.lt_or_ge b h.next with q | q
 · exact q
 · rw [(w b q).1] at e; cases e
theorem op_mm {call : CallF} {loc : List V} {env : T V} {h : Heap} (K : V → Heap → Prop) : OQ (evOp call loc env h (.mm [])) K ↔ K (.map h.next) (hmap h) := by
 show OQ (some (V.map h.next, hmap h)) K ↔ _
 exact OQ_some _ _ _
def LkQ (h : Heap) (ks : Option (List Nat)) (zero : V) (ok : Bool) (o : Option (List V)) (K : V → Heap → Prop) : Prop := ∃ x k, o = some [x, k] ∧ VQ (alk h ks zero ok x k) K h
theorem LkQ_some {h : Heap} (ks : Option (List Nat)) (zero : V) (ok : Bool) (x k : V) (K : V → Heap → Prop) : LkQ h ks zero ok (some [x, k]) K ↔ VQ (alk h ks zero ok x k) K h :=
 ⟨fun ⟨_, _, e, q⟩ => by cases e; exact q, fun q => ⟨x, k, rfl, q⟩⟩
theorem op_lk {call : CallF} {loc : List V} {env : T V} {h : Heap} (ks : Option (List Nat)) (zero : V) (ok : Bool) (x y : Opd) (K : V → Heap → Prop) : OQ (evOp call loc env h (.lk ks zero ok [x, y])) K ↔ LkQ h ks zero ok (evOs loc env [x, y]) K := by
 simp only [evOp, OQ, LkQ, VQ, evOs_c, evOs_nil]
 cases evO loc env x with
 | none => simp [consO]
 | some a =>
  cases evO loc env y with
  | none => simp [consO]
  | some b =>
   simp only [consO]
   cases e : alk h ks zero ok a b with
   | none => simp [e]
   | some v =>
    refine ⟨fun ⟨_, _, q, k⟩ => ?_, fun ⟨_, _, q, u, q2, k⟩ => ?_⟩
    · cases q; exact ⟨a, b, rfl, v, e, k⟩
    · cases q; rw [e] at q2; cases q2; exact ⟨v, h, rfl, k⟩
def MuQ (h : Heap) (ks : Option (List Nat)) (o : Option (List V)) (K : V → Heap → Prop) : Prop := ∃ x k v, o = some [x, k, v] ∧ OQ (amu h ks x k v) K
theorem MuQ_some {h : Heap} (ks : Option (List Nat)) (x k v : V) (K : V → Heap → Prop) : MuQ h ks (some [x, k, v]) K ↔ OQ (amu h ks x k v) K :=
 ⟨fun ⟨_, _, _, e, q⟩ => by cases e; exact q, fun q => ⟨x, k, v, rfl, q⟩⟩
theorem op_mu {call : CallF} {loc : List V} {env : T V} {h : Heap} (ks : Option (List Nat)) (x y z : Opd) (K : V → Heap → Prop) : OQ (evOp call loc env h (.mu ks [x, y, z])) K ↔ MuQ h ks (evOs loc env [x, y, z]) K := by
 simp only [evOp, OQ, MuQ, evOs_c, evOs_nil]
 cases evO loc env x with
 | none => simp [consO]
 | some a =>
  cases evO loc env y with
  | none => simp [consO]
  | some b =>
   cases evO loc env z with
   | none => simp [consO]
   | some c =>
    simp only [consO]
    exact ⟨fun q => ⟨a, b, c, rfl, q⟩, fun ⟨_, _, _, e, q⟩ => by cases e; exact q⟩
theorem lk_seen {h : Heap} {b k : Nat} {ks : List Nat} (s : Seen h b ks) : alk h none (.bool false) false (.map b) (.int .u64 (k : Int)) = some (.bool (decide (k ∈ ks))) := by
 obtain ⟨es, c, e, e1, e2⟩ := s
 have m := mfind_seen k es ks 0 e1 e2
 simp only [alk, entsOf, e, show keyOK none (.int .u64 (k : Int)) = true from rfl, cond_true]
 by_cases q : k ∈ ks
 · obtain ⟨j, hj⟩ := m.1 q
   rw [hj]; simp [q]
 · rw [m.2 q]; simp [q]
theorem Seen.fr {h h' : Heap} {b : Nat} {ks : List Nat} (s : Seen h b ks) (f : Fr [] h h') : Seen h' b ks := by
 obtain ⟨es, c, e, x⟩ := s
 exact ⟨es, c, f.lp _ _ rfl e, x⟩
theorem mu_seen {h : Heap} {b k : Nat} {ks : List Nat} (w : WF h) (s : Seen h b ks) (hk : k ∉ ks) {K : V → Heap → Prop} (q : ∀ h', Seen h' b (ks ++ [k]) → FrB [] b h h' → h'.next = h.next → K (.tup []) h') : OQ (amu h none (.map b) (.int .u64 (k : Int)) (.bool true)) K := by
 obtain ⟨es, c, e, e1, e2⟩ := s
 have m := mfind_seen k es ks 0 e1 e2
 refine ⟨.tup [], hsetM h b (es ++ [(.int .u64 (k : Int), .bool true, c)]) (c + 1), ?_, q _ ⟨_, _, T.get_set_self _ _ _, by simp [e1], fun x hx => ?_⟩ (FrB.hset w e rfl _) rfl⟩
 · simp only [amu, e, show keyOK none (.int .u64 (k : Int)) = true from rfl, cond_true, m.2 hk]
 · rcases List.mem_append.1 hx with h1 | h1
   · exact e2 x h1
   · simp at h1; subst h1; rfl
def RulesAt (h : Heap) (b : Nat) (Ks : List Knd) (cap : Int) : Prop := ∃ vK c2 c3 c4, Own h b [vK, .int .i64 cap, c2, c3, c4] ∧ Recs Knd.cells 9 h vK Ks ∧ ∀ q ∈ Ks, KndH h q
theorem RulesAt.fr {h h' : Heap} {b : Nat} {Ks : List Knd} {cap : Int} (r : RulesAt h b Ks cap) (f : Fr [] h h') : RulesAt h' b Ks cap := by
 obtain ⟨vK, c2, c3, c4, o, r, k⟩ := r
 exact ⟨vK, c2, c3, c4, f.get o, Recs.fr r f, fun q m => (k q m).fr f⟩
def rendK (Ks : List Knd) (cap : Int) (x : Itm) : Int := match Ks[x.type]? with
 | some q => rendE q.k q.tg q.ky q.sl q.tx q.sub x cap
 | none => 0
theorem srender_ok {h : Heap} {b : Nat} {Ks : List Knd} {cap : Int} {x : Itm} (w : WF h) (r : RulesAt h b Ks cap) (a : ItmH h x) (ht : x.type < Ks.length) :
 Does go 72 [.ptr b 0, .agg x.cells] h fun u h' => ∃ cs, u = .tup [.agg cs, .int .i64 (rendK Ks cap x)] ∧ Fr [] h h' ∧ onesB cs = true ∧ cs.length = 6 := by
 obtain ⟨vK, c2, c3, c4, o, rk, kh⟩ := r
 obtain ⟨h1, e_h1⟩ : ∃ h1, h1 = halloc h x.cells := ⟨_, rfl⟩
 have F_h1 : Fr [] h h1 := e_h1 ▸ Fr.halloc w _
 have o_h1 : Own h1 h.next x.cells := e_h1 ▸ Own.new w _
 obtain ⟨h2, e_h2⟩ : ∃ h2, h2 = halloc h1 [.int .u8 0, .str [], .str [], .nils, .str [], .nils] := ⟨_, rfl⟩
 have F_h2 : Fr [] h1 h2 := e_h2 ▸ Fr.halloc F_h1.wf _
 have o_h2 : Own h2 h1.next [.int .u8 0, .str [], .str [], .nils, .str [], .nils] := e_h2 ▸ Own.new F_h1.wf _
 have n1 : h1.next = h.next + 1 := by rw [e_h1]; rfl
 have F02 := F_h1.then F_h2
 have ob := F02.get o
 have ox := F_h2.get o_h1
 have l0 : hload1 h2 b 0 = some vK := ob.ld1 0
 have l1 : hload1 h2 b 1 = some (.int .i64 cap) := ob.ld1 1
 have x1 : hload1 h2 h.next 1 = some (.int .u8 (x.type : Int)) := ox.ld1 1
 have x4 : hload h2 h.next 0 4 = some x.cells := by rw [ox.ld]; rfl
 obtain ⟨bk, ok', q, p1, p2, p3, p4⟩ := (Recs.fr rk F02).ix knd_len .u8 (x.type : Int) (by omega) (by omega)
 rw [Int.toNat_natCast] at p4
 have hq := kh q (List.mem_of_getElem? p4)
 have er : rendK Ks cap x = rendE q.k q.tg q.ky q.sl q.tx q.sub x cap := by simp [rendK, p4]
 have p6 : hload h2 bk ok' 6 = some q.part := by
  obtain ⟨b', o', e1, _, g2⟩ := Sl.ix (Recs.fr rk F02) .u8 (x.type : Int) (by omega) (by omega)
  rw [p1] at e1; cases e1
  simp only [hload] at p3 ⊢
  cases cc : cellsAt h2 bk with
  | none => rw [cc] at p3; cases p3
  | some C =>
   rw [cc] at p3
   simp only [dropL_eq] at p3 ⊢
   have hl : 9 ≤ (C.drop ok').length := by
    rcases Nat.lt_or_ge (C.drop ok').length 9 with z | z
    · exfalso
      have tk : ∀ (n : Nat) (l : List V), l.length < n → takeL n l = none := by
       intro n
       induction n with
       | zero => intro l hl; omega
       | succ n ih =>
        intro l hl
        cases l with
        | nil => rfl
        | cons a l =>
         rw [takeL_cons, ih l (by simpa using hl)]; rfl
      rw [tk 9 _ z] at p3; cases p3
    · exact z
   rw [takeL_at _ _ hl] at p3
   rw [takeL_at _ _ (by omega)]
   have p3' := Option.some.inj p3
   have : (C.drop ok').take 6 = ((C.drop ok').take 9).take 6 := by rw [List.take_take]; rfl
   rw [this, p3']; rfl
 refine does_fn g72 rfl ?_
 simp only [fn72, evs, ↓reduceIte, Nat.reduceEqDiff, Nat.reduceAdd, eff, ← e_h1, ← e_h2, l0, x1, p1, p6, x4, l1]
 refine OQ_does (render_ok (vs := q.vs) (vp := q.vp) F_h2.wf (hq.fr F02) (a.fr F02)) ?_
 rintro _ h3 ⟨cs, rfl, F3, z1, z2⟩
 have on : onesB cs = true ∧ cs.length = 6 := by
  by_cases z : rendE q.k q.tg q.ky q.sl q.tx q.sub x cap = 0
  · obtain ⟨s, va, vc, rfl, n, _⟩ := z2 z
    exact ⟨NH.ones n, rfl⟩
  · rw [z1 z]; exact ⟨rfl, rfl⟩
 have oz3 := F3.get o_h2
 simp only [evs, ↓reduceIte, Nat.reduceEqDiff, eff]
 refine store_step (c' := cs) F3.wf oz3 on.2 on.1 (by
  rw [updO_at _ _ _ (by show 0 + cs.length ≤ 6; omega)]
  simp [V.cells]; omega) ?_
 rintro h4 o4 F4 n4
 have l4 : hload h4 h1.next 0 6 = some cs := by
  rw [o4.ld, dropL_zero, takeL_at _ _ (by omega), List.take_of_length_le (by omega)]
 simp only [evs, ↓reduceIte, Nat.reduceEqDiff, Nat.reduceAdd, DF, eff, Nat.reduceSub, l0, x1, p6, x4, l1, l4]
 exact ⟨cs, by rw [er], (F02.then F3).fresh F4 w (by omega), on.1, on.2⟩
def There (h0 : Heap) (g : Nat) (caps : List V) (p : Nat → Bool) : Prop := g < 1099511627776 ∧ ∀ (h : Heap) (k : Nat), Fr [] h0 h → k < 18446744073709551616 → Does go g (.int .u64 (k : Int) :: caps) h fun u h' => u = .bool (p k) ∧ Fr [] h h'
def incE (Ks : List Knd) (cap : Int) (p : Nat → Bool) : List Nat → List Itm → Int
 | _, [] => 0
 | seen, x :: r => if okI x Ks.length = false then 6 else if x.key ∈ seen ∨ p x.key = true then 8 else if rendK Ks cap x ≠ 0 then rendK Ks cap x else incE Ks cap p (seen ++ [x.key]) r
theorem incoming_ok {h : Heap} {b g : Nat} {Ks : List Knd} {cap : Int} {v : V} {X : List Itm} {caps : List V} {p : Nat → Bool} (w : WF h) (r : RulesAt h b Ks cap) (hK : Ks.length ≤ 8) (sl : ARecs Itm.cells 4 h v X) (hX : ∀ x ∈ X, ItmH h x) (hn : X.length ≤ 4096) (Th : There h g caps p) :
 Does go 94 [.ptr b 0, v, .func (.func g) [] caps] h fun u h' => u = .int .i64 (incE Ks cap p [] X) ∧ Fr [] h h' := by
 obtain ⟨h1, e_h1⟩ : ∃ h1, h1 = hmap h := ⟨_, rfl⟩
 have F_h1 : Fr [] h h1 := e_h1 ▸ Fr.hnew w _
 have s1 : Seen h1 h.next [] := ⟨[], 0, by rw [e_h1]; exact hnew_get _ _, rfl, by simp⟩
 refine does_fn g94 rfl ?_
 simp only [fn94, evs, ↓reduceIte, Nat.reduceEqDiff, Nat.reduceAdd, op_mm, ← e_h1, sl.len]
 refine W_loop (fun n env hh => Fr [] h hh ∧ ∃ (i : Nat) (seen : List Nat), env.get 16 = some (.int .i64 i) ∧ env.get 15 = some (.int .i64 X.length) ∧ env.get 14 = some v ∧ env.get 0 = some (.ptr b 0) ∧ env.get 2 = some (.func (.func g) [] caps) ∧ env.get 7 = some (.map h.next) ∧
  i ≤ X.length ∧ Seen hh h.next seen ∧ incE Ks cap p seen (X.drop i) = incE Ks cap p [] X ∧ n = X.length - i) X.length (by omega) ?_ ?_
 · exact ⟨F_h1, 0, [], (by simp [T.gs]), (by simp [T.gs]), (by simp [T.gs]), (by simp [T.gs]), (by simp [T.gs]), (by simp [T.gs]), by omega, s1, rfl, rfl⟩
 · rintro n env hh ⟨F, i, seen, g16, g15, g14, g0, g2, g7, hi, S, e, rfl⟩
   by_cases hlt : i < X.length
   · have hlt' : (i : Int) < X.length := by omega
     obtain ⟨bi, oi, x, p1, _, p3, p4⟩ := (sl.fr F).ix (f := Itm.cells) (k := 4) (fun _ => rfl) .i64 (i : Int) (by omega) hlt'
     rw [Int.toNat_natCast] at p4
     have a := hX x (List.mem_of_getElem? p4)
     rw [drop_cons p4] at e
     simp only [incE] at e
     obtain ⟨h3, e_h3⟩ : ∃ h3, h3 = halloc hh [.int .u64 0, .int .u8 0, .str [], .nils] := ⟨_, rfl⟩
     have F_h3 : Fr [] hh h3 := e_h3 ▸ Fr.halloc F.wf _
     have o_h3 : Own h3 hh.next [.int .u64 0, .int .u8 0, .str [], .nils] := e_h3 ▸ Own.new F.wf _
     simp only [evs, ↓reduceIte, Nat.reduceEqDiff, g16, g15, g14, hlt', p1, p3, ← e_h3]
     refine store_step (c' := x.cells) F_h3.wf o_h3 rfl a.one rfl ?_
     rintro h4 o4 F4 n4
     have F04 : Fr [] hh h4 := F_h3.fresh F4 F.wf (Nat.le_refl _)
     have F0 := F.then F04
     obtain ⟨vK, c2, c3, c4, ob, rk, kh⟩ := r.fr F0
     have x4 : hload h4 hh.next 0 4 = some x.cells := by rw [o4.ld]; rfl
     have l0 : hload1 h4 b 0 = some vK := ob.ld1 0
     simp only [evs, ↓reduceIte, Nat.reduceEqDiff, eff, g0, x4, l0, (Recs.len rk)]
     refine OQ_does (check_ok F04.wf (a.fr F0) (by omega)) ?_
     rintro _ h5 ⟨rfl, F5⟩
     cases c1 : okI x Ks.length
     · rw [c1, if_pos rfl] at e
       simp only [evs, ↓reduceIte, Nat.reduceEqDiff, Nat.reduceAdd, DF, eff, Nat.reduceSub, x4, l0]
       exact ⟨by rw [← e], F0.then F5⟩
     rw [c1, if_neg (by simp)] at e
     have F05 := F0.then F5
     have o5 := F5.get o4
     have k0 : hload1 h5 hh.next 0 = some (.int .u64 (x.key : Int)) := o5.ld1 0
     have S5 := (S.fr F04).fr F5
     by_cases c2 : x.key ∈ seen
     · rw [if_pos (.inl c2)] at e
       simp only [evs, ↓reduceIte, Nat.reduceEqDiff, Nat.reduceAdd, DF, eff, Nat.reduceSub, g7, x4, l0, k0, op_lk, LkQ_some, lk_seen S5, c2]
       exact ⟨by rw [← e], F05⟩
     simp only [evs, ↓reduceIte, Nat.reduceEqDiff, Nat.reduceAdd, DF, eff, Nat.reduceSub, g2, g7, x4, l0, k0, op_lk, LkQ_some, lk_seen S5, c2, Th.1]
     refine OQ_does (Th.2 h5 x.key F05 a.k) ?_
     rintro _ h6 ⟨rfl, F6⟩
     have F06 := F05.then F6
     have o6 := F6.get o5
     have k0' : hload1 h6 hh.next 0 = some (.int .u64 (x.key : Int)) := o6.ld1 0
     cases c3 : p x.key
     · rw [if_neg (by simp [c2, c3])] at e
       simp only [evs, ↓reduceIte, Nat.reduceEqDiff, g7, k0', op_mu, MuQ_some]
       refine mu_seen F6.wf (S5.fr F6) c2 ?_
       intro h7 S7 B7 n7
       have F07 : Fr [] h h7 := FrB.fr w F06 B7 (by simp) (Nat.le_refl _)
       have o7 := B7.own _ _ (by simp) o6
       have x7 : hload h7 hh.next 0 4 = some x.cells := by rw [o7.ld]; rfl
       have ht : x.type < Ks.length := by
        simp only [okI, Bool.and_eq_true, decide_eq_true_eq] at c1
        exact c1.2.1
       simp only [evs, ↓reduceIte, Nat.reduceEqDiff, g0, x7]
       refine OQ_does (srender_ok F07.wf (r.fr F07) (a.fr F07) ht) ?_
       rintro _ h8 ⟨cs, rfl, F8, on, cl⟩
       obtain ⟨h9, e_h9⟩ : ∃ h9, h9 = halloc h8 [.int .u8 0, .str [], .str [], .nils, .str [], .nils] := ⟨_, rfl⟩
       have F_h9 : Fr [] h8 h9 := e_h9 ▸ Fr.halloc F8.wf _
       have o_h9 : Own h9 h8.next [.int .u8 0, .str [], .str [], .nils, .str [], .nils] := e_h9 ▸ Own.new F8.wf _
       simp only [evs, ← e_h9]
       refine store_step (c' := cs) F_h9.wf o_h9 cl on (by
        rw [updO_at _ _ _ (by show 0 + cs.length ≤ 6; omega)]
        simp [V.cells]; omega) ?_
       rintro h10 o10 F10 n10
       have F8a : Fr [] h7 h10 := (F8.then F_h9).fresh F10 F07.wf (by have := F8.next; omega)
       have F010 := F07.then F8a
       by_cases c4 : rendK Ks cap x = 0
       · rw [if_neg (by simp [c4])] at e
         simp (disch := omega) only [evs, ↓reduceIte, Nat.reduceEqDiff, fwrap_i64, g16, c4]
         refine (roundQ_norm _ _ _).2 ⟨X.length - (i + 1), by omega, F010, i + 1, seen ++ [x.key], (by simp [T.gs]), (by simp [T.gs, g15]), (by simp [T.gs, g14]), (by simp [T.gs, g0]), (by simp [T.gs, g2]), (by simp [T.gs, g7]), by omega, S7.fr F8a, e, rfl⟩
         done
       · rw [if_pos c4] at e
         simp only [evs, ↓reduceIte, Nat.reduceEqDiff, c4]
         exact ⟨by rw [← e], F010⟩
     · rw [if_pos (.inr c3)] at e
       simp only [evs, ↓reduceIte]
       exact ⟨by rw [← e], F06⟩
   · simp only [evs, ↓reduceIte, g16, g15, show ¬ (i : Int) < X.length by omega]
     rw [List.drop_of_length_le (by omega)] at e
     exact ⟨by rw [← e]; rfl, F⟩
open Go.Ev.St
set_option maxRecDepth 4000
theorem itm_len (x : Itm) : x.cells.length = 4 := rfl
theorem itm_at {X : List Itm} {i : Nat} {x : Itm} (h : X[i]? = some x) : ((X.flatMap Itm.cells).drop (i * 4)).take 4 = x.cells := by
 rw [flat_drop itm_len, drop_cons h]; rfl
def Good (h : Heap) (B : Nat) : Prop := ∃ c, Own h B c ∧ c.length ≠ 6 ∧ ∀ L : List (Int × Int), 0 < L.length → c ≠ L.flatMap sp
theorem Good.fr {h h' : Heap} {B : Nat} {S : List Nat} (g : Good h B) (f : Fr S h h') (hB : B ∉ S) : Good h' B := by
 obtain ⟨c, o, x⟩ := g; exact ⟨c, f.own _ _ hB o, x⟩
theorem Km.good {h : Heap} {b S c : Nat} {m : Nat → Option Nat} (k : Km h b S m c) {key x : Nat} (hm : m key = some x) : Good h S := by
 rcases k with ⟨_, _, z⟩ | ⟨v, sl, t, k, _⟩
 · rw [z] at hm; cases hm
 · have n8 := k.n8
   have hl := flat3 sl
   refine ⟨_, k.tb.2, by omega, ?_⟩
   intro L p e
   cases sl with
   | nil => simp at n8
   | cons s r =>
    cases L with
    | nil => simp at p
    | cons q L =>
     rw [List.flatMap_cons, List.flatMap_cons] at e
     simp [sc, sp] at e
abbrev KMap := (Nat → Option Nat) × Nat
def putS (mc : KMap) (key i : Nat) : KMap := (mset' mc.1 key i, if (mc.1 key).isSome = true then mc.2 else mc.2 + 1)
def putsS (mc : KMap) : List Itm → Nat → KMap
 | [], _ => mc
 | x :: r, i => putsS (putS mc x.key i) r (i + 1)
theorem from_ok {h : Heap} {b bg B bm S i : Nat} {vK vc vl : V} {X : List Itm} {mc : KMap} (w : WF h) (ob : Own h b [vK, vc, .ptr bg 0, .ptr bm 0, vl]) (g : Gp h bg B X.length (X.flatMap Itm.cells)) (k : Km h bm S mc.1 mc.2)
 (hX : ∀ x ∈ X, 0 < x.key ∧ x.key < 18446744073709551616) (hi : i ≤ X.length) (hc : mc.2 + X.length ≤ 4096) (d1 : b ≠ bm) (d2 : b ≠ S) (d3 : bg ≠ bm) (d4 : bg ≠ S) (d5 : B ≠ bm) (d6 : B ≠ S) (lt : B < h.next) (gS : Good h S) :
 Does go 99 [.ptr b 0, .int .i64 (i : Int)] h fun u h' => u = .tup [] ∧ ∃ S', (S' = S ∨ h.next ≤ S') ∧ Km h' bm S' (putsS mc (X.drop i) i).1 (putsS mc (X.drop i) i).2 ∧ Fr [bm, S] h h' ∧ Good h' S' := by
 have hn := g.len.2.1
 have blt := ob.lt w
 have glt : bg < h.next := by
  obtain ⟨v, c1, G, c2, a, gg, m, k, _⟩ := g; exact k.ob.lt w
 refine does_fn g99 rfl ?_
 simp only [fn99, evs, Nat.reduceAdd]
 refine W_loop (fun n env hh => ∃ (j S' : Nat) (mc' : KMap), (S' = S ∨ h.next ≤ S') ∧ Km hh bm S' mc'.1 mc'.2 ∧ Fr [bm, S] h hh ∧ Good hh S' ∧ env.get 0 = some (.ptr b 0) ∧ env.get 1 = some (.int .i64 (j : Int)) ∧ j ≤ X.length ∧
  putsS mc' (X.drop j) j = putsS mc (X.drop i) i ∧ mc'.2 + (X.length - j) ≤ 4096 ∧ n = X.length - j) (X.length - i) (by omega) ?_ ?_
 · exact ⟨i, S, mc, .inl rfl, k, Fr.refl w, gS, (by simp [T.gs]), (by simp [T.gs]), hi, rfl, by omega, by omega⟩
 · rintro n env hh ⟨j, S', mc', hS, km, F, gd, g0, g1, hj, e, hc', rfl⟩
   have e1 : S' ≠ b := by rcases hS with rfl | q <;> omega
   have ob' := F.own b _ (by simp; exact ⟨d1, d2⟩) ob
   have gp' := g.fr F (by simp; exact ⟨d3, d4⟩) (by simp; exact ⟨d5, d6⟩)
   have l2 : hload1 hh b 2 = some (.ptr bg 0) := ob'.ld1 2
   simp only [evs, g0, l2]
   refine OQ_does (gLenn_ok gp') ?_
   rintro _ _ ⟨rfl, rfl⟩
   by_cases hlt : j < X.length
   · obtain ⟨x, hx⟩ : ∃ x, X[j]? = some x := ⟨_, List.getElem?_eq_getElem hlt⟩
     have xk := hX x (List.mem_of_getElem? hx)
     simp only [evs, ↓reduceIte, Nat.reduceEqDiff, g0, g1, l2, show (j : Int) < (X.length : Nat) by omega]
     obtain ⟨v, c1, G, c2, a, gg, m, gt, el, en⟩ := gp'
     refine OQ_does (gAt_ok F.wf gt (i := j) (by omega)) ?_
     rintro _ h4 ⟨F4, rfl⟩
     rw [← el, itm_at hx]
     obtain ⟨h5, e_h5⟩ : ∃ h5, h5 = halloc h4 [.int .u64 0, .int .u8 0, .str [], .nils] := ⟨_, rfl⟩
     have F_h5 : Fr [] h4 h5 := e_h5 ▸ Fr.halloc F4.wf _
     have o_h5 : Own h5 h4.next [.int .u64 0, .int .u8 0, .str [], .nils] := e_h5 ▸ Own.new F4.wf _
     simp only [evs, ↓reduceIte, ← e_h5]
     have on : onesB x.cells = true := by
      rw [← itm_at hx]
      exact onesB_take 4 (onesB_drop _ g.len.2.2)
     refine store_step (c' := x.cells) F_h5.wf o_h5 rfl on rfl ?_
     rintro h6 o6 F6 n6
     have Fa : Fr [] hh h6 := (F4.then F_h5).fresh F6 F.wf (by have := F4.next; omega)
     have l3 : hload1 h6 b 3 = some (.ptr bm 0) := (Fa.get ob').ld1 3
     have x0 : hload1 h6 h4.next 0 = some (.int .u64 (x.key : Int)) := o6.ld1 0
     rw [drop_cons hx] at e
     simp only [putsS] at e
     simp only [evs, ↓reduceIte, Nat.reduceEqDiff, eff, g0, g1, l3, x0]
     refine OQ_does (kPut_ok Fa.wf (km.fr Fa) (.inl (by omega)) xk.1 xk.2 (by omega)) ?_
     rintro _ h7 ⟨rfl, S2, hS2, km7, F7⟩
     have F07 : Fr [bm, S] h h7 := by
      refine Fr.trans (Fr.trans (T := [bm, S]) F Fa w (fun y hy => .inl hy) (by simp)) F7 w (fun y hy => .inl hy) (fun y hy => ?_)
      simp at hy
      rcases hy with rfl | rfl
      · exact .inl (by simp)
      · rcases hS with rfl | q
        · exact .inl (by simp)
        · exact .inr q
     have hS3 : S2 = S ∨ h.next ≤ S2 := by
      rcases hS2 with rfl | q
      · exact hS
      · exact .inr (Nat.le_trans (Nat.le_trans F.next Fa.next) q)
     simp (disch := omega) only [evs, ↓reduceIte, Nat.reduceEqDiff, Nat.reduceAdd, DF, Nat.reduceSub, fwrap_i64, g1, l3, x0]
     refine (roundQ_norm _ _ _).2 ⟨X.length - (j + 1), by omega, j + 1, S2, putS mc' x.key j, hS3, km7, F07, km7.good (key := x.key) (x := j) (by simp [mset']), (by simp [T.gs, g0]), (by simp [T.gs]), by omega, e, ?_, rfl⟩
     simp only [putS]; split <;> omega
   · simp only [evs, ↓reduceIte, g1, show ¬ (j : Int) < (X.length : Nat) by omega]
     rw [List.drop_of_length_le (by omega)] at e
     simp only [putsS] at e
     refine ⟨S', hS, ?_, F, gd⟩
     rw [← e]; exact km
end Go.Ev.Lay
