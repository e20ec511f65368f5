/- An evaluator of the program, and contracts over it: StaZf to StaZo. -/
import Derived.Test.YtdbfhmneijcjbaaGreatP12
set_option linter.unusedSimpArgs false
set_option linter.unusedVariables false
set_option linter.constructorNameAsVariable false
namespace Go.Ev.Lay
open Go.Ev.St
set_option maxRecDepth 4000
theorem set_atmid {α : Type} {A D : List α} {a i : Nat} (hD : D.length = i) (h : a + i < A.length) (y : α) : (A.take a ++ D ++ A.drop (a + i)).set (a + i) y = A.take a ++ (D ++ [y]) ++ A.drop (a + (i + 1)) := by
 have l1 : (A.take a ++ D).length = a + i := by simp; omega
 rw [List.set_append_right _ _ (by omega), l1, Nat.sub_self, List.drop_eq_getElem_cons h]
 simp [Nat.add_assoc]
theorem Sto.set {n0 : Nat} {h h' : Heap} {b bg B bm S bl i : Nat} {Ks : List Knd} {cap : Int} {X : List Itm} {l : List Int} {kn st : List Bool} {vK : V} {pm : Option Nat} {mc : KMap} {y : Itm} (w : WF h) (s : Sto n0 h b Ks cap X l kn st vK bg B bm S bl pm mc) (f : Fr [B] h h')
 (g : Gp h' bg B X.length ((X.set i y).flatMap Itm.cells)) (gB : Good h' B)
 (hy : ∀ (Z : List Nat) (h2 : Heap), (∀ z ∈ Z, z ∈ Wr b bg B bm S bl pm ∨ h'.next ≤ z ∨ z < n0) → Fr Z h' h2 → ItmH h2 y) : Sto n0 h' b Ks cap (X.set i y) l kn st vK bg B bm S bl pm mc := by
 have d := s.d
 have fn := f.next
 have n0l := s.n0l
 refine ⟨f.own _ _ (by simpa using d.b2) s.ob, by simpa using g, gB, s.k.frS f (by simpa using d.t1.symm) (by simpa using d.t2.symm), s.gS.fr f (by simpa using d.t2.symm), s.lo.frS f s.gB.oth (by simpa using d.t3.symm) (fun q e => by simpa using (d.p q e).2.2.1), by simp [s.len], ?_, d, by have := s.Sl'; omega, fun q e => by have := s.pl q e; omega, by have := s.bl'; omega, by omega⟩
 intro Z h2 hZ f2
 have fz : Fr ([B] ++ Z) h h2 := Fr.trans f f2 w (fun x m => .inl (List.mem_append.2 (.inl m))) (fun x m => .inl (List.mem_append.2 (.inr m)))
 obtain ⟨r1, r2, r3⟩ := s.rd _ h2 (fun z m => by
  rcases List.mem_append.1 m with m | m
  · simp at m; subst m; exact .inl (by simp [Wr])
  · rcases hZ z m with q | q | q
    · exact .inl q
    · exact .inr (.inl (by omega))
    · exact .inr (.inr q)) fz
 refine ⟨r1, r2, fun x m => ?_⟩
 rcases List.mem_or_eq_of_mem_set m with m | rfl
 · exact r3 x m
 · exact hy Z h2 hZ f2
theorem chC_ok {n0 : Nat} {h : Heap} {b bg B bm S bl nb a B0 : Nat} {Ks : List Knd} {cap : Int} {X Y : List Itm} {l : List Int} {kn st : List Bool} {vK v5 v k0 c0 t0 : V} {pm : Option Nat} {mc : KMap} {env : T V} {R : V → Heap → Prop}
 (w : WF h) (s : Sto n0 h b Ks cap X l kn st vK bg B bm S bl pm mc) (on : Own h nb [k0, .int .i64 (a : Int), c0, t0, v]) (iv : Gs h B0 1 v5 (Y.map fun x => .bool (kStick Ks x)))
 (lw : ∀ y ∈ Wr b bg B bm S bl pm, y < B0) (gn : B0 ≤ nb) (e0 : env.get 0 = some (.ptr b 0)) (e3 : env.get 3 = some (.ptr nb 0)) (e13 : env.get 13 = some v5)
 (sv : ∀ h', Fr (B :: bl :: pm.toList) h h' → ARecs Itm.cells 4 h' v Y ∧ ∀ y ∈ Y, ItmH h' y) (hY : ∀ y ∈ Y, nZ y.vm = true) (n00 : n0 ≤ B0) (bh : B0 ≤ h.next)
 (ha : a + Y.length ≤ X.length) (hx : X.length ≤ 1024)
 (k : ∀ h' Y', Cps Y Y' → Fr (B :: bl :: pm.toList) h h' → Sto n0 h' b Ks cap (X.take a ++ Y' ++ X.drop (a + Y.length)) l kn (st.take a ++ Y.map (kStick Ks) ++ st.drop (a + Y.length)) vK bg B bm S bl pm mc → R (.int .i64 0) h') :
 W go chC env h (RetQ [.t 4] R) := by
 have d := s.d
 have lst : st.length = X.length := by
  obtain ⟨_, _, _, _, _, _, e⟩ := s.lo
  rw [e, s.len]
 have n4 : hload1 h nb 4 = some v := on.ld1 4
 obtain ⟨sY, hYI⟩ := sv h (Fr.refl w)
 have sw : ∀ z, z ∈ B :: bl :: pm.toList → z ∈ Wr b bg B bm S bl pm := by
  intro z m
  rcases List.mem_cons.1 m with rfl | m
  · simp [Wr]
  rcases List.mem_cons.1 m with rfl | m
  · simp [Wr]
  · exact List.mem_append.2 (.inr m)
 have nn : ∀ y, B0 ≤ y → y ∉ B :: bl :: pm.toList := fun y hy m => by have := lw y (sw y m); omega
 simp only [evs, ↓reduceIte, chC, e3, n4, sY.len]
 refine W_loop (fun n env hh => Fr (B :: bl :: pm.toList) h hh ∧ ∃ (i : Nat) (D : List Itm), Cps (Y.take i) D ∧ Sto n0 hh b Ks cap (X.take a ++ D ++ X.drop (a + i)) l kn (st.take a ++ (Y.take i).map (kStick Ks) ++ st.drop (a + i)) vK bg B bm S bl pm mc ∧
  env.get 152 = some (.int .i64 i) ∧ env.get 151 = some (.int .i64 Y.length) ∧ env.get 150 = some v ∧ env.get 0 = some (.ptr b 0) ∧ env.get 3 = some (.ptr nb 0) ∧ env.get 13 = some v5 ∧ i ≤ Y.length ∧ n = Y.length - i) Y.length (by omega) ?_ ?_
 · exact ⟨Fr.refl w, 0, [], trivial, by simpa using s, (by simp [T.gs]), (by simp [T.gs]), (by simp [T.gs]), (by simp [T.gs, e0]), (by simp [T.gs, e3]), (by simp [T.gs, e13]), by omega, rfl⟩
 · rintro n env hh ⟨F, i, D, cp, ss, g152, g151, g150, g0, g3, g13, hi, rfl⟩
   have on2 := F.own _ _ (nn _ gn) on
   have dl := cp.len
   rw [List.length_take, Nat.min_eq_left hi] at dl
   have hn := F.next
   by_cases hlt : i < Y.length
   · have hlt' : (i : Int) < Y.length := by omega
     obtain ⟨sYh, hYh⟩ := sv hh F
     obtain ⟨bi, oi, y, p1, _, p3, p4⟩ := sYh.ix (f := Itm.cells) (k := 4) (fun _ => rfl) .i64 (i : Int) (by omega) hlt'
     rw [Int.toNat_natCast] at p4
     have ym := List.mem_of_getElem? p4
     have ay := hYh y ym
     obtain ⟨h3, e_h3⟩ : ∃ h3, h3 = halloc hh [.int .u64 0, .int .u8 0, .str [], .nils] := ⟨_, rfl⟩
     have F_h3 : Fr [] hh h3 := e_h3 ▸ Fr.halloc F.wf _
     have o_h3 : Own h3 hh.next [.int .u64 0, .int .u8 0, .str [], .nils] := e_h3 ▸ Own.new F.wf _
     simp only [evs, ↓reduceIte, Nat.reduceEqDiff, g152, g151, g150, hlt', p1, p3, ← e_h3]
     refine store_step (c' := y.cells) F_h3.wf o_h3 rfl ay.one rfl ?_
     rintro h4 o4 F4 nx4
     have F04 : Fr [] hh h4 := F_h3.fresh F4 F.wf (Nat.le_refl _)
     have s4 := ss.fr F.wf F04
     have b4 : hload1 h4 b 4 = some (.ptr bl 0) := s4.ob.ld1 4
     have n1 : hload1 h4 nb 1 = some (.int .i64 (a : Int)) := (F04.get on2).ld1 1
     have F14 : Fr (B :: bl :: pm.toList) h h4 := Fr.trans F F04 w (fun x m => .inl m) (fun x m => by simp at m)
     have bv : Bools h4 v5 (Y.map (kStick Ks)) := by
      have := (Gs.frX iv F14 (fun y m => lw y (sw y m))).sl (n := (Y.map (kStick Ks)).length) (by simp) (by omega)
      unfold Bools Vals; rw [List.map_map]; exact this
     obtain ⟨bi2, oi2, x2, q1, q3, q4⟩ := bv.ix .i64 (i : Int) (by omega) (by simpa using hlt')
     rw [Int.toNat_natCast, List.getElem?_map, p4] at q4
     simp at q4
     subst q4
     simp (disch := omega) only [evs, ↓reduceIte, Nat.reduceEqDiff, eff, fwrap_i64, g0, g3, g13, b4, n1, q1, q3]
     refine OQ_does (LMarkQ_ok F04.wf s4.lo (by omega) (by omega)) ?_
     rintro _ h5 ⟨F5, a5⟩
     have l4 := s4.len
     have lX : (X.take a ++ D ++ X.drop (a + i)).length = X.length := by simp; omega
     rw [if_pos (by omega)] at a5
     obtain ⟨rfl, a5⟩ := a5
     have tn : ((a : Int) + i).toNat = a + i := by omega
     have e1 : (st.take a ++ (Y.take i).map (kStick Ks) ++ st.drop (a + i)).set (a + i) (kStick Ks y) = st.take a ++ (Y.take (i + 1)).map (kStick Ks) ++ st.drop (a + (i + 1)) := by
      rw [set_atmid (by simp; omega) (by omega), List.take_add_one, p4]; simp
     rw [tn, e1] at a5
     have s5 := s4.lay F04.wf F5 a5 l4 (.inl rfl)
     have F15 : Fr (B :: bl :: pm.toList) h h5 := Fr.trans F14 F5 w (fun x m => .inl m) (fun x m => .inl (List.mem_cons_of_mem _ m))
     have on5 := F15.own _ _ (nn _ gn) on
     have n15 : hload1 h5 nb 1 = some (.int .i64 (a : Int)) := on5.ld1 1
     have b2 : hload1 h5 b 2 = some (.ptr bg 0) := s5.ob.ld1 2
     have o5 := F5.own _ _ (fun m => by have := lw hh.next (sw _ (List.mem_cons_of_mem _ m)); omega) o4
     have y4 : hload h5 hh.next 0 4 = some y.cells := by rw [o5.ld]; rfl
     have b4' : hload1 h5 b 4 = some (.ptr bl 0) := s5.ob.ld1 4
     simp (disch := omega) only [evs, ↓reduceIte, Nat.reduceEqDiff, Nat.reduceAdd, DF, eff, Nat.reduceSub, fwrap_i64, g0, g3, b4, n1, q3, n15, b2, y4]
     have ay5 := (sv h5 F15).2 y ym
     refine OQ_does (copied_ok F5.wf ay5 (hY y ym)) ?_
     rintro _ h6 ⟨vy, rfl, F6, nE, v1, stb⟩
     have sv0 := stb [] h6 (by simp) (Fr.refl F6.wf)
     have s6 := s5.fr F5.wf F6
     obtain ⟨v9, c1, G, c2, a9, g9, m9, k9, ec, en⟩ := s6.g
     rw [lX] at en
     have ea : (a : Int) + i = ((a + i : Nat) : Int) := by omega
     simp only [evs, eff, own_cells, ea]
     refine OQ_does (gSet_ok F6.wf k9 (i := a + i) (by omega) (by simp only [onesB_cons, onesB_nil, v1]; rfl) (noI_own (x := y) fun n => Sl.noint sv0 _ _)) ?_
     rintro _ h7 ⟨rfl, F7, c1', c2', k7, ec7⟩
     have F67 : Fr [] h5 h6 := F6
     have gp7 : Gp h7 bg B X.length (((X.take a ++ D ++ X.drop (a + i)).set (a + i) (y.own vy)).flatMap Itm.cells) := by
      refine ⟨v9, c1', G, c2', a9, g9, m9, k7, ?_, by omega⟩
      rw [ec7, ← ec, List.set_eq_take_append_cons_drop, if_pos (by omega), flat_take itm_len, show (a + i) * 4 + 4 = (a + i + 1) * 4 by omega, flat_drop itm_len]
      simp [own_cells]
     have gB7 := gp7.good (by omega)
     have h5n := F5.next
     have h04n := F04.next
     have h6n := F6.next
     have h7n := F7.next
     have F57 : Fr [B] h5 h7 := Fr.trans F6 F7 F5.wf (by simp) (fun x m => .inl m)
     have s7 : Sto n0 h7 b Ks cap ((X.take a ++ D ++ X.drop (a + i)).set (a + i) (y.own vy)) l kn _ vK bg B bm S bl pm mc := s6.set F6.wf F7 (by rw [lX]; exact gp7) gB7 (by
      intro Z h2 hZ f
      have f6 : Fr ([B] ++ Z) h6 h2 := Fr.trans F7 f F6.wf (fun x m => .inl (List.mem_append.2 (.inl m))) (fun x m => .inl (List.mem_append.2 (.inr m)))
      have r := stb _ h2 (fun z m => ?_) (f6.old F6.wf)
      · have ay6 := ay5.fr F6
        exact ⟨ay5.k, ay5.t, Sl.a r, ay5.n, ay5.l⟩
      · simp only [List.mem_filter, decide_eq_true_eq] at m
        obtain ⟨m, m2⟩ := m
        have hB := lw B (by simp [Wr])
        rcases List.mem_append.1 m with m | m
        · simp at m; omega
        · rcases hZ z m with q | q | q
          · have := lw z q; omega
          · omega
          · omega)
     rw [set_atmid dl.symm (by omega)] at s7
     have F17 : Fr (B :: bl :: pm.toList) h h7 := Fr.trans F15 F57 w (fun x m => .inl m) (fun x m => .inl (by simp at m; simp [m]))
     have b27 : hload1 h6 b 2 = some (.ptr bg 0) := s6.ob.ld1 2
     have n16 : hload1 h6 nb 1 = some (.int .i64 (a : Int)) := (F6.get on5).ld1 1
     simp (disch := omega) only [evs, ↓reduceIte, Nat.reduceEqDiff, Nat.reduceAdd, DF, Nat.reduceSub, fwrap_i64, g152, n15, b2, y4, b27, n16]
     have cp' : Cps (Y.take (i + 1)) (D ++ [y.own vy]) := by
      rw [List.take_add_one, p4]; exact Cps.app cp ⟨⟨vy, rfl⟩, trivial⟩
     refine (roundQ_norm _ _ _).2 ⟨Y.length - (i + 1), by omega, F17, i + 1, _, cp', s7, (by simp [T.gs]), (by simp [T.gs, g151]), (by simp [T.gs, g150]), (by simp [T.gs, g0]), (by simp [T.gs, g3]), (by simp [T.gs, g13]), by omega, rfl⟩
   · have : i = Y.length := by omega
     subst this
     rw [List.take_of_length_le (Nat.le_refl _)] at cp ss
     have hlt' : ¬ (Y.length : Int) < Y.length := by omega
     simp only [evs, ↓reduceIte, g152, g151, eq_false hlt']
     exact k _ _ cp F ss
theorem Gs.ge {h : Heap} {B B' e : Nat} {v : V} {cs : List V} (g : Gs h B e v cs) (hb : B' ≤ B) : Gs h B' e v cs := by
 rcases g with z | ⟨b, n, z1, z2, z3, z4, o⟩
 · exact .inl z
 · exact .inr ⟨b, n, z1, z2, z3, by omega, o⟩
def chR (old : List Int) (a : Nat) (M : List Int) : Nat → List Int → List Bool → Int × List Int × List Bool
 | 0, l, kn => (0, l, kn)
 | k + 1, l, kn => if (chP old (k == 0) a M l kn).1 = 0 then chR old a M k (chP old (k == 0) a M l kn).2.1 (chP old (k == 0) a M l kn).2.2 else chP old (k == 0) a M l kn
theorem kBase_ok {Ks : List Knd} {cap : Int} (ok : okR Ks cap = true) (y : Itm) : -9223372036854775808 ≤ kBase Ks y ∧ kBase Ks y ≤ 9223372036854775807 := by
 unfold kBase
 cases e : Ks[y.type]? with
 | none => simp
 | some q =>
  simp only [okR, Bool.and_eq_true, decide_eq_true_eq, List.all_eq_true] at ok
  have := ok.2.2.2.2 q (List.mem_of_getElem? e)
  simp only [okK, okB, Bool.and_eq_true, decide_eq_true_eq] at this
  simp only
  omega
theorem chB_ok {n0 : Nat} {h : Heap} {b bg B bm S bl nb a B0 : Nat} {Ks : List Knd} {cap : Int} {X Y : List Itm} {l : List Int} {kn st : List Bool} {vK v k0 c0 t0 : V} {pm : Option Nat} {mc : KMap} {env : T V} {R : V → Heap → Prop}
 (w : WF h) (s : Sto n0 h b Ks cap X l kn st vK bg B bm S bl pm mc) (on : Own h nb [k0, .int .i64 (a : Int), c0, t0, v])
 (lw : ∀ y ∈ Wr b bg B bm S bl pm, y < B0) (gn : B0 ≤ nb) (e0 : env.get 0 = some (.ptr b 0)) (e3 : env.get 3 = some (.ptr nb 0))
 (sv : ∀ h', Fr (B :: bl :: pm.toList) h h' → ARecs Itm.cells 4 h' v Y ∧ ∀ y ∈ Y, ItmH h' y) (hY : ∀ y ∈ Y, nZ y.vm = true ∧ y.type < Ks.length) (n00 : n0 ≤ B0) (bh : B0 ≤ h.next)
 (ha : a + Y.length ≤ X.length) (hx : X.length ≤ 1024) (ok : okR Ks cap = true)
 (kE : (chR l a (Y.map (kBase Ks)) 2 l kn).1 ≠ 0 → ∀ h' c pmc, Fr (b :: bl :: pm.toList) h h' → Own h' b [vK, .int .i64 cap, .ptr bg 0, .ptr bm 0, .ptr c 0] → LoP h' c pmc l kn st → h.next ≤ c → (∀ q, pmc = some q → h.next ≤ q ∧ q ≠ c) → R (.int .i64 (chR l a (Y.map (kBase Ks)) 2 l kn).1) h')
 (k : (chR l a (Y.map (kBase Ks)) 2 l kn).1 = 0 → ∀ h' Y', Cps Y Y' → Fr (B :: bl :: pm.toList) h h' → Sto n0 h' b Ks cap (X.take a ++ Y' ++ X.drop (a + Y.length)) (chR l a (Y.map (kBase Ks)) 2 l kn).2.1 (chR l a (Y.map (kBase Ks)) 2 l kn).2.2 (st.take a ++ Y.map (kStick Ks) ++ st.drop (a + Y.length)) vK bg B bm S bl pm mc → R (.int .i64 0) h') :
 W go chB env h (RetQ [.t 4] R) := by
 have d := s.d
 have sw : ∀ z, z ∈ bl :: pm.toList → z ∈ Wr b bg B bm S bl pm := by
  intro z m
  rcases List.mem_cons.1 m with rfl | m
  · simp [Wr]
  · exact List.mem_append.2 (.inr m)
 have nn : ∀ y, B0 ≤ y → y ∉ bl :: pm.toList := fun y hy m => by have := lw y (sw y m); omega
 obtain ⟨rk, kh, xh⟩ := s.rd [] h (by simp) (Fr.refl w)
 obtain ⟨sY, hYI⟩ := sv h (Fr.refl w)
 have n4 : hload1 h nb 4 = some v := on.ld1 4
 simp only [evs, chB, e0, e3, n4]
 refine OQ_does (bases_ok w ⟨vK, _, _, _, s.ob, rk, kh⟩ sY (fun y m => ⟨hYI y m, (hY y m).2⟩) (by omega)) ?_
 rintro _ h1 ⟨v4, v5, rfl, G4, G5, F1⟩
 have s1 := s.fr w F1
 have b4 : hload1 h1 b 4 = some (.ptr bl 0) := s1.ob.ld1 4
 simp only [evs, ↓reduceIte, Nat.reduceEqDiff, e0, b4]
 refine OQ_does (LCopyQ_ok F1.wf s1.lo) ?_
 rintro _ h2 ⟨c, pmc, rfl, hc, hp, a2, F2⟩
 have mk2 := LoP.ne a2
 have s2 := s1.fr F1.wf F2
 have F02 := F1.then F2
 simp only [evs, ↓reduceIte]
 obtain ⟨h3, e_h3⟩ : ∃ h3, h3 = halloc h2 [.bool false, .bool true] := ⟨_, rfl⟩
 have F_h3 : Fr [] h2 h3 := e_h3 ▸ Fr.halloc F2.wf _
 have o3 : Own h3 h2.next [.bool false, .bool true] := e_h3 ▸ Own.new F2.wf _
 rw [← e_h3]
 have s3 := s2.fr F2.wf F_h3
 have F03 := F02.then F_h3
 have n1 := F1.next
 have n2 := F2.next
 have n3 : h3.next = h2.next + 1 := by rw [e_h3]; rfl
 have iv4 : Gs h3 B0 1 v4 ((Y.map (kBase Ks)).map fun x => .int .i64 x) := by
  rw [List.map_map]; exact Gs.ge (Gs.frX G4 (F2.then F_h3) (by simp)) bh
 have iv5 : Gs h3 B0 1 v5 (Y.map fun x => .bool (kStick Ks x)) := Gs.ge (Gs.frX G5 (F2.then F_h3) (by simp)) bh
 have ac3 := a2.fr F_h3
 have on3 := F03.get on
 have bw : b < B0 := lw b (by simp [Wr])
 have blw : bl < B0 := lw bl (by simp [Wr])
 have pw : ∀ q, pm = some q → q < B0 := fun q e => lw q (by simp [Wr, e])
 have pcw : ∀ q, pmc = some q → B0 ≤ q := fun q e => by have := hp q e; omega
 have sl3 : Bools h3 (.slice h2.next 0 2 2) [false, true] := Sl.lit o3 rfl
 refine W_loop (fun n env hh => Fr (bl :: pm.toList) h3 hh ∧ ∃ (j : Nat) (lj : List Int) (knj : List Bool), LoP hh c pmc l kn st ∧ Sto n0 hh b Ks cap X lj knj st vK bg B bm S bl pm mc ∧
  env.get 105 = some (.int .i64 (j : Int)) ∧ env.get 104 = some (.int .i64 (2 : Nat)) ∧ env.get 103 = some (.slice h2.next 0 2 2) ∧ env.get 0 = some (.ptr b 0) ∧ env.get 3 = some (.ptr nb 0) ∧ env.get 12 = some v4 ∧ env.get 13 = some v5 ∧ env.get 14 = some (.ptr c 0) ∧
  j ≤ 2 ∧ chR l a (Y.map (kBase Ks)) (2 - j) lj knj = chR l a (Y.map (kBase Ks)) 2 l kn ∧ n = 2 - j) 2 (by omega) ?_ ?_
 · exact ⟨Fr.refl F_h3.wf, 0, l, kn, ac3, s3, (by simp [T.gs]), (by simp [T.gs]), (by simp [T.gs]), (by simp [T.gs, e0]), (by simp [T.gs, e3]), (by simp [T.gs]), (by simp [T.gs]), (by simp [T.gs]), by omega, rfl, rfl⟩
 · rintro n env hh ⟨F, j, lj, knj, acj, sj, g105, g104, g103, g0, g3, g12, g13, g14, hj, em, rfl⟩
   have nn' : ∀ y, B0 ≤ y → y ∉ bl :: pm.toList := nn
   have onh := F.own _ _ (nn _ gn) on3
   have fb : ∀ y ∈ bl :: pm.toList, y < B0 := fun y m => lw y (sw y m)
   have iv4h := Gs.frX iv4 F fb
   have iv5h := Gs.frX iv5 F fb
   have Fh : Fr (bl :: pm.toList) h hh := Fr.trans F03 F w (fun x m => by simp at m) (fun x m => .inl m)
   by_cases hlt : j < 2
   · have hlt' : (j : Int) < (2 : Nat) := by omega
     have slh : Bools hh (.slice h2.next 0 2 2) [false, true] := Sl.lit (F.own _ _ (nn _ (by omega)) o3) rfl
     obtain ⟨bi, oi, x, p1, p3, p4⟩ := slh.ix .i64 (j : Int) (by omega) (by simp; omega)
     rw [Int.toNat_natCast] at p4
     obtain ⟨k', hk⟩ : ∃ k', 2 - j = k' + 1 := ⟨1 - j, by omega⟩
     have ex : x = (k' == 0) := by
      have : j = 0 ∨ j = 1 := by omega
      rcases this with rfl | rfl
      · simp at p4; have : k' = 1 := by omega
        subst this; simp [← p4]
      · simp at p4; have : k' = 0 := by omega
        subst this; simp [← p4]
     rw [hk] at em
     simp only [chR] at em
     simp only [evs, ↓reduceIte, Nat.reduceEqDiff, g105, g104, g103, hlt', p1, p3]
     refine chI_ok (B0 := B0) (v5 := v5) (M := Y.map (kBase Ks)) (a := a) (r := x) (j := j) (v103 := .slice h2.next 0 2 2) (v104 := .int .i64 (2 : Nat)) F.wf sj acj onh iv4h bw blw pw (by omega) pcw gn (by simp [T.gs, g0]) (by simp [T.gs, g3]) (by simp [T.gs, g12]) (by simp [T.gs, g13]) (by simp [T.gs, g14]) (by simp [T.gs]) (by simp [T.gs, g105]) (by simp [T.gs, g103]) (by simp [T.gs, g104]) (by simp; omega) s.len hx (fun m hm => ?_) ?_ ?_
     · simp at hm
       obtain ⟨y, _, rfl⟩ := hm
       exact kBase_ok ok y
     · intro c0 env' h' ⟨q0, q3, q12, q13, q14, q105, q103, q104⟩ f' s' ac'
       rw [ex] at c0 s'
       rw [if_pos c0] at em
       simp (disch := omega) only [evs, fwrap_i64, q105]
       refine (roundQ_norm _ _ _).2 ⟨2 - (j + 1), by omega, Fr.trans F f' F_h3.wf (fun x m => .inl m) (fun x m => .inl m), j + 1, _, _, ac', s', (by simp [T.gs]), (by simp [T.gs, q104]), (by simp [T.gs, q103]), (by simp [T.gs, q0]), (by simp [T.gs, q3]), (by simp [T.gs, q12]), (by simp [T.gs, q13]), (by simp [T.gs, q14]), by omega, by rw [show 2 - (j + 1) = k' by omega]; exact em, rfl⟩
     · intro c0 env' h' q4 f' o' ac'
       rw [ex] at c0 q4
       rw [if_neg c0] at em
       rw [em] at c0 q4
       simp only [evs, q4]
       exact kE c0 h' c pmc (Fr.trans Fh f' w (fun x m => .inl (List.mem_cons_of_mem _ m)) (fun x m => .inl m)) o' ac' (by omega) (fun q e => ⟨by have := hp q e; omega, mk2 q e⟩)
   · have : j = 2 := by omega
     subst this
     simp only [Nat.sub_self, chR] at em
     have hlt' : ¬ ((2 : Nat) : Int) < (2 : Nat) := by omega
     simp only [evs, ↓reduceIte, Nat.reduceSub, g105, g104, eq_false hlt']
     have e1 := congrArg Prod.fst em
     have e2 := congrArg (fun z => z.2.1) em
     have e3' := congrArg (fun z => z.2.2) em
     simp only at e1 e2 e3'
     refine chC_ok (B0 := B0) F.wf sj onh iv5h lw gn (by simp [T.gs, g0]) (by simp [T.gs, g3]) (by simp [T.gs, g13]) (fun h' f => sv h' (Fr.trans Fh f w (fun x m => .inl (List.mem_cons_of_mem _ m)) (fun x m => .inl m))) (fun y m => (hY y m).1) n00 (by have := F.next; omega) ha hx ?_
     intro h' Y' cp f' s'
     rw [e2, e3'] at s'
     exact k e1.symm h' Y' cp (Fr.trans Fh f' w (fun x m => .inl (List.mem_cons_of_mem _ m)) (fun x m => .inl m)) s'
theorem lay_post {call : CallF} {env : T V} {k : Nat} : ∀ (B : List IStep) (i : Nat) (loc : List V) (h : Heap), k < i → lay call env [k] B i loc h = some (B.map fun s => (s, none), h)
 | [], _, _, _, _ => rfl
 | s :: B, i, loc, h, hi => by
  have c0 : (i == k) = false := beq_false_of_ne (by omega)
  have c : List.contains [k] i = false := by simp only [List.contains, List.elem, c0]
  simp only [lay, c, cond_false, lay_post (call := call) (env := env) (k := k) B (i + 1) _ h (by omega), List.map_cons]
theorem lay_pre {call : CallF} {env : T V} {k : Nat} {R : List IStep} {h h' : Heap} {r : List DS} : ∀ (A : List IStep) (i : Nat) (loc : List V), i + A.length = k → (∀ loc, lay call env [k] R k loc h = some (r, h')) → lay call env [k] (A ++ R) i loc h = some ((A.map fun s => (s, none)) ++ r, h')
 | [], i, loc, hi, hr => by
  have : i = k := by simpa using hi
  subst this
  simpa using hr loc
 | s :: A, i, loc, hi, hr => by
  simp only [List.length_cons] at hi
  have c0 : (i == k) = false := beq_false_of_ne (by omega)
  have c : List.contains [k] i = false := by simp only [List.contains, List.elem, c0]
  simp only [List.cons_append, lay, c, cond_false, lay_pre (call := call) (env := env) (k := k) A (i + 1) _ (by omega) hr, List.map_cons]
theorem W_dal {call : CallF} {env : T V} {h : Heap} {k : Nat} {zero : List V} {Br Rr : List Nat} {reads : List (Nat × Nat × Nat)} {sets : List (Nat × Nat)} {Q : Ex → T V → Heap → Prop} (A B : List IStep) (hk : A.length = k)
 (x : WD call env ((A.map fun s => (s, none)) ++ (⟨none, .al zero, none⟩, some (.ptr h.next 0, zero)) :: B.map fun s => (s, none)) [] [halloc h zero] (halloc h zero) (DF call (A ++ ⟨none, .al zero, none⟩ :: B) reads sets env (Q .norm))) :
 W call (.dops (A ++ ⟨none, .al zero, none⟩ :: B) [k] Br Rr reads sets) env h Q := by
 refine (W_dl _ _ _ _ _ _ _).2 ?_
 have e : ∀ loc, lay call env [k] (⟨none, .al zero, none⟩ :: B) k loc h = some ((⟨none, .al zero, none⟩, some (.ptr h.next 0, zero)) :: B.map (fun s => (s, none)), halloc h zero) := by
  intro loc
  have c : List.contains [k] k = true := by simp
  simp only [lay, c, cond_true, lateC, lay_post B (k + 1) _ _ (Nat.lt_succ_self k), lateV]
 rw [lay_pre A 0 [] (by omega) e, LayQ_some]
 exact x
theorem late_al (loc : List V) (env : T V) (n : Nat) (zero : List V) : lateOK loc env (.al zero) (.ptr n 0) zero = true := by
 have e : lateC loc env (.al zero) = some (zero, none) := rfl
 simp only [lateOK, e, lid, lateV, vEq_self, vsEq_self, Bool.and_self]
def chkC (Ks : List Knd) (cap : Int) (X : List Itm) : Nat → List Itm → Int
 | _, [] => 0
 | i, y :: r => if okI y Ks.length = false then 6 else if (X[i]?.map Itm.key) ≠ some y.key then 9 else if rendK Ks cap y ≠ 0 then rendK Ks cap y else chkC Ks cap X (i + 1) r
def chgE (Ks : List Knd) (cap a : Int) (X Y : List Itm) (l : List Int) (kn : List Bool) : Int :=
 if a < 0 ∨ (X.length : Int) < a ∨ (X.length : Int) - a < Y.length then 4 else if chkC Ks cap X a.toNat Y ≠ 0 then chkC Ks cap X a.toNat Y else (chR l a.toNat (Y.map (kBase Ks)) 2 l kn).1
theorem cells_at {X : List Itm} {j : Nat} {x : Itm} (e : X[j]? = some x) : ((X.flatMap Itm.cells).drop (j * 4)).take 4 = x.cells := by
 rw [flat_drop itm_len, drop_cons e, List.flatMap_cons, List.take_append_of_le_length (by rw [itm_len]; omega), List.take_of_length_le (by rw [itm_len]; omega)]
theorem change_ok {n0 : Nat} {h : Heap} {b bg B bm S bl : Nat} {Ks : List Knd} {cap a : Int} {X Y : List Itm} {l : List Int} {kn st : List Bool} {vK v : V} {pm : Option Nat} {mc : KMap} {k0 c0 t0 : V} (w : WF h) (s : Sto n0 h b Ks cap X l kn st vK bg B bm S bl pm mc) (ha : -9223372036854775808 ≤ a ∧ a < 9223372036854775808)
 (ok : okR Ks cap = true) (hx : X.length ≤ 1024)
 (sv : ∀ (Z : List Nat) (h' : Heap), (∀ z ∈ Z, z ∈ Wr b bg B bm S bl pm ∨ h.next ≤ z) → Fr Z h h' → ARecs Itm.cells 4 h' v Y ∧ ∀ y ∈ Y, ItmH h' y) (hY : ∀ y ∈ Y, nZ y.vm = true) (hl : Y.length ≤ 4096) (ones : onesB [k0, .int .i64 a, c0, t0, v] = true) :
 Does go 49 [.ptr b 0, .agg [k0, .int .i64 a, c0, t0, v]] h fun u h' => u = .int .i64 (chgE Ks cap a X Y l kn) ∧
  (chgE Ks cap a X Y l kn ≠ 0 → Fr (b :: bl :: pm.toList) h h' ∧ ∃ bl' pm', (bl' = bl ∨ h.next ≤ bl') ∧ (pm' = pm ∨ ∀ q, pm' = some q → h.next ≤ q) ∧ Sto n0 h' b Ks cap X l kn st vK bg B bm S bl' pm' mc) ∧
  (chgE Ks cap a X Y l kn = 0 → 0 ≤ a ∧ a + Y.length ≤ X.length ∧ Fr (B :: bl :: pm.toList) h h' ∧ ∃ Y', Cps Y Y' ∧
   Sto n0 h' b Ks cap (X.take a.toNat ++ Y' ++ X.drop (a.toNat + Y.length)) (chR l a.toNat (Y.map (kBase Ks)) 2 l kn).2.1 (chR l a.toNat (Y.map (kBase Ks)) 2 l kn).2.2 (st.take a.toNat ++ Y.map (kStick Ks) ++ st.drop (a.toNat + Y.length)) vK bg B bm S bl pm mc) := by
 obtain ⟨rk, kh, xh⟩ := s.rd [] h (by simp) (Fr.refl w)
 obtain ⟨sY, hYI⟩ := sv [] h (by simp) (Fr.refl w)
 have hK : Ks.length ≤ 8 := by
  simp only [okR, Bool.and_eq_true, decide_eq_true_eq] at ok
  exact ok.2.1
 have same : ∀ {h'}, Fr [] h h' → Fr (b :: bl :: pm.toList) h h' ∧ ∃ bl' pm', (bl' = bl ∨ h.next ≤ bl') ∧ (pm' = pm ∨ ∀ q, pm' = some q → h.next ≤ q) ∧ Sto n0 h' b Ks cap X l kn st vK bg B bm S bl' pm' mc :=
  fun f => ⟨⟨f.next, f.wf, fun _ _ _ o => f.get o, fun _ _ _ o => f.pl _ _ (by simp) o, f.lp, f.ro⟩, bl, pm, .inl rfl, .inl rfl, s.fr w f⟩
 obtain ⟨h1, e_h1⟩ : ∃ h1, h1 = halloc h [k0, .int .i64 a, c0, t0, v] := ⟨_, rfl⟩
 have F_h1 : Fr [] h h1 := e_h1 ▸ Fr.halloc w _
 have o_h1 : Own h1 h.next [k0, .int .i64 a, c0, t0, v] := e_h1 ▸ Own.new w _
 have n1 : h1.next = h.next + 1 := by rw [e_h1]; rfl
 have s1 := s.fr w F_h1
 have l1 : hload1 h1 h.next 1 = some (.int .i64 a) := o_h1.ld1 1
 have l4 : hload1 h1 h.next 4 = some v := o_h1.ld1 4
 have ly := (sY.fr F_h1).len
 by_cases c1 : a < 0
 · refine does_fn g49x rfl ?_
   simp only [evs, ↓reduceIte, Nat.reduceEqDiff, Nat.reduceAdd, DF, eff, Nat.reduceSub, fn49x, ← e_h1, l1, eq_true c1]
   have e : chgE Ks cap a X Y l kn = 4 := by rw [chgE, if_pos (.inl c1)]
   rw [e]
   exact ⟨rfl, fun _ => same F_h1, fun e => by cases e⟩
 refine does_fn g49x rfl ?_
 simp only [evs, ↓reduceIte, Nat.reduceEqDiff, Nat.reduceAdd, eff, fn49x, ← e_h1, l1, eq_false c1]
 refine OQ_does (sLen_ok s1) ?_
 rintro _ _ ⟨rfl, rfl⟩
 by_cases c2 : (X.length : Int) < a
 · simp only [evs, ↓reduceIte, Nat.reduceAdd, DF, eff, Nat.reduceSub, eq_true c2, l1]
   have e : chgE Ks cap a X Y l kn = 4 := by rw [chgE, if_pos (.inr (.inl c2))]
   rw [e]
   exact ⟨rfl, fun _ => same F_h1, fun e => by cases e⟩
 simp only [evs, ↓reduceIte, Nat.reduceEqDiff, eff, eq_false c2, l4, ly]
 refine OQ_does (sLen_ok s1) ?_
 rintro _ _ ⟨rfl, rfl⟩
 by_cases c3 : (X.length : Int) - a < Y.length
 · simp (disch := omega) only [evs, ↓reduceIte, Nat.reduceEqDiff, Nat.reduceAdd, DF, eff, Nat.reduceSub, fwrap_i64, eq_true c3, l1, l4]
   have e : chgE Ks cap a X Y l kn = 4 := by rw [chgE, if_pos (.inr (.inr c3))]
   rw [e]
   exact ⟨rfl, fun _ => same F_h1, fun e => by cases e⟩
 obtain ⟨p, rfl⟩ : ∃ p : Nat, a = p := ⟨a.toNat, by omega⟩
 have e : chgE Ks cap p X Y l kn = if chkC Ks cap X p Y ≠ 0 then chkC Ks cap X p Y else (chR l p (Y.map (kBase Ks)) 2 l kn).1 := by
  rw [chgE, if_neg (by omega), Int.toNat_natCast]
 rw [e]
 simp (disch := omega) only [evs, ↓reduceIte, Nat.reduceEqDiff, Nat.reduceAdd, DF, eff, Nat.reduceSub, fwrap_i64, eq_false c3, l1, l4, ly]
 have hlY : p + Y.length ≤ X.length := by omega
 refine W_loop (fun n env hh => Fr [] h1 hh ∧ ∃ (i : Nat), env.get 48 = some (.int .i64 i) ∧ env.get 47 = some (.int .i64 Y.length) ∧ env.get 46 = some v ∧ env.get 0 = some (.ptr b 0) ∧ env.get 3 = some (.ptr h.next 0) ∧
  i ≤ Y.length ∧ chkC Ks cap X (p + i) (Y.drop i) = chkC Ks cap X p Y ∧ (∀ y ∈ Y.take i, y.type < Ks.length) ∧ n = Y.length - i) Y.length (by omega) ?_ ?_
 · exact ⟨Fr.refl F_h1.wf, 0, (by simp [T.gs]), (by simp [T.gs]), (by simp [T.gs]), (by simp [T.gs]), (by simp [T.gs]), by omega, rfl, by simp, rfl⟩
 · rintro n env hh ⟨F, i, g48, g47, g46, g0, g3, hi, em, hty, rfl⟩
   have Fh := F_h1.then F
   have sh := s.fr w Fh
   have onh := F.get o_h1
   by_cases hlt : i < Y.length
   · have hlt' : (i : Int) < Y.length := by omega
     obtain ⟨bi, oi, y, p1, _, p3, p4⟩ := (sY.fr Fh).ix (f := Itm.cells) (k := 4) (fun _ => rfl) .i64 (i : Int) (by omega) hlt'
     rw [Int.toNat_natCast] at p4
     have ym := List.mem_of_getElem? p4
     have ay := (hYI y ym).fr Fh
     rw [drop_cons p4] at em
     simp only [chkC] at em
     obtain ⟨h3, e_h3⟩ : ∃ h3, h3 = halloc hh [.int .u64 0, .int .u8 0, .str [], .nils] := ⟨_, rfl⟩
     have F_h3 : Fr [] hh h3 := e_h3 ▸ Fr.halloc F.wf _
     have o_h3 : Own h3 hh.next [.int .u64 0, .int .u8 0, .str [], .nils] := e_h3 ▸ Own.new F.wf _
     simp only [evs, ↓reduceIte, Nat.reduceEqDiff, g48, g47, g46, hlt', p1, p3, ← e_h3]
     refine store_step (c' := y.cells) F_h3.wf o_h3 rfl ay.one rfl ?_
     rintro h4 o4 F4 n4
     have F04 : Fr [] hh h4 := F_h3.fresh F4 F.wf (Nat.le_refl _)
     have s4 := sh.fr F.wf F04
     have y4 : hload h4 hh.next 0 4 = some y.cells := by rw [o4.ld]; rfl
     have k0 : hload1 h4 b 0 = some vK := s4.ob.ld1 0
     have rk4 := Recs.fr rk (Fh.then F04)
     simp only [evs, ↓reduceIte, Nat.reduceEqDiff, eff, g0, y4, k0, (Recs.len rk4)]
     refine OQ_does (check_ok F04.wf (ay.fr F04) (by omega)) ?_
     rintro _ h5 ⟨rfl, F5⟩
     have F05 := F04.then F5
     cases d1 : okI y Ks.length
     · rw [d1, if_pos rfl] at em
       simp only [evs, ↓reduceIte, Nat.reduceEqDiff, Nat.reduceAdd, DF, eff, Nat.reduceSub, y4, k0]
       have e6 : chkC Ks cap X p Y ≠ 0 := by rw [← em]; decide
       rw [if_pos e6]
       exact ⟨by rw [← em], fun _ => same (Fh.then F05), fun e => absurd e e6⟩
     rw [d1, if_neg (by simp)] at em
     have ht : y.type < Ks.length := by
      simp only [okI, Bool.and_eq_true, decide_eq_true_eq] at d1
      exact d1.2.1
     simp only [evs, ↓reduceIte, Nat.reduceEqDiff, Nat.reduceAdd, DF, eff, Nat.reduceSub, y4, k0]
     refine W_dal [⟨none, .p .mv [.v 0], none⟩, ⟨none, .p .nilck [.l 0], none⟩, ⟨none, .p (.faddr 2) [.l 0], none⟩, ⟨none, .ld 1 false (.l 0), none⟩, ⟨none, .p (.faddr 1) [.v 3], none⟩, ⟨none, .ld 1 false (.l 0), none⟩, ⟨none, .p .mv [.v 5], none⟩, ⟨none, .p (.ib .add) [.l 1, .l 0], none⟩, ⟨none, .cf 70 [.l 4, .l 0], none⟩, ⟨none, .p .mv [.l 0], none⟩, ⟨none, .p (.ext 0) [.l 0], none⟩, ⟨none, .p (.ext 1) [.l 1], none⟩] _ rfl ?_
     have F6 := Fr.halloc F05.wf [.int .u64 0, .int .u8 0, .str [], .nils]
     have o6 := Own.new F05.wf [.int .u64 0, .int .u8 0, .str [], .nils]
     have n6 : (halloc h5 [.int .u64 0, .int .u8 0, .str [], .nils]).next = h5.next + 1 := rfl
     generalize halloc h5 [.int .u64 0, .int .u8 0, .str [], .nils] = h6 at F6 o6 n6 ⊢
     have F06 := F05.then F6
     have s6 := sh.fr F.wf F06
     obtain ⟨x, ex⟩ : ∃ x, X[p + i]? = some x := ⟨_, List.getElem?_eq_getElem (by omega)⟩
     obtain ⟨v9, c1', G, c2', a9, g9, m9, k9, ec, en⟩ := s6.g
     have xk := xh x (List.mem_of_getElem? ex)
     have b2 : hload1 h6 b 2 = some (.ptr bg 0) := s6.ob.ld1 2
     have o14 := F06.get onh
     have l1' : hload1 h6 h.next 1 = some (.int .i64 (p : Int)) := o14.ld1 1
     have ea : (p : Int) + i = ((p + i : Nat) : Int) := by omega
     rw [ex] at em
     simp only [Option.map_some, ne_eq, Option.some.injEq] at em
     simp (disch := omega) only [evs, ↓reduceIte, Nat.reduceEqDiff, eff, fwrap_i64, g0, g3, b2, l1', ea]
     refine OQ_does (gAt_ok F6.wf k9 (i := p + i) (by omega)) ?_
     rintro _ h7 ⟨F7, rfl⟩
     rw [← ec, cells_at ex]
     have b27 : hload1 h7 b 2 = some (.ptr bg 0) := (F7.get s6.ob).ld1 2
     have l17 : hload1 h7 h.next 1 = some (.int .i64 (p : Int)) := (F7.get o14).ld1 1
     simp only [evs, eff, WD_late, late_al]
     refine store_step (c' := x.cells) F7.wf (F7.get o6) rfl xk.one rfl ?_
     rintro h8 o8 F8 nx8
     have F08 : Fr [] hh h8 := (F06.then F7).fresh F8 F.wf (by have := F05.next; omega)
     have F58 : Fr [] h5 h8 := (F6.then F7).fresh F8 F05.wf (Nat.le_refl _)
     have x0 : hload1 h8 h5.next 0 = some (.int .u64 (x.key : Int)) := o8.ld1 0
     have oy := F58.get (F5.get o4)
     have y0 : hload1 h8 hh.next 0 = some (.int .u64 (y.key : Int)) := oy.ld1 0
     have y48 : hload h8 hh.next 0 4 = some y.cells := by rw [oy.ld]; rfl
     by_cases c4 : x.key = y.key
     · rw [if_neg (by simp [c4])] at em
       simp only [evs, ↓reduceIte, Nat.reduceEqDiff, Nat.reduceAdd, DF, eff, Nat.reduceSub, g0, b2, l1', x0, y0, y48, c4]
       refine OQ_does (srender_ok F08.wf (RulesAt.fr ⟨vK, _, _, _, s.ob, rk, kh⟩ (Fh.then F08)) (ay.fr F08) ht) ?_
       rintro _ h9 ⟨cs, rfl, F9, on, cl⟩
       obtain ⟨h10, e_h10⟩ : ∃ h10, h10 = halloc h9 [.int .u8 0, .str [], .str [], .nils, .str [], .nils] := ⟨_, rfl⟩
       have F_h10 : Fr [] h9 h10 := e_h10 ▸ Fr.halloc F9.wf _
       have o_h10 : Own h10 h9.next [.int .u8 0, .str [], .str [], .nils, .str [], .nils] := e_h10 ▸ Own.new F9.wf _
       simp only [evs, ← e_h10]
       refine store_step (c' := cs) F_h10.wf o_h10 cl on (by
        rw [updO_at _ _ _ (by show 0 + cs.length ≤ 6; omega)]
        simp [V.cells]; omega) ?_
       rintro h11 o11 F11 n11
       have F8a : Fr [] h8 h11 := (F9.then F_h10).fresh F11 F08.wf (by have := F9.next; omega)
       have F011 := F08.then F8a
       by_cases c5 : rendK Ks cap y = 0
       · rw [if_neg (by simp [c5])] at em
         simp (disch := omega) only [evs, ↓reduceIte, Nat.reduceEqDiff, fwrap_i64, g48, c5]
         refine (roundQ_norm _ _ _).2 ⟨Y.length - (i + 1), by omega, F.then F011, i + 1, (by simp [T.gs]), (by simp [T.gs, g47]), (by simp [T.gs, g46]), (by simp [T.gs, g0]), (by simp [T.gs, g3]), by omega, em, ?_, rfl⟩
         rw [List.take_add_one, p4]
         intro z m
         rcases List.mem_append.1 m with m | m
         · exact hty z m
         · simp at m; subst m; exact ht
       · rw [if_pos c5] at em
         simp only [evs, ↓reduceIte, Nat.reduceEqDiff, c5]
         have e6 : chkC Ks cap X p Y ≠ 0 := by rw [← em]; exact c5
         rw [if_pos e6]
         exact ⟨by rw [← em], fun _ => same (Fh.then F011), fun e => absurd e e6⟩
     · rw [if_pos c4] at em
       have c4' : ¬ (x.key : Int) = (y.key : Int) := by omega
       simp only [evs, ↓reduceIte, Nat.reduceEqDiff, Nat.reduceAdd, DF, eff, Nat.reduceSub, b2, l1', x0, y0, eq_false c4']
       have e6 : chkC Ks cap X p Y ≠ 0 := by rw [← em]; decide
       rw [if_pos e6]
       exact ⟨by rw [← em], fun _ => same (Fh.then F08), fun e => absurd e e6⟩
   · have : i = Y.length := by omega
     subst this
     rw [List.drop_length] at em
     simp only [chkC] at em
     rw [List.take_of_length_le (Nat.le_refl _)] at hty
     have hlt' : ¬ (Y.length : Int) < Y.length := by omega
     simp only [evs, ↓reduceIte, g48, g47, eq_false hlt']
     have e6 : ¬ chkC Ks cap X p Y ≠ 0 := by rw [← em]; decide
     rw [if_neg e6]
     have hn := Fh.next
     have lw : ∀ y ∈ Wr b bg B bm S bl pm, y < h.next := by
      intro y m
      simp only [Wr, List.mem_append, List.mem_cons, List.not_mem_nil, or_false] at m
      rcases m with (rfl | rfl | rfl | rfl | rfl | rfl) | m
      · exact s.ob.lt w
      · exact s.g.ob.1.lt w
      · exact s.gB.lt w
      · exact s.k.lt w
      · exact s.Sl'
      · exact s.bl'
      · exact s.pl y (by simpa using m)
     have lift : ∀ {Z : List Nat} {h'}, Fr Z hh h' → Fr Z h h' := fun f => Fr.trans Fh f w (fun x m => by simp at m) (fun x m => .inl m)
     refine chB_ok (B0 := h.next) F.wf sh onh lw (Nat.le_refl _) (by simp [T.gs, g0]) (by simp [T.gs, g3]) (fun h' f => sv _ h' (fun z m => .inl ?_) (lift f)) (fun y m => ⟨hY y m, hty y m⟩) s.n0l hn hlY hx ok ?_ ?_
     · rcases List.mem_cons.1 m with rfl | m
       · simp [Wr]
       rcases List.mem_cons.1 m with rfl | m
       · simp [Wr]
       · exact List.mem_append.2 (.inr m)
     · intro c0 h' c pmc f o' a' hc hp
       refine ⟨rfl, fun _ => ⟨lift f, c, pmc, .inr (by omega), .inr fun q e => by have := hp q e; omega, s.relay w (lift f) o' a' s.len (by omega) fun q e => ⟨by have := hp q e; omega, (hp q e).2⟩⟩, fun e => absurd e c0⟩
     · intro c0 h' Y' cp f s'
       rw [Int.toNat_natCast]
       exact ⟨by rw [c0], fun e => absurd c0 e, fun _ => ⟨by omega, by omega, lift f, Y', cp, s'⟩⟩
theorem ixs5 (q i : Nat) (hi : i < 5) : aP (.ixs 2) [.slice q 0 5 5, .int .i64 (i : Int)] = some (.ptr q (i * 2)) := by
 have : i = 0 ∨ i = 1 ∨ i = 2 ∨ i = 3 ∨ i = 4 := by omega
 rcases this with rfl | rfl | rfl | rfl | rfl <;> simp [aP] <;> exact ⟨_, rfl, rfl⟩
def doerL (b : Nat) : List V := [.int .u8 1, .func (.func 46) [.ptr b 0] [], .int .u8 2, .func (.func 47) [.ptr b 0] [], .int .u8 3, .func (.func 48) [.ptr b 0] [], .int .u8 4, .func (.func 49) [.ptr b 0] [], .int .u8 5, .func (.func 50) [.ptr b 0] []]
theorem sApply_ok {n0 : Nat} {h : Heap} {b bg B bm S bl k n : Nat} {Ks : List Knd} {cap a c t : Int} {X : List Itm} {l : List Int} {kn st : List Bool} {vK v : V} {pm : Option Nat} {mc : KMap} {cs : List V} {R : V → Heap → Prop} (w : WF h) (s : Sto n0 h b Ks cap X l kn st vK bg B bm S bl pm mc)
 (hk : k < 256) (sl : Sl h 4 v n cs) (hE : ∀ h', chkE k a c t n ≠ 0 → Fr [] h h' → R (.int .i64 (chkE k a c t n)) h') (hD : chkE k a c t n = 0 → ∀ h', Fr [] h h' → Does go (45 + k) [.ptr b 0, .agg [.int .u8 (k : Int), .int .i64 a, .int .i64 c, .int .i64 t, v]] h' R) :
 Does go 9 [.ptr b 0, .agg [.int .u8 (k : Int), .int .i64 a, .int .i64 c, .int .i64 t, v]] h R := by
 have v1 : v.one = true := Sl.one sl
 obtain ⟨h1, e_h1⟩ : ∃ h1, h1 = halloc h [.int .u8 (k : Int), .int .i64 a, .int .i64 c, .int .i64 t, v] := ⟨_, rfl⟩
 have F_h1 : Fr [] h h1 := e_h1 ▸ Fr.halloc w _
 have o_h1 : Own h1 h.next [.int .u8 (k : Int), .int .i64 a, .int .i64 c, .int .i64 t, v] := e_h1 ▸ Own.new w _
 have s1 := s.fr w F_h1
 have l5 : hload h1 h.next 0 5 = some [.int .u8 (k : Int), .int .i64 a, .int .i64 c, .int .i64 t, v] := by rw [o_h1.ld]; rfl
 refine does_fn g9 rfl ?_
 simp only [fn9, evs, ↓reduceIte, Nat.reduceEqDiff, Nat.reduceAdd, ← e_h1]
 refine OQ_does (none_ok s1) ?_
 rintro _ _ ⟨rfl, rfl⟩
 simp only [evs, ↓reduceIte, Nat.reduceEqDiff, l5]
 refine OQ_does (nCheck_ok F_h1.wf hk (Sl.fr sl F_h1)) ?_
 rintro _ h2 ⟨rfl, F2⟩
 have F02 := F_h1.then F2
 by_cases c0 : chkE k a c t n = 0
 · have kk : 1 ≤ k ∧ k ≤ 5 := by
    unfold chkE at c0
    split at c0
    · cases c0
    · omega
   simp only [evs, ↓reduceIte, Nat.reduceEqDiff, Nat.reduceAdd, Nat.reduceLT, c0]
   obtain ⟨h3, e_h3⟩ : ∃ h3, h3 = halloc h2 (doerL b) := ⟨_, rfl⟩
   have F_h3 : Fr [] h2 h3 := e_h3 ▸ Fr.halloc F2.wf _
   have o3 : Own h3 h2.next (doerL b) := e_h3 ▸ Own.new F2.wf _
   change W _ _ _ (halloc h2 (doerL b)) _
   rw [← e_h3]
   have n3 : h3.next = h2.next + 1 := by rw [e_h3]; rfl
   have row : ∀ hh, Fr [] h3 hh → ∀ i, i < 5 → hload hh h2.next (i * 2) 2 = some [.int .u8 ((i + 1 : Nat) : Int), .func (.func (46 + i)) [.ptr b 0] []] := by
    intro hh f i hi
    have : i = 0 ∨ i = 1 ∨ i = 2 ∨ i = 3 ∨ i = 4 := by omega
    rw [(f.get o3).ld]
    rcases this with rfl | rfl | rfl | rfl | rfl <;> rfl
   refine W_loop (fun n env hh => Fr [] h3 hh ∧ ∃ (i : Nat), env.get 32 = some (.int .i64 i) ∧ env.get 31 = some (.int .i64 (5 : Nat)) ∧ env.get 30 = some (.slice h2.next 0 5 5) ∧ env.get 0 = some (.ptr b 0) ∧ env.get 3 = some (.ptr h.next 0) ∧ i < k ∧ n = 5 - i) 5 (by omega) ?_ ?_
   · exact ⟨Fr.refl F_h3.wf, 0, (by simp [T.gs]), (by simp [T.gs]), (by simp [T.gs]), (by simp [T.gs]), (by simp [T.gs]), by omega, rfl⟩
   · rintro n env hh ⟨F, i, g32, g31, g30, g0, g3, hi, rfl⟩
     have hi5 : i < 5 := by omega
     have hlt' : (i : Int) < (5 : Nat) := by omega
     have p1 := ixs5 h2.next i hi5
     have p3 := row hh F i hi5
     obtain ⟨h4, e_h4⟩ : ∃ h4, h4 = halloc hh [.int .u8 0, .nilf] := ⟨_, rfl⟩
     have F_h4 : Fr [] hh h4 := e_h4 ▸ Fr.halloc F.wf _
     have o_h4 : Own h4 hh.next [.int .u8 0, .nilf] := e_h4 ▸ Own.new F.wf _
     simp only [evs, ↓reduceIte, Nat.reduceEqDiff, g32, g31, g30, hlt', p1, p3, ← e_h4]
     refine store_step (c' := [.int .u8 ((i + 1 : Nat) : Int), .func (.func (46 + i)) [.ptr b 0] []]) F_h4.wf o_h4 rfl rfl rfl ?_
     rintro h5 o5 F5 n5
     have F05 : Fr [] hh h5 := F_h4.fresh F5 F.wf (Nat.le_refl _)
     have x0 : hload1 h5 hh.next 0 = some (.int .u8 ((i + 1 : Nat) : Int)) := o5.ld1 0
     have x1 : hload1 h5 hh.next 1 = some (.func (.func (46 + i)) [.ptr b 0] []) := o5.ld1 1
     have Fa := ((F02.then F_h3).then F).then F05
     have on := ((((F2.then F_h3).then F).then F05).get o_h1)
     have y0 : hload1 h5 h.next 0 = some (.int .u8 (k : Int)) := on.ld1 0
     have y5 : hload h5 h.next 0 5 = some [.int .u8 (k : Int), .int .i64 a, .int .i64 c, .int .i64 t, v] := by rw [on.ld]; rfl
     by_cases ek : k = i + 1
     · have ek' : (((i + 1 : Nat) : Int) = (k : Int)) := by omega
       have big : 46 + i < 1099511627776 := by omega
       simp only [evs, ↓reduceIte, Nat.reduceEqDiff, g3, x0, x1, y0, y5, eq_true ek', big]
       refine OQ.mono (show Does go (46 + i) _ h5 R from ?_) ?_
       · have := hD c0 h5 Fa
         rw [show 45 + k = 46 + i by omega] at this
         exact this
       · intro u h' r
         simp only [evs, ↓reduceIte]
         exact r
     · have ek' : ¬ (((i + 1 : Nat) : Int) = (k : Int)) := by omega
       simp (disch := omega) only [evs, ↓reduceIte, Nat.reduceEqDiff, fwrap_i64, g32, g3, x0, y0, eq_false ek']
       refine (roundQ_norm _ _ _).2 ⟨5 - (i + 1), by omega, F.then F05, i + 1, (by simp [T.gs]), (by simp [T.gs, g31]), (by simp [T.gs, g30]), (by simp [T.gs, g0]), (by simp [T.gs, g3]), by omega, rfl⟩
 · simp only [evs, ↓reduceIte, Nat.reduceEqDiff, eq_false c0]
   exact hE _ c0 F02
def row3 : Str := [114, 111, 119]
def kndR (base : Int) (a1 a2 a3 a4 : V) : Knd := ⟨1, row3, [], [], [], a1, a2, .cons 3 [] [] [] [] a3 a4 .nil .nil, base, false, 0⟩
def KS (K : List Knd) : Prop := ∃ a1 a2 a3 a4 a5 a6 a7 a8, K = [kndR 1 a1 a2 a3 a4, kndR 2305843009213693952 a5 a6 a7 a8]
theorem knd_same {base : Int} {a1 a2 a3 a4 : V} {p : Knd} (h : (kndR base a1 a2 a3 a4).same p) : ∃ b1 b2 b3 b4, p = kndR base b1 b2 b3 b4 := by
 obtain ⟨k, tg, ky, sl, tx, vs, vp, sub, ba, stk, pool⟩ := p
 obtain ⟨h1, h2, h3, h4, h5, h6, h7, h8, h9⟩ := h
 simp only [kndR] at h1 h2 h3 h4 h5 h6 h7 h8 h9
 subst h1 h2 h3 h4 h5 h6 h7 h8
 match sub, h9 with
 | .cons k tg ky sl tx x1 x2 s n, ⟨g1, g2, g3, g4, g5, g6, g7⟩ =>
  subst g1 g2 g3 g4 g5
  match s, n, g6, g7 with
  | .nil, .nil, _, _ => exact ⟨vs, vp, x1, x2, rfl⟩
theorem KS.same {K L : List Knd} (k : KS K) (s : sameKs K L) : KS L := by
 obtain ⟨a1, a2, a3, a4, a5, a6, a7, a8, rfl⟩ := k
 match L, s with
 | [p, q], ⟨s1, s2, _⟩ =>
  obtain ⟨b1, b2, b3, b4, rfl⟩ := knd_same s1
  obtain ⟨b5, b6, b7, b8, rfl⟩ := knd_same s2
  exact ⟨_, _, _, _, _, _, _, _, rfl⟩
theorem cnt_row (a3 a4 : V) : PT.count 1 row3 [] [] [] (.cons 3 [] [] [] [] a3 a4 .nil .nil) = 2 := rfl
theorem KS.ok {K : List Knd} (k : KS K) : okR K 64 = true := by
 obtain ⟨a1, a2, a3, a4, a5, a6, a7, a8, rfl⟩ := k
 rfl
structure gI (y : Itm) : Prop where
 k0 : 0 < y.key
 k1 : y.key < 18446744073709551616
 t : y.type < 2
 x : y.text = [] ∨ y.text = [120]
 m : y.marks = []
 v : y.vm = .nils
def tB (t : Nat) : Int := if t = 0 then 1 else 2305843009213693952
theorem KS.len {K : List Knd} (k : KS K) : K.length = 2 := by
 obtain ⟨a1, a2, a3, a4, a5, a6, a7, a8, rfl⟩ := k; rfl
theorem KS.base {K : List Knd} (k : KS K) {y : Itm} (g : gI y) : kBase K y = tB y.type := by
 obtain ⟨a1, a2, a3, a4, a5, a6, a7, a8, rfl⟩ := k
 have := g.t
 have h : y.type = 0 ∨ y.type = 1 := by omega
 unfold kBase
 rcases h with h | h <;> rw [h] <;> rfl
theorem gI.okI {y : Itm} (g : gI y) : okI y 2 = true := by
 have := g.k0
 have t := g.t
 unfold Lay.okI
 rw [g.m]
 rcases g.x with h | h <;> rw [h] <;> simp [t] <;> exact ⟨by omega, rfl, rfl⟩
theorem rend_row {a3 a4 : V} {y : Itm} (g : gI y) : rendE 1 row3 [] [] [] (.cons 3 [] [] [] [] a3 a4 .nil .nil) y 64 = 0 := by
 have c : okCI y = true := okCI_of g.okI
 unfold rendE
 rw [if_neg (by decide), cnt_row, if_neg (by decide), c, if_neg (by decide), if_neg]
 have e : made y (.cons 3 [] [] [] [] a3 a4 .nil .nil) = (wordsS y.text).app .nil := rfl
 rw [e, List.map_nil]
 rcases g.x with h | h <;> rw [h] <;> decide
theorem KS.rend {K : List Knd} (k : KS K) {y : Itm} (g : gI y) : rendK K 64 y = 0 := by
 obtain ⟨a1, a2, a3, a4, a5, a6, a7, a8, rfl⟩ := k
 have := g.t
 have h : y.type = 0 ∨ y.type = 1 := by omega
 unfold rendK
 rcases h with h | h <;> rw [h] <;> exact rend_row g
theorem gI.at {y : Itm} (g : gI y) (h : Heap) : ItmH h y := ⟨g.k1, by have := g.t; omega, by rw [g.v, g.m]; exact (Sl.a (h := h) (esz := 1) (v := .nils) (n := 0) (cs := []) ⟨rfl, rfl⟩ : ARecs sS 1 h .nils []), by rw [g.m]; simp, by rcases g.x with h | h <;> rw [h] <;> decide⟩
theorem KS.inc {K : List Knd} (k : KS K) {p : Nat → Bool} : ∀ {seen : List Nat} {Y : List Itm}, (∀ y ∈ Y, gI y ∧ p y.key = false ∧ y.key ∉ seen) → (Y.map Itm.key).Nodup → incE K 64 p seen Y = 0
 | _, [], _, _ => rfl
 | seen, y :: Y, h, n => by
  obtain ⟨g, h1, h2⟩ := h y (by simp)
  have n' := List.nodup_cons.1 n
  simp only [incE]
  rw [k.len, g.okI, if_neg (by decide), if_neg (by simp [h1, h2]), k.rend g, if_neg (by decide)]
  refine k.inc (fun z m => ?_) n'.2
  obtain ⟨g2, h3, h4⟩ := h z (by simp [m])
  refine ⟨g2, h3, fun q => ?_⟩
  rcases List.mem_append.1 q with q | q
  · exact h4 q
  · simp at q
    exact n'.1 (List.mem_map.2 ⟨z, m, q⟩)
open Go.Ev.St
set_option maxRecDepth 4000
theorem Sto.wrlt {n0 : Nat} {h : Heap} {b bg B bm S bl : Nat} {Ks : List Knd} {cap : Int} {X : List Itm} {l : List Int} {kn st : List Bool} {vK : V} {pm : Option Nat} {mc : KMap} (w : WF h) (s : Sto n0 h b Ks cap X l kn st vK bg B bm S bl pm mc) : ∀ y ∈ Wr b bg B bm S bl pm, y < h.next := by
 intro y m
 simp only [Wr, List.mem_append, List.mem_cons, List.not_mem_nil, or_false] at m
 rcases m with (rfl | rfl | rfl | rfl | rfl | rfl) | m
 · exact s.ob.lt w
 · exact s.g.ob.1.lt w
 · exact s.gB.lt w
 · exact s.k.lt w
 · exact s.Sl'
 · exact s.bl'
 · exact s.pl y (by simpa using m)
def putsK (mc : KMap) : List Nat → Nat → KMap
 | [], _ => mc
 | x :: r, i => putsK (putS mc x i) r (i + 1)
theorem putsS_K : ∀ (mc : KMap) (Y : List Itm) (i : Nat), putsS mc Y i = putsK mc (Y.map Itm.key) i
 | _, [], _ => rfl
 | mc, y :: Y, i => putsS_K (putS mc y.key i) Y (i + 1)
theorem Cps.keys : ∀ {a b : List Itm}, Cps a b → b.map Itm.key = a.map Itm.key
 | [], [], _ => rfl
 | _ :: _, _ :: _, h => by
  obtain ⟨⟨v, rfl⟩, h2⟩ := h
  simp only [List.map_cons, Cps.keys h2]; rfl
 | [], _ :: _, h => h.elim
 | _ :: _, [], h => h.elim
def SS (N : Nat) (h : Heap) (b : Nat) (keys : List Nat) (l : List Int) (kn : List Bool) (mc : KMap) : Prop :=
 ∃ n0 K X st vK bg B bm S bl pm, Sto n0 h b K 64 X l kn st vK bg B bm S bl pm mc ∧ KS K ∧ X.map Itm.key = keys ∧ (∀ y ∈ Wr b bg B bm S bl pm, y < N) ∧ ∀ x ∈ X, 0 < x.key
theorem SS.fr {N : Nat} {h h' : Heap} {b : Nat} {keys : List Nat} {l : List Int} {kn : List Bool} {mc : KMap} (w : WF h) (s : SS N h b keys l kn mc) (f : Fr [] h h') : SS N h' b keys l kn mc := by
 obtain ⟨n0, K, X, st, vK, bg, B, bm, S, bl, pm, s, r⟩ := s
 exact ⟨n0, K, X, st, vK, bg, B, bm, S, bl, pm, s.fr w f, r⟩
def Lit (N : Nat) (h : Heap) (v : V) (Y : List Itm) : Prop := Sl h 4 v Y.length (Y.flatMap Itm.cells) ∧ v.one = true ∧ ∀ (Z : List Nat) (h' : Heap), (∀ z ∈ Z, z < N ∨ h.next ≤ z) → Fr Z h h' → ARecs Itm.cells 4 h' v Y
theorem Lit.new {N : Nat} {h : Heap} {Y : List Itm} (w : WF h) (hN : N ≤ h.next) : Lit N (halloc h (Y.flatMap Itm.cells)) (.slice h.next 0 Y.length Y.length) Y := by
 have o := Own.new w (Y.flatMap Itm.cells)
 have e : ∀ h', Own h' h.next (Y.flatMap Itm.cells) → Sl h' 4 (.slice h.next 0 Y.length Y.length) Y.length (Y.flatMap Itm.cells) := fun h' o => Sl.lit o (flat_len itm_len Y)
 refine ⟨e _ o, rfl, fun Z h' hZ f => Sl.a (e _ (f.own _ _ (fun m => ?_) o))⟩
 have := hZ _ m
 have : (halloc h (Y.flatMap Itm.cells)).next = h.next + 1 := rfl
 omega
theorem Lit.grown {N B : Nat} {h : Heap} {v : V} {Y : List Itm} (w : WF h) (g : Gs h B 4 v (Y.flatMap Itm.cells)) (hB : N ≤ B) : Lit N h v Y := by
 have hl : (Y.flatMap Itm.cells).length = Y.length * 4 := flat_len itm_len Y
 have s := Gs.sl (n := Y.length) g hl (by omega)
 refine ⟨s, s.one, fun Z h' hZ f => ?_⟩
 have g' : Gs h' B 4 v (Y.flatMap Itm.cells) := by
  rcases g with z | ⟨b, n, z1, z2, z3, z4, o⟩
  · exact .inl z
  · refine .inr ⟨b, n, z1, z2, z3, z4, f.own _ _ (fun m => ?_) o⟩
    have := hZ _ m
    have := o.lt w
    omega
 exact Sl.a (Gs.sl (n := Y.length) g' hl (by omega))
section
variable {N : Nat} {h : Heap} {b : Nat} {keys : List Nat} {l : List Int} {kn : List Bool} {mc : KMap} {v : V} {Y : List Itm}
theorem SS.reset (w : WF h) (s : SS N h b keys l kn mc) (lt : Lit N h v Y) (g : ∀ y ∈ Y, gI y) (nd : (Y.map Itm.key).Nodup) (hn : Y.length ≤ 1024) :
 Does go 9 [.ptr b 0, .agg [.int .u8 5, .int .i64 0, .int .i64 0, .int .i64 0, v]] h fun u h' => WF h' ∧ u = .int .i64 (xinsE [] 0 (Y.map fun y => tB y.type)) ∧
  (xinsE [] 0 (Y.map fun y => tB y.type) = 0 → SS h'.next h' b (Y.map Itm.key) (Y.map fun y => tB y.type) (List.replicate Y.length false) (putsK (fun _ => none, 0) (Y.map Itm.key) 0)) ∧
  (xinsE [] 0 (Y.map fun y => tB y.type) ≠ 0 → SS h'.next h' b keys l kn mc) := by
 obtain ⟨n0, K, X, st, vK, bg, B, bm, S, bl, pm, s, k, ek, wr, kp⟩ := s
 have e0 : chkE 5 0 0 0 Y.length = 0 := by simp [chkE]
 refine sApply_ok (k := 5) (n := Y.length) w s (by omega) lt.1 (fun h' c f => absurd e0 c) (fun _ h1 f1 => ?_)
 have s1 := s.fr w f1
 have eb : Y.map (kBase K) = Y.map fun y => tB y.type := List.map_congr_left fun y m => k.base (g y m)
 have er : resE K 64 Y = xinsE [] 0 (Y.map fun y => tB y.type) := by
  unfold resE
  rw [if_neg (by omega), k.inc (fun y m => ⟨g y m, rfl, by simp⟩) nd, if_neg (by decide), eb]
 refine OQ.mono (reset_ok f1.wf s1 k.ok ((lt.2.2 [] h (by simp) (Fr.refl w)).fr f1) (fun y m => ⟨(g y m).at _, by rw [(g y m).v]; rfl⟩) (by omega) (by simp only [onesB_cons, onesB_nil, lt.2.1]; rfl)) ?_
 rintro _ h' ⟨rfl, r1, r2⟩
 rw [er] at r1 r2 ⊢
 by_cases c : xinsE [] 0 (Y.map fun y => tB y.type) = 0
 · obtain ⟨f2, K', Y', vK', bg', B', bm', S', bl', pm', sk, cp, s2, ge⟩ := r2 c
   rw [eb, putsS_K, cp.keys] at s2
   refine ⟨f2.wf, rfl, fun _ => ⟨_, _, _, _, _, _, _, _, _, _, _, s2, k.same sk, cp.keys, s2.wrlt f2.wf, fun x m => ?_⟩, fun e => absurd c e⟩
   obtain ⟨y, ym, vy, rfl⟩ := cp.mem m
   exact (g y ym).k0
 · have f2 := r1 c
   have s2 := s1.fr f1.wf f2
   exact ⟨f2.wf, rfl, fun e => absurd e c, fun _ => ⟨_, _, _, _, _, _, _, _, _, _, _, s2, k, ek, s2.wrlt f2.wf, kp⟩⟩
theorem SS.svof {n0 : Nat} {K : List Knd} {X : List Itm} {st : List Bool} {vK : V} {bg B bm S bl : Nat} {pm : Option Nat} {h1 : Heap} (w : WF h) (s : Sto n0 h b K 64 X l kn st vK bg B bm S bl pm mc) (wr : ∀ y ∈ Wr b bg B bm S bl pm, y < N) (lt : Lit N h v Y) (g : ∀ y ∈ Y, gI y) (f1 : Fr [] h h1) :
 ∀ (Z : List Nat) (h' : Heap), (∀ z ∈ Z, z ∈ Wr b bg B bm S bl pm ∨ h1.next ≤ z) → Fr Z h1 h' → ARecs Itm.cells 4 h' v Y ∧ ∀ y ∈ Y, ItmH h' y := by
 intro Z h' hZ f
 refine ⟨lt.2.2 Z h' (fun z m => ?_) (Fr.trans f1 f w (by simp) (fun x m => .inl m)), fun y m => (g y m).at _⟩
 have := f1.next
 rcases hZ z m with q | q
 · exact .inl (wr z q)
 · exact .inr (by omega)
theorem SS.insert {a : Nat} (w : WF h) (s : SS N h b keys l kn mc) (lt : Lit N h v Y) (g : ∀ y ∈ Y, gI y ∧ (mc.1 y.key).isSome = false) (nd : (Y.map Itm.key).Nodup) (ha : a ≤ keys.length) (hn : keys.length + Y.length ≤ 1024) (hc : mc.2 + 1024 ≤ 4096) :
 Does go 9 [.ptr b 0, .agg [.int .u8 1, .int .i64 (a : Int), .int .i64 0, .int .i64 0, v]] h fun u h' => WF h' ∧ u = .int .i64 (xinsE l a (Y.map fun y => tB y.type)) ∧
  (xinsE l a (Y.map fun y => tB y.type) = 0 → SS h'.next h' b (keys.take a ++ Y.map Itm.key ++ keys.drop a) (l.take a ++ (Y.map fun y => tB y.type) ++ l.drop a) (kn.take a ++ List.replicate Y.length false ++ kn.drop a) (putsK mc ((keys.take a ++ Y.map Itm.key ++ keys.drop a).drop a) a)) ∧
  (xinsE l a (Y.map fun y => tB y.type) ≠ 0 → SS h'.next h' b keys l kn mc) := by
 obtain ⟨n0, K, X, st, vK, bg, B, bm, S, bl, pm, s, k, ek, wr, kp⟩ := s
 have lk : X.length = keys.length := by rw [← ek]; simp
 have e0 : chkE 1 a 0 0 Y.length = 0 := by simp [chkE]
 refine sApply_ok (k := 1) (n := Y.length) w s (by omega) lt.1 (fun h' c f => absurd e0 c) (fun _ h1 f1 => ?_)
 have s1 := s.fr w f1
 have eb : Y.map (kBase K) = Y.map fun y => tB y.type := List.map_congr_left fun y m => k.base (g y m).1
 have er : insX K 64 a X Y l (fun x => (mc.1 x).isSome) = xinsE l a (Y.map fun y => tB y.type) := by
  unfold insX
  rw [if_neg (by omega), if_neg (by omega), k.inc (fun y m => ⟨(g y m).1, (g y m).2, by simp⟩) nd, if_neg (by decide), eb, Int.toNat_natCast]
 refine OQ.mono (insert_ok f1.wf s1 (by omega) k.ok kp (by omega) hc (SS.svof w s wr lt (fun y m => (g y m).1) f1) (fun y m => by rw [(g y m).1.v]; rfl) (by omega) (by simp only [onesB_cons, onesB_nil, lt.2.1]; rfl)) ?_
 rintro _ h' ⟨rfl, r1, r2⟩
 rw [er] at r1 r2 ⊢
 by_cases c : xinsE l a (Y.map fun y => tB y.type) = 0
 · obtain ⟨_, _, _, Y', B', S', pm', cp, s2, f2, _⟩ := r2 c
   rw [Int.toNat_natCast, eb] at s2
   have em : (X.take a ++ Y' ++ X.drop a).map Itm.key = keys.take a ++ Y.map Itm.key ++ keys.drop a := by simp only [List.map_drop, List.map_append, List.map_take, cp.keys, ek]
   rw [putsS_K, List.map_drop, em] at s2
   refine ⟨f2.wf, rfl, fun _ => ⟨_, _, _, _, _, _, _, _, _, _, _, s2, k, em, s2.wrlt f2.wf, fun x m => ?_⟩, fun e => absurd c e⟩
   · rcases List.mem_append.1 m with m | m
     · rcases List.mem_append.1 m with m | m
       · exact kp x (List.mem_of_mem_take m)
       · obtain ⟨y, ym, vy, rfl⟩ := cp.mem m
         exact (g y ym).1.k0
     · exact kp x (List.mem_of_mem_drop m)
 · obtain ⟨f2, pm', _, s2⟩ := r1 c
   exact ⟨f2.wf, rfl, fun e => absurd e c, fun _ => ⟨_, _, _, _, _, _, _, _, _, _, _, s2, k, ek, s2.wrlt f2.wf, kp⟩⟩
theorem SS.full (w : WF h) (s : SS N h b keys l kn mc) (lt : Lit N h v Y) (g : ∀ y ∈ Y, gI y) (hk : keys.length = 1024) (hn : 0 < Y.length) (hl : Y.length ≤ 1024) (hc : mc.2 + 1024 ≤ 4096) :
 Does go 9 [.ptr b 0, .agg [.int .u8 1, .int .i64 0, .int .i64 0, .int .i64 0, v]] h fun u h' => WF h' ∧ u = .int .i64 3 ∧ SS h'.next h' b keys l kn mc := by
 obtain ⟨n0, K, X, st, vK, bg, B, bm, S, bl, pm, s, k, ek, wr, kp⟩ := s
 have lk : X.length = keys.length := by rw [← ek]; simp
 have e0 : chkE 1 0 0 0 Y.length = 0 := by simp [chkE]
 refine sApply_ok (k := 1) (n := Y.length) w s (by omega) lt.1 (fun h' c f => absurd e0 c) (fun _ h1 f1 => ?_)
 have s1 := s.fr w f1
 have er : insX K 64 0 X Y l (fun x => (mc.1 x).isSome) = 3 := by
  unfold insX
  rw [if_neg (by omega), if_pos (by omega)]
 refine OQ.mono (insert_ok f1.wf s1 (by omega) k.ok kp (by omega) hc (SS.svof w s wr lt g f1) (fun y m => by rw [(g y m).v]; rfl) (by omega) (by simp only [onesB_cons, onesB_nil, lt.2.1]; rfl)) ?_
 rintro _ h' ⟨rfl, r1, r2⟩
 rw [er] at r1 ⊢
 obtain ⟨f2, pm', _, s2⟩ := r1 (by decide)
 exact ⟨f2.wf, rfl, ⟨_, _, _, _, _, _, _, _, _, _, _, s2, k, ek, s2.wrlt f2.wf, kp⟩⟩
end
open Go.Ev.St
set_option maxRecDepth 4000
theorem KS.chk {K : List Knd} (k : KS K) {X : List Itm} : ∀ {Y : List Itm} {i : Nat}, (∀ y ∈ Y, gI y) → (∀ j y, Y[j]? = some y → X[i + j]?.map Itm.key = some y.key) → chkC K 64 X i Y = 0
 | [], _, _, _ => rfl
 | y :: Y, i, g, h => by
  have g0 := g y (by simp)
  have h0 := h 0 y rfl
  simp only [chkC]
  rw [k.len, g0.okI, if_neg (by decide), if_neg (by simpa using h0), k.rend g0, if_neg (by decide)]
  refine k.chk (fun z m => g z (by simp [m])) fun j z e => ?_
  have := h (j + 1) z (by simpa using e)
  rwa [show i + 1 + j = i + (j + 1) by omega]
section
variable {N : Nat} {h : Heap} {b : Nat} {keys : List Nat} {l : List Int} {kn : List Bool} {mc : KMap} {v : V} {Y : List Itm}
theorem SS.change {a : Nat} (w : WF h) (s : SS N h b keys l kn mc) (lt : Lit N h v Y) (g : ∀ y ∈ Y, gI y) (hk : ∀ j y, Y[j]? = some y → keys[a + j]? = some y.key) (ha : a + Y.length ≤ keys.length) (hn : keys.length ≤ 1024) :
 Does go 9 [.ptr b 0, .agg [.int .u8 4, .int .i64 (a : Int), .int .i64 0, .int .i64 0, v]] h fun u h' => WF h' ∧ u = .int .i64 (chR l a (Y.map fun y => tB y.type) 2 l kn).1 ∧
  ((chR l a (Y.map fun y => tB y.type) 2 l kn).1 = 0 → SS h'.next h' b keys (chR l a (Y.map fun y => tB y.type) 2 l kn).2.1 (chR l a (Y.map fun y => tB y.type) 2 l kn).2.2 mc) ∧
  ((chR l a (Y.map fun y => tB y.type) 2 l kn).1 ≠ 0 → SS h'.next h' b keys l kn mc) := by
 obtain ⟨n0, K, X, st, vK, bg, B, bm, S, bl, pm, s, k, ek, wr, kp⟩ := s
 have lk : X.length = keys.length := by rw [← ek]; simp
 have e0 : chkE 4 a 0 0 Y.length = 0 := by simp [chkE]
 refine sApply_ok (k := 4) (n := Y.length) w s (by omega) lt.1 (fun h' c f => absurd e0 c) (fun _ h1 f1 => ?_)
 have s1 := s.fr w f1
 have eb : Y.map (kBase K) = Y.map fun y => tB y.type := List.map_congr_left fun y m => k.base (g y m)
 have ec : chkC K 64 X a Y = 0 := k.chk g fun j y e => by
  have := hk j y e
  rw [← ek, List.getElem?_map] at this
  exact this
 have er : chgE K 64 a X Y l kn = (chR l a (Y.map fun y => tB y.type) 2 l kn).1 := by
  unfold chgE
  rw [if_neg (by omega), Int.toNat_natCast, ec, if_neg (by decide), eb]
 refine OQ.mono (change_ok f1.wf s1 (by omega) k.ok (by omega) (SS.svof w s wr lt g f1) (fun y m => by rw [(g y m).v]; rfl) (by omega) (by simp only [onesB_cons, onesB_nil, lt.2.1]; rfl)) ?_
 rintro _ h' ⟨rfl, r1, r2⟩
 rw [er] at r1 r2 ⊢
 by_cases c : (chR l a (Y.map fun y => tB y.type) 2 l kn).1 = 0
 · obtain ⟨_, _, f2, Y', cp, s2⟩ := r2 c
   rw [Int.toNat_natCast, eb] at s2
   have em : (X.take a ++ Y' ++ X.drop (a + Y.length)).map Itm.key = keys := by
    simp only [List.map_drop, List.map_append, List.map_take, cp.keys, ek]
    have : Y.map Itm.key = (keys.drop a).take Y.length := by
     refine List.ext_getElem? fun j => ?_
     rw [List.getElem?_map, List.getElem?_take, List.getElem?_drop]
     by_cases cj : j < Y.length
     · rw [if_pos cj, hk j Y[j] (List.getElem?_eq_getElem cj), List.getElem?_eq_getElem cj]; rfl
     · rw [if_neg cj, List.getElem?_eq_none (by omega)]; rfl
    rw [this, List.append_assoc, ← List.drop_drop, List.take_append_drop, List.take_append_drop]
   refine ⟨f2.wf, rfl, fun _ => ⟨_, _, _, _, _, _, _, _, _, _, _, s2, k, em, s2.wrlt f2.wf, fun x m => ?_⟩, fun e => absurd c e⟩
   rcases List.mem_append.1 m with m | m
   · rcases List.mem_append.1 m with m | m
     · exact kp x (List.mem_of_mem_take m)
     · obtain ⟨y, ym, vy, rfl⟩ := cp.mem m
       exact (g y ym).k0
   · exact kp x (List.mem_of_mem_drop m)
 · obtain ⟨f2, bl', pm', _, _, s2⟩ := r1 c
   exact ⟨f2.wf, rfl, fun e => absurd e c, fun _ => ⟨_, _, _, _, _, _, _, _, _, _, _, s2, k, ek, s2.wrlt f2.wf, kp⟩⟩
theorem SS.measure {H : List (Nat × Int)} {v : V} (w : WF h) (s : SS N h b keys l kn mc) (lt : ∀ (Z : List Nat) (h' : Heap), (∀ z ∈ Z, z < N ∨ h.next ≤ z) → Fr Z h h' → ARecs htC 2 h' v H) (hH : ∀ x ∈ H, x.1 < 18446744073709551616 ∧ -9223372036854775808 ≤ x.2 ∧ x.2 ≤ 9223372036854775807) (hl : H.length ≤ 4096) (hm : ∀ k j, mc.1 k = some j → j ≤ 4096) (ok : (meas mc.1 H 0 l kn).1 = 0) :
 Does go 12 [.ptr b 0, v] h fun u h' => WF h' ∧ u = .tup [.int .i64 ((meas mc.1 H 0 l kn).2.1 : Int), .int .i64 0] ∧ SS h'.next h' b keys (meas mc.1 H 0 l kn).2.2.1 (meas mc.1 H 0 l kn).2.2.2 mc := by
 obtain ⟨n0, K, X, st, vK, bg, B, bm, S, bl, pm, s, k, ek, wr, kp⟩ := s
 refine OQ.mono (sMeasure_ok w s (fun Z h' hZ f => lt Z h' (fun z m => (hZ z m).imp (wr z) id) f) hH hl hm) ?_
 rintro _ h' ⟨rfl, r1, _⟩
 obtain ⟨f2, s2⟩ := r1 ok
 exact ⟨f2.wf, by rw [ok], ⟨_, _, _, _, _, _, _, _, _, _, _, s2, k, ek, s2.wrlt f2.wf, kp⟩⟩
theorem SS.find {key : Nat} (w : WF h) (s : SS N h b keys l kn mc) (hk : key < 18446744073709551616) : Does go 10 [.ptr b 0, .int .u64 (key : Int)] h fun u h' => u = getV' (mc.1 key) ∧ WF h' ∧ h.next ≤ h'.next ∧ SS N h' b keys l kn mc := by
 have s0 := s
 obtain ⟨n0, K, X, st, vK, bg, B, bm, S, bl, pm, s, r⟩ := s
 refine OQ.mono (sFind_ok w s hk) ?_
 rintro _ h' ⟨rfl, f⟩
 exact ⟨rfl, f.wf, f.next, s0.fr w f⟩
theorem SS.count (s : SS N h b keys l kn mc) : Does go 11 [.ptr b 0] h fun u h' => u = .int .i64 (keys.length : Nat) ∧ h = h' := by
 obtain ⟨n0, K, X, st, vK, bg, B, bm, S, bl, pm, s, k, rfl, r⟩ := s
 refine OQ.mono (sLen_ok s) ?_
 rintro _ h' ⟨rfl, f⟩
 exact ⟨by simp, f⟩
theorem SS.total (w : WF h) (s : SS N h b keys l kn mc) : Does go 13 [.ptr b 0] h fun u h' => ∃ c, u = .ptr c 0 ∧ WF h' ∧ Does go 14 [.ptr c 0] h' fun u h2 => u = .int .i64 l.sum := by
 obtain ⟨n0, K, X, st, vK, bg, B, bm, S, bl, pm, s, r⟩ := s
 refine OQ.mono (sLayout_ok w s) ?_
 rintro _ h' ⟨c, pm', rfl, _, _, lo, f⟩
 exact ⟨c, rfl, f.wf, OQ.mono (LTotal_ok f.wf lo.lo) fun u h2 x => x.1⟩
end
open Go.Ev.St
set_option maxRecDepth 4000
theorem W3 {h : Heap} {R : V → Heap → Prop} (w : WF h)
 (k : ∀ env h' b, WF h' → env.get 3 = some (.ptr b 0) → SS h'.next h' b [] [] [] (fun _ => none, 0) → W go knA env h' (RetQ [.t 0] R)) : Does go 3 [] h R := by
 obtain ⟨h1, e_h1⟩ : ∃ h1, h1 = halloc h [.int .u8 3, .str [], .str [], .nils, .str [], .nils] := ⟨_, rfl⟩
 have F_h1 : Fr [] h h1 := e_h1 ▸ Fr.halloc w _
 have o_h1 : Own h1 h.next [.int .u8 3, .str [], .str [], .nils, .str [], .nils] := e_h1 ▸ Own.new w _
 obtain ⟨h2, e_h2⟩ : ∃ h2, h2 = halloc h1 [.int .u8 0, .str [], .str [], .nils, .str [], .nils] := ⟨_, rfl⟩
 have F_h2 : Fr [] h1 h2 := e_h2 ▸ Fr.halloc F_h1.wf _
 have o_h2 : Own h2 h1.next [.int .u8 0, .str [], .str [], .nils, .str [], .nils] := e_h2 ▸ Own.new F_h1.wf _
 refine does_fn g3x rfl ?_
 simp only [evs, ↓reduceIte, Nat.reduceAdd, Nat.reduceLT, fn3x, ← e_h1, ← e_h2]
 refine store_step (c' := [.int .u8 1, .str row3, .str [], .nils, .str [], .slice h.next 0 1 1]) F_h2.wf o_h2 rfl rfl rfl ?_
 rintro h3 o3 F3 n3
 have p3 : hload h3 h1.next 0 6 = some [.int .u8 1, .str row3, .str [], .nils, .str [], .slice h.next 0 1 1] := by rw [o3.ld]; rfl
 have n1 : h1.next = h.next + 1 := by rw [e_h1]; rfl
 obtain ⟨h4, e_h4⟩ : ∃ h4, h4 = halloc h3 [.int .u8 1, .str row3, .str [], .nils, .str [], .slice h.next 0 1 1, .int .i64 1, .bool false, .int .i64 0, .int .u8 1, .str row3, .str [], .nils, .str [], .slice h.next 0 1 1, .int .i64 2305843009213693952, .bool false, .int .i64 0] := ⟨_, rfl⟩
 have F_h4 : Fr [] h3 h4 := e_h4 ▸ Fr.halloc F3.wf _
 have o_h4 : Own h4 h3.next [.int .u8 1, .str row3, .str [], .nils, .str [], .slice h.next 0 1 1, .int .i64 1, .bool false, .int .i64 0, .int .u8 1, .str row3, .str [], .nils, .str [], .slice h.next 0 1 1, .int .i64 2305843009213693952, .bool false, .int .i64 0] := e_h4 ▸ Own.new F3.wf _
 obtain ⟨h5, e_h5⟩ : ∃ h5, h5 = halloc h4 [.nils, .int .i64 0] := ⟨_, rfl⟩
 have F_h5 : Fr [] h4 h5 := e_h5 ▸ Fr.halloc F_h4.wf _
 have o_h5 : Own h5 h4.next [.nils, .int .i64 0] := e_h5 ▸ Own.new F_h4.wf _
 simp only [evs, ↓reduceIte, Nat.reduceAdd, Nat.reduceLT, p3, ← e_h4, ← e_h5]
 refine store_step (c' := [.slice h3.next 0 2 2, .int .i64 64]) F_h5.wf o_h5 rfl rfl rfl ?_
 rintro h6 o6 F6 n6
 have n2 : h2.next = h1.next + 1 := by rw [e_h2]; rfl
 have n4 : h4.next = h3.next + 1 := by rw [e_h4]; rfl
 have p6 : hload h6 h4.next 0 2 = some [.slice h3.next 0 2 2, .int .i64 64] := by rw [o6.ld]; rfl
 have ok6 := F6.own _ _ (by simp; omega) (F_h5.get o_h4)
 have op6 := F6.own _ _ (by simp; omega) ((F_h4.then F_h5).get (F3.own _ _ (by simp; omega) (F_h2.get o_h1)))
 let K0 : List Knd := [kndR 1 .nils (.slice h.next 0 1 1) .nils .nils, kndR 2305843009213693952 .nils (.slice h.next 0 1 1) .nils .nils]
 have rk : Recs Knd.cells 9 h6 (.slice h3.next 0 2 2) K0 := Sl.lit ok6 rfl
 have kh : ∀ q ∈ K0, KndH h6 q := by
  have a : ∀ base, KndH h6 (kndR base .nils (.slice h.next 0 1 1) .nils .nils) := fun base =>
   ⟨Nat.le_of_ble_eq_true rfl, ⟨rfl, rfl⟩, Nat.le_of_ble_eq_true rfl, Sl.lit op6 rfl, Nat.le_of_ble_eq_true rfl, ⟨Nat.le_of_ble_eq_true rfl, ⟨rfl, rfl⟩, Nat.le_of_ble_eq_true rfl, ⟨rfl, rfl⟩, Nat.le_of_ble_eq_true rfl, trivial, trivial⟩, trivial⟩
  intro q m
  simp only [K0, List.mem_cons, List.not_mem_nil, or_false] at m
  rcases m with rfl | rfl <;> exact a _
 have k0 : KS K0 := ⟨_, _, _, _, _, _, _, _, rfl⟩
 simp only [evs, ↓reduceIte, p6]
 refine OQ_does (sNew_ok F6.wf rk kh (Nat.le_of_ble_eq_true rfl) k0.ok) ?_
 rintro _ h7 ⟨b, bg, bm, bl, vK, K, rfl, F7, sK, s7, ge⟩
 simp only [evs, ↓reduceIte, Nat.reduceEqDiff]
 refine k _ _ b F7.wf (by simp [T.gs]) ⟨_, _, _, _, _, _, _, _, _, _, _, s7, k0.same sK, rfl, s7.wrlt F7.wf, by simp⟩
def yn (j : Nat) : Itm := ⟨1024 - j, 0, [120], [], .nils⟩
def Yn (i : Nat) : List Itm := (List.range i).map yn
theorem Yn_succ (i : Nat) : Yn (i + 1) = Yn i ++ [yn i] := by simp [Yn, List.range_succ]
theorem Yn_len (i : Nat) : (Yn i).length = i := by simp [Yn]
theorem Yn_good {i : Nat} (hi : i ≤ 1024) : ∀ y ∈ Yn i, gI y := by
 intro y m
 obtain ⟨j, mj, rfl⟩ := List.mem_map.1 m
 have := List.mem_range.1 mj
 exact ⟨by simp only [yn]; omega, by simp only [yn]; omega, by simp only [yn]; omega, .inr rfl, rfl, rfl⟩
theorem Yn_nodup {i : Nat} (hi : i ≤ 1024) : ((Yn i).map Itm.key).Nodup := by
 unfold Yn
 rw [List.map_map]
 refine List.pairwise_map.2 (List.Pairwise.imp_of_mem (fun {a b} ma mb ab => ?_) List.nodup_range)
 have := List.mem_range.1 ma
 have := List.mem_range.1 mb
 simp only [Function.comp, yn]
 omega
theorem putsK_app : ∀ (mc : KMap) (A B : List Nat) (i : Nat), putsK mc (A ++ B) i = putsK (putsK mc A i) B (i + A.length)
 | _, [], _, _ => rfl
 | mc, x :: A, B, i => by
  simp only [List.cons_append, putsK, List.length_cons, putsK_app _ A B]
  rw [show i + 1 + A.length = i + (A.length + 1) by omega]
theorem putsK_len : ∀ (mc : KMap) (A : List Nat) (i : Nat), (putsK mc A i).2 ≤ mc.2 + A.length
 | _, [], _ => Nat.le_refl _
 | mc, x :: A, i => by
  have := putsK_len (putS mc x i) A (i + 1)
  simp only [putsK, List.length_cons]
  have : (putS mc x i).2 ≤ mc.2 + 1 := by unfold putS; simp only; split <;> omega
  omega
theorem last_key : (putsK (fun _ => none, 0) ((Yn 1024).map Itm.key) 0).1 1 = some 1023 := by
 rw [Yn_succ 1023, List.map_append, putsK_app, List.length_map, Yn_len]
 simp only [List.map_cons, List.map_nil, putsK, putS, mset', yn]
 rw [if_pos (by decide)]
theorem sum1024 : xinsE [] 0 ((Yn 1024).map fun y => tB y.type) = 0 := by
 have : (Yn 1024).map (fun y => tB y.type) = (List.range 1024).map fun _ => 1 := by
  unfold Yn; rw [List.map_map]; rfl
 rw [this]
 decide +kernel
theorem vb_own {h : Heap} {B : Nat} {v : V} {cs : List V} (w : WF h) (g : Gs h B 4 v cs) : ∀ y ∈ vb v, B ≤ y ∧ y < h.next := by
 rcases g with ⟨rfl, _⟩ | ⟨b, n, rfl, _, _, hb, o⟩
 · simp [vb]
 · have := o.lt w
   simp only [vb, List.mem_singleton]; rintro y rfl; exact ⟨hb, this⟩
theorem fr_nil {h : Heap} {v : V} {cs : List V} {h' : Heap} {B : Nat} (g : Gs h B 4 v cs) (f : Fr [] h h') : Gs h' B 4 v cs := Gs.frX g f (by simp)
theorem SS.up {N N' : Nat} {h : Heap} {b : Nat} {keys : List Nat} {l : List Int} {kn : List Bool} {mc : KMap} (s : SS N h b keys l kn mc) (hN : N ≤ N') : SS N' h b keys l kn mc := by
 obtain ⟨n0, K, X, st, vK, bg, B, bm, S, bl, pm, s, k, ek, wr, kp⟩ := s
 exact ⟨n0, K, X, st, vK, bg, B, bm, S, bl, pm, s, k, ek, fun y m => Nat.lt_of_lt_of_le (wr y m) hN, kp⟩
theorem KnA {h : Heap} {env : T V} {b : Nat} {R : V → Heap → Prop} (w : WF h) (e3 : env.get 3 = some (.ptr b 0)) (s : SS h.next h b [] [] [] (fun _ => none, 0))
 (k : ∀ env' h', WF h' → env'.get 3 = some (.ptr b 0) → SS h'.next h' b ((Yn 1024).map Itm.key) ((Yn 1024).map fun y => tB y.type) (List.replicate 1024 false) (putsK (fun _ => none, 0) ((Yn 1024).map Itm.key) 0) → W go knB env' h' (RetQ [.t 0] R)) :
 W go knA env h (RetQ [.t 0] R) := by
 obtain ⟨h1, e_h1⟩ : ∃ h1, h1 = halloc h [.int .u8 0, .int .i64 0, .int .i64 0, .int .i64 0, .nils] := ⟨_, rfl⟩
 have F_h1 : Fr [] h h1 := e_h1 ▸ Fr.halloc w _
 have o_h1 : Own h1 h.next [.int .u8 0, .int .i64 0, .int .i64 0, .int .i64 0, .nils] := e_h1 ▸ Own.new w _
 simp only [evs, ↓reduceIte, knA, ← e_h1]
 refine store_step (c' := [.int .u8 5, .int .i64 0, .int .i64 0, .int .i64 0, .nils]) F_h1.wf o_h1 rfl rfl rfl ?_
 rintro h2 o2 F2 n2
 have F02 : Fr [] h h2 := F_h1.fresh F2 w (Nat.le_refl _)
 have n1 : h1.next = h.next + 1 := by rw [e_h1]; rfl
 have n12 := F2.next
 simp only [evs]
 refine W_loop (fun n env hh => Fr [] h hh ∧ ∃ (i : Nat) (vs : V), Gs hh (h.next + 1) 4 vs ((Yn i).flatMap Itm.cells) ∧ Own hh h.next [.int .u8 5, .int .i64 0, .int .i64 0, .int .i64 0, vs] ∧
  env.get 6 = some (.int .i64 (i : Int)) ∧ env.get 5 = some (.ptr h.next 0) ∧ env.get 3 = some (.ptr b 0) ∧ i ≤ 1024 ∧ h.next + 1 ≤ hh.next ∧ n = 1024 - i) 1024 (by omega) ?_ ?_
 · exact ⟨F02, 0, .nils, .inl ⟨rfl, rfl⟩, o2, (by simp [T.gs]), (by simp [T.gs]), (by simp [T.gs, e3]), by omega, by omega, rfl⟩
 · rintro n env hh ⟨F, i, vs, G, on, g6, g5, g3, hi, hn, rfl⟩
   have wh := F.wf
   have vbo := vb_own wh G
   by_cases hlt : i < 1024
   · have hlt' : (i : Int) < 1024 := by omega
     have l4 : hload1 hh h.next 4 = some vs := on.ld1 4
     have cv : fwrap .u64 (1024 - (i : Int)) = ((1024 - i : Nat) : Int) := by rw [fwrap_u64 _ (by omega) (by omega)]; omega
     obtain ⟨h3, e_h3⟩ : ∃ h3, h3 = halloc hh [.int .u64 ((1024 - i : Nat) : Int), .int .u8 0, .str [120], .nils] := ⟨_, rfl⟩
     have F_h3 : Fr [] hh h3 := e_h3 ▸ Fr.halloc wh _
     have o_h3 : Own h3 hh.next [.int .u64 ((1024 - i : Nat) : Int), .int .u8 0, .str [120], .nils] := e_h3 ▸ Own.new wh _
     simp (disch := omega) only [evs, ↓reduceIte, Nat.reduceEqDiff, Nat.reduceAdd, Nat.reduceLT, fwrap_i64, g6, g5, hlt', l4, cv, ← e_h3]
     have G3 := fr_nil G F_h3
     have n3 := F_h3.next
     refine Gs.append1 (n := 1) F_h3.wf G3 (Sl.lit o_h3 rfl) (by omega) (by omega) rfl (by omega) (by rw [flat_len itm_len, Yn_len]; omega) ?_
     intro vs' h4 G4 e4 F4
     have on4 := F4.own _ _ (fun m => by have := vbo _ m; omega) (F_h3.get on)
     have F04 : Fr [] h h4 := Fr.new w (F.then F_h3) F4 (fun y m => by have := vbo _ m; omega)
     have n4 := F4.next
     simp only [evs, ↓reduceIte, Nat.reduceEqDiff, g5]
     have G4' : Gs h4 (h.next + 1) 4 vs' ((Yn (i + 1)).flatMap Itm.cells) := by rw [Yn_succ, List.flatMap_append]; exact G4
     have v1 : vs'.one = true := (Gs.sl (n := i + 1) G4' (by rw [flat_len itm_len, Yn_len]) (by omega)).one
     refine store_step (c' := [.int .u8 5, .int .i64 0, .int .i64 0, .int .i64 0, vs']) F4.wf on4 (by rw [cells_one v1]; rfl) (by rw [cells_one v1]; simp only [onesB_cons, onesB_nil, v1]; rfl) (by rw [cells_one v1]; rfl) ?_
     rintro h5 o5 F5 n5
     have F05 : Fr [] h h5 := Fr.new w F04 F5 (fun y m => by simp at m; omega)
     have G5 := Gs.frX G4' F5 (fun y m => by simp at m; omega)
     simp (disch := omega) only [evs, ↓reduceIte, Nat.reduceEqDiff, fwrap_i64, g6]
     refine (roundQ_norm _ _ _).2 ⟨1024 - (i + 1), by omega, F05, i + 1, vs', G5, o5, (by simp [T.gs]), (by simp [T.gs, g5]), (by simp [T.gs, g3]), by omega, by omega, rfl⟩
   · have : i = 1024 := by omega
     subst this
     have hlt' : ¬ ((1024 : Nat) : Int) < 1024 := by omega
     have p5 : hload hh h.next 0 5 = some [.int .u8 5, .int .i64 0, .int .i64 0, .int .i64 0, vs] := by rw [on.ld]; rfl
     simp only [evs, ↓reduceIte, Nat.reduceEqDiff, Nat.reduceSub, g6, g5, g3, eq_false hlt', p5]
     have ss := s.fr w F
     refine OQ_does (SS.reset wh ss (Lit.grown wh G (by omega)) (Yn_good (by omega)) (Yn_nodup (by omega)) (by rw [Yn_len]; omega)) ?_
     rintro _ h2' ⟨w2, rfl, s2, _⟩
     have s2 := s2 sum1024
     rw [Yn_len] at s2
     rw [sum1024]
     have hc : (putsK (fun _ => none, 0) ((Yn 1024).map Itm.key) 0).2 + 1024 ≤ 4096 := by
      have := putsK_len (fun _ => none, 0) ((Yn 1024).map Itm.key) 0
      rw [List.length_map, Yn_len] at this
      simp only at this; omega
     simp only [evs, ↓reduceIte, Nat.reduceEqDiff, Nat.reduceAdd, Nat.reduceLT, g3]
     have g5k : ∀ y ∈ [(⟨5000, 0, [], [], .nils⟩ : Itm)], gI y := by
      intro y m
      simp only [List.mem_singleton] at m
      subst m
      exact ⟨by decide, by decide, by decide, .inl rfl, rfl, rfl⟩
     refine OQ_does (SS.full (Fr.halloc w2 _).wf (s2.fr w2 (Fr.halloc w2 _)) (Lit.new (Y := [⟨5000, 0, [], [], .nils⟩]) w2 (Nat.le_refl _)) g5k (by rw [List.length_map, Yn_len]) (by decide) (by decide) hc) ?_
     rintro _ h3 ⟨w3, rfl, s3⟩
     simp only [evs, ↓reduceIte, Nat.reduceEqDiff, g3]
     refine OQ_does (SS.find (key := 1) w3 s3 (by decide)) ?_
     rintro _ h4 ⟨rfl, w4, n4, s4⟩
     rw [last_key]
     simp only [evs, ↓reduceIte, Nat.reduceEqDiff, getV', show ((1023 : Nat) : Int) = 1023 from rfl]
     exact k _ _ w4 (by simp [T.gs, g3]) (s4.up n4)
abbrev it (k t : Nat) : Itm := ⟨k, t, [], [], .nils⟩
theorem gIt {k t : Nat} (h0 : 0 < k) (h1 : k < 18446744073709551616) (h2 : t < 2) : gI (it k t) := ⟨h0, h1, h2, .inl rfl, rfl, rfl⟩
theorem all1 {p : Itm → Prop} {a : Itm} (ha : p a) : ∀ y ∈ [a], p y := by simpa using ha
theorem all2 {p : Itm → Prop} {a b : Itm} (ha : p a) (hb : p b) : ∀ y ∈ [a, b], p y := by
 intro y m; simp at m; rcases m with rfl | rfl <;> assumption
theorem all3 {p : Itm → Prop} {a b c : Itm} (ha : p a) (hb : p b) (hc : p c) : ∀ y ∈ [a, b, c], p y := by
 intro y m; simp at m; rcases m with rfl | rfl | rfl <;> assumption
theorem lives15 (h : Heap) : Does go 15 [] h fun u h' => u = .bool true ∧ h = h' :=
 ⟨.bool true, h, ev_ov noLives rfl (by unfold lov; rw [if_pos ⟨rfl, rfl⟩]), rfl, rfl⟩
abbrev E61 : Int := 2305843009213693952
abbrev mc1 : KMap := putsK (fun _ => none, 0) [1, 2] 0
abbrev mc2 : KMap := putsK (fun _ => none, 0) [4, 1] 0
abbrev mc3 : KMap := putsK mc2 [2] 2
theorem KnB {h : Heap} {env : T V} {b : Nat} {keys : List Nat} {l : List Int} {kn : List Bool} {mc : KMap} {R : V → Heap → Prop} (w : WF h) (e3 : env.get 3 = some (.ptr b 0)) (s : SS h.next h b keys l kn mc) (k : ∀ h', R (.bool true) h') :
 W go knB env h (RetQ [.t 0] R) := by
 have D : ∀ {a b : Nat}, Nat.ble a b = true → a ≤ b := fun e => Nat.le_of_ble_eq_true e
 simp only [evs, ↓reduceIte, Nat.reduceAdd, Nat.reduceLT, knB, e3]
 refine OQ_does (SS.reset (Y := [it 1 1, it 2 1]) (Fr.halloc w _).wf (s.fr w (Fr.halloc w _)) (Lit.new (Y := [it 1 1, it 2 1]) w (Nat.le_refl _)) (all2 (gIt (by decide) (by decide) (by decide)) (gIt (by decide) (by decide) (by decide))) (by decide) (by decide)) ?_
 rintro _ h1 ⟨w1, rfl, s1, _⟩
 have x1 : xinsE [] 0 ([it 1 1, it 2 1].map fun y => tB y.type) = 0 := by decide +kernel
 have s1 : SS h1.next h1 b [1, 2] [E61, E61] [false, false] mc1 := s1 x1
 rw [x1]
 simp only [evs, ↓reduceIte, Nat.reduceEqDiff, Nat.reduceAdd, Nat.reduceLT, e3]
 refine OQ_does (SS.insert (a := 2) (Y := [it 3 0]) (Fr.halloc w1 _).wf (s1.fr w1 (Fr.halloc w1 _)) (Lit.new (Y := [it 3 0]) w1 (Nat.le_refl _)) (all1 ⟨gIt (by decide) (by decide) (by decide), rfl⟩) (by decide) (by decide) (by decide) (by decide)) ?_
 rintro _ h2 ⟨w2, rfl, _, s2⟩
 have x2 : xinsE [E61, E61] (2 : Nat) ([it 3 0].map fun y => tB y.type) = 13 := by decide +kernel
 rw [x2] at s2 ⊢
 have s2 := s2 (by decide)
 simp only [evs, ↓reduceIte, Nat.reduceEqDiff, Nat.reduceAdd, Nat.reduceLT, e3]
 refine OQ_does (SS.reset (Y := [it 1 0, it 2 1, it 3 1]) (Fr.halloc w2 _).wf (s2.fr w2 (Fr.halloc w2 _)) (Lit.new (Y := [it 1 0, it 2 1, it 3 1]) w2 (Nat.le_refl _)) (all3 (gIt (by decide) (by decide) (by decide)) (gIt (by decide) (by decide) (by decide)) (gIt (by decide) (by decide) (by decide))) (by decide) (by decide)) ?_
 rintro _ h3 ⟨w3, rfl, _, s3⟩
 have x3 : xinsE [] 0 ([it 1 0, it 2 1, it 3 1].map fun y => tB y.type) = 13 := by decide +kernel
 rw [x3] at s3 ⊢
 have s3 := s3 (by decide)
 simp only [evs, ↓reduceIte, Nat.reduceEqDiff, e3]
 refine OQ_does (SS.count s3) ?_
 rintro _ _ ⟨rfl, rfl⟩
 simp only [evs, ↓reduceIte, Nat.reduceEqDiff, Nat.reduceAdd, Nat.reduceLT, e3, show ((2 : Nat) : Int) = 2 from rfl]
 refine OQ_does (SS.reset (Y := [it 4 0, it 1 1]) (Fr.halloc w3 _).wf (s3.fr w3 (Fr.halloc w3 _)) (Lit.new (Y := [it 4 0, it 1 1]) w3 (Nat.le_refl _)) (all2 (gIt (by decide) (by decide) (by decide)) (gIt (by decide) (by decide) (by decide))) (by decide) (by decide)) ?_
 rintro _ h4 ⟨w4, rfl, s4, _⟩
 have x4 : xinsE [] 0 ([it 4 0, it 1 1].map fun y => tB y.type) = 0 := by decide +kernel
 have s4 : SS h4.next h4 b [4, 1] [1, E61] [false, false] mc2 := s4 x4
 rw [x4]
 simp only [evs, ↓reduceIte, Nat.reduceEqDiff, Nat.reduceAdd, Nat.reduceLT, e3]
 refine OQ_does (SS.insert (a := 2) (Y := [it 2 0]) (Fr.halloc w4 _).wf (s4.fr w4 (Fr.halloc w4 _)) (Lit.new (Y := [it 2 0]) w4 (Nat.le_refl _)) (all1 ⟨gIt (by decide) (by decide) (by decide), rfl⟩) (by decide) (by decide) (by decide) (by decide)) ?_
 rintro _ h5 ⟨w5, rfl, s5, _⟩
 have x5 : xinsE [1, E61] (2 : Nat) ([it 2 0].map fun y => tB y.type) = 0 := by decide +kernel
 have s5 : SS h5.next h5 b [4, 1, 2] [1, E61, 1] [false, false, false] mc3 := s5 x5
 rw [x5]
 simp only [evs, ↓reduceIte, Nat.reduceEqDiff, Nat.reduceAdd, Nat.reduceLT, e3]
 have mm : meas mc3.1 [(2, 2305843009213693951)] 0 [1, E61, 1] [false, false, false] = (0, 1, [1, E61, 2305843009213693951], [false, false, true]) := by decide +kernel
 have lt : ∀ (Z : List Nat) (h' : Heap), (∀ z ∈ Z, z < h5.next ∨ (halloc h5 [.int .u64 2, .int .i64 2305843009213693951]).next ≤ z) → Fr Z (halloc h5 [.int .u64 2, .int .i64 2305843009213693951]) h' → ARecs htC 2 h' (.slice h5.next 0 1 1) [(2, 2305843009213693951)] := by
  intro Z h' hZ f
  have o := Own.new w5 [.int .u64 2, .int .i64 2305843009213693951]
  exact Sl.a (Sl.lit (f.own _ _ (fun m => by
   have := hZ _ m
   have : (halloc h5 [.int .u64 2, .int .i64 2305843009213693951]).next = h5.next + 1 := rfl
   omega) o) rfl)
 have hm3 : ∀ k j, mc3.1 k = some j → j ≤ 4096 := by
  intro k j e
  simp only [mc3, mc2, putsK, putS, mset'] at e
  split at e
  · cases e; decide
  · split at e
    · cases e; decide
    · split at e
      · cases e; decide
      · cases e
 refine OQ_does (SS.measure (H := [(2, 2305843009213693951)]) (Fr.halloc w5 _).wf (s5.fr w5 (Fr.halloc w5 _)) lt (by simp) (by decide) hm3 (by rw [mm])) ?_
 rintro _ h6 ⟨w6, rfl, s6⟩
 rw [mm] at s6 ⊢
 have s6 : SS h6.next h6 b [4, 1, 2] [1, E61, 2305843009213693951] [false, false, true] mc3 := s6
 simp only [evs, ↓reduceIte, Nat.reduceEqDiff, Nat.reduceAdd, Nat.reduceLT, e3]
 refine OQ_does (SS.change (a := 0) (Y := [it 4 1, it 1 0]) (Fr.halloc w6 _).wf (s6.fr w6 (Fr.halloc w6 _)) (Lit.new (Y := [it 4 1, it 1 0]) w6 (Nat.le_refl _)) (all2 (gIt (by decide) (by decide) (by decide)) (gIt (by decide) (by decide) (by decide))) ?_ (by decide) (by decide)) ?_
 · intro j y e
   match j, e with
   | 0, e => simp at e; subst e; rfl
   | 1, e => simp at e; subst e; rfl
 rintro _ h7 ⟨w7, rfl, s7, _⟩
 have x7 : chR [1, E61, 2305843009213693951] 0 ([it 4 1, it 1 0].map fun y => tB y.type) 2 [1, E61, 2305843009213693951] [false, false, true] = (0, [E61, 1, 2305843009213693951], [false, false, true]) := by decide +kernel
 rw [x7] at s7 ⊢
 have s7 : SS h7.next h7 b [4, 1, 2] [E61, 1, 2305843009213693951] [false, false, true] mc3 := s7 rfl
 simp only [evs, ↓reduceIte, Nat.reduceEqDiff, Nat.reduceAdd, Nat.reduceLT, e3]
 refine OQ_does (SS.change (a := 1) (Y := [it 1 1]) (Fr.halloc w7 _).wf (s7.fr w7 (Fr.halloc w7 _)) (Lit.new (Y := [it 1 1]) w7 (Nat.le_refl _)) (all1 (gIt (by decide) (by decide) (by decide))) ?_ (by decide) (by decide)) ?_
 · intro j y e
   match j, e with
   | 0, e => simp at e; subst e; rfl
 rintro _ h8 ⟨w8, rfl, _, s8⟩
 have x8 : (chR [E61, 1, 2305843009213693951] 1 ([it 1 1].map fun y => tB y.type) 2 [E61, 1, 2305843009213693951] [false, false, true]).1 = 13 := by decide +kernel
 rw [x8] at s8 ⊢
 have s8 := s8 (by decide)
 simp only [evs, ↓reduceIte, Nat.reduceEqDiff, e3]
 refine OQ_does (SS.total w8 s8) ?_
 rintro _ h9 ⟨c, rfl, w9, T9⟩
 simp only [evs, ↓reduceIte, Nat.reduceEqDiff]
 refine OQ_does T9 ?_
 rintro _ h10 rfl
 have e8 : ([E61, 1, 2305843009213693951] : List Int).sum = 4611686018427387904 := by decide +kernel
 simp only [evs, ↓reduceIte, e8]
 refine OQ_does (lives15 h10) ?_
 rintro _ _ ⟨rfl, rfl⟩
 simp only [evs, ↓reduceIte]
 exact k _
theorem known_ok {h : Heap} (w : WF h) : Does go 3 [] h fun u _ => u = .bool true :=
 W3 w fun env h' b w' e3 s => KnA w' e3 s fun env' h2 w2 e3' s2 => KnB w2 e3' s2 fun h' => rfl
end Go.Ev.Lay
