/- An evaluator of the program, and contracts over it: StaQ to StaZe. -/
import Derived.Test.YtdbfhmneijcjbaaGreatP11
set_option linter.unusedSimpArgs false
set_option linter.unusedVariables false
set_option linter.constructorNameAsVariable false
namespace Go.Ev.Lay
set_option maxRecDepth 4000
def kBase (Ks : List Knd) (x : Itm) : Int := match Ks[x.type]? with
 | some q => q.base
 | none => 0
def kStick (Ks : List Knd) (x : Itm) : Bool := match Ks[x.type]? with
 | some q => q.sticky
 | none => false
theorem lay_g {call : CallF} {env : T V} {late : List Nat} {s : IStep} {l : List IStep} {i : Nat} {loc : List V} {h h' : Heap} {v : V} (hi : late.contains i = false) (he : eff s.op = false) (e : evOp call loc env h s.op = some (v, h')) :
 lay call env late (s :: l) i loc h = (lay call env late l (i + 1) (v :: loc) h).map fun r => ((s, none) :: r.1, r.2) := by
 simp only [lay, hi, cond_false, guess, he, e]
 cases lay call env late l (i + 1) (v :: loc) h <;> rfl
theorem lay_e {call : CallF} {env : T V} {late : List Nat} {s : IStep} {l : List IStep} {i : Nat} {loc : List V} {h : Heap} (hi : late.contains i = false) (he : eff s.op = true) :
 lay call env late (s :: l) i loc h = (lay call env late l (i + 1) (.tup [] :: loc) h).map fun r => ((s, none) :: r.1, r.2) := by
 simp only [lay, hi, cond_false, guess, he, cond_true]
 cases lay call env late l (i + 1) (V.tup [] :: loc) h <;> rfl
theorem lay_l {call : CallF} {env : T V} {late : List Nat} {s : IStep} {l : List IStep} {i : Nat} {loc : List V} {h : Heap} {c : List V} {k : Option (Nat × Nat)} (hi : late.contains i = true) (e : lateC loc env s.op = some (c, k)) :
 lay call env late (s :: l) i loc h = (lay call env late l (i + 1) (lateV h.next k :: loc) (halloc h c)).map fun r => ((s, some (lateV h.next k, c)) :: r.1, r.2) := by
 simp only [lay, hi, cond_true, e]
 cases lay call env late l (i + 1) (lateV h.next k :: loc) (halloc h c) <;> rfl
theorem basL {env : T V} {h : Heap} {b8 : Nat} {v4 v5 : V} {base : Int} {st : Bool} (g4 : env.get 4 = some v4) (g5 : env.get 5 = some v5) (g8 : env.get 8 = some (.ptr b8 0)) (l6 : hload1 h b8 6 = some (.int .i64 base)) (l7 : hload1 (halloc h [.int .i64 base]) b8 7 = some (.bool st)) :
 lay go env [3, 8] [⟨none, .p .mv [.v 4], none⟩, ⟨none, .p (.faddr 6) [.v 8], none⟩, ⟨none, .ld 1 false (.l 0), none⟩, ⟨none, .bs [(.int .i64 0)] [(0, 1)] 1 [.l 0], none⟩, ⟨none, .ap 1 8 (.l 3) (.l 0), none⟩, ⟨none, .p .mv [.v 5], none⟩, ⟨none, .p (.faddr 7) [.v 8], none⟩, ⟨none, .ld 1 false (.l 0), none⟩, ⟨none, .bs [(.bool false)] [(0, 1)] 1 [.l 0], none⟩, ⟨none, .ap 1 1 (.l 3) (.l 0), none⟩, ⟨none, .p .mv [.l 5], none⟩, ⟨none, .p .mv [.l 1], none⟩] 0 [] h =
  some ([(⟨none, .p .mv [.v 4], none⟩, none), (⟨none, .p (.faddr 6) [.v 8], none⟩, none), (⟨none, .ld 1 false (.l 0), none⟩, none), (⟨none, .bs [(.int .i64 0)] [(0, 1)] 1 [.l 0], none⟩, some (.slice h.next 0 1 1, [.int .i64 base])), (⟨none, .ap 1 8 (.l 3) (.l 0), none⟩, none), (⟨none, .p .mv [.v 5], none⟩, none), (⟨none, .p (.faddr 7) [.v 8], none⟩, none), (⟨none, .ld 1 false (.l 0), none⟩, none), (⟨none, .bs [(.bool false)] [(0, 1)] 1 [.l 0], none⟩, some (.slice (h.next + 1) 0 1 1, [.bool st])), (⟨none, .ap 1 1 (.l 3) (.l 0), none⟩, none), (⟨none, .p .mv [.l 5], none⟩, none), (⟨none, .p .mv [.l 1], none⟩, none)],
   halloc (halloc h [.int .i64 base]) [.bool st]) := by
 have ev_mv : ∀ (loc : List V) (h : Heap) (x : Opd) (v : V), evO loc env x = some v → evOp go loc env h (.p .mv [x]) = some (v, h) := fun loc h x v e => by
  simp only [evOp, evOs_c, evOs_nil, e, consO_some, aP]
 have ev_fa : ∀ (loc : List V) (h : Heap) (k : Nat), evOp go loc env h (.p (.faddr k) [.v 8]) = some (.ptr b8 k, h) := fun loc h k => by
  simp only [evOp, evOs_c, evOs_nil, evO_v, g8, consO_some, aP_faddr, Nat.zero_add]
 have ev_ld : ∀ (loc : List V) (h : Heap) (k : Nat) (v : V), hload1 h b8 k = some v → evOp go (.ptr b8 k :: loc) env h (.ld 1 false (.l 0)) = some (v, h) := fun loc h k v e => by
  simp only [evOp, evO_l, nth_zero, aload_ptr1, e]
 rw [lay_g rfl rfl (ev_mv _ _ _ _ (by rw [evO_v]; exact g4)), lay_g rfl rfl (ev_fa _ _ _), lay_g rfl rfl (ev_ld _ _ _ _ l6)]
 rw [lay_l (c := [.int .i64 base]) (k := some (1, 1)) rfl rfl, lay_e rfl rfl, lay_g rfl rfl (ev_mv _ _ _ _ (by rw [evO_v]; exact g5)), lay_g rfl rfl (ev_fa _ _ _), lay_g rfl rfl (ev_ld _ _ _ _ l7)]
 rw [lay_l (c := [.bool st]) (k := some (1, 1)) rfl rfl, lay_e rfl rfl, lay_g (v := .tup []) rfl rfl (ev_mv _ _ _ _ rfl), lay_g (v := .tup []) rfl rfl (ev_mv _ _ _ _ rfl)]
 rfl
theorem late1 (loc : List V) (env : T V) (n : Nat) (b : Int) : lateOK (.int .i64 b :: loc) env (.bs [.int .i64 0] [(0, 1)] 1 [.l 0]) (.slice n 0 1 1) [.int .i64 b] = true := by
 have e : lateC (.int .i64 b :: loc) env (.bs [.int .i64 0] [(0, 1)] 1 [.l 0]) = some ([.int .i64 b], some (1, 1)) := rfl
 simp only [lateOK, e, lid, lateV, vEq_self, vsEq, Bool.and_self]
theorem late2 (loc : List V) (env : T V) (n : Nat) (b : Bool) : lateOK (.bool b :: loc) env (.bs [.bool false] [(0, 1)] 1 [.l 0]) (.slice n 0 1 1) [.bool b] = true := by
 have e : lateC (.bool b :: loc) env (.bs [.bool false] [(0, 1)] 1 [.l 0]) = some ([.bool b], some (1, 1)) := rfl
 simp only [lateOK, e, lid, lateV, vEq_self, vsEq, Bool.and_self]
theorem bases_ok {h : Heap} {b : Nat} {Ks : List Knd} {cap : Int} {v : V} {X : List Itm} (w : WF h) (r : RulesAt h b Ks cap) (sl : ARecs Itm.cells 4 h v X) (hX : ∀ x ∈ X, ItmH h x ∧ x.type < Ks.length) (hn : X.length ≤ 4096) :
 Does go 103 [.ptr b 0, v] h fun u h' => ∃ v4 v5, u = .tup [v4, v5] ∧ Gs h' h.next 1 v4 (X.map fun x => .int .i64 (kBase Ks x)) ∧ Gs h' h.next 1 v5 (X.map fun x => .bool (kStick Ks x)) ∧ Fr [] h h' := by
 refine does_fn g103 rfl ?_
 simp only [fn103, evs, ↓reduceIte, Nat.reduceEqDiff, Nat.reduceAdd, sl.len]
 refine W_loop (fun n env hh => Fr [] h hh ∧ ∃ (i : Nat) (v4 v5 : V), env.get 11 = some (.int .i64 i) ∧ env.get 10 = some (.int .i64 X.length) ∧ env.get 9 = some v ∧ env.get 0 = some (.ptr b 0) ∧ env.get 4 = some v4 ∧ env.get 5 = some v5 ∧
  i ≤ X.length ∧ Gs hh h.next 1 v4 ((X.take i).map fun x => .int .i64 (kBase Ks x)) ∧ Gs hh h.next 1 v5 ((X.take i).map fun x => .bool (kStick Ks x)) ∧ (∀ y ∈ vb v4, y ∉ vb v5) ∧ n = X.length - i) X.length (by omega) ?_ ?_
 · exact ⟨Fr.refl w, 0, .nils, .nils, (by simp [T.gs]), (by simp [T.gs]), (by simp [T.gs]), (by simp [T.gs]), (by simp [T.gs]), (by simp [T.gs]), by omega, .inl ⟨rfl, rfl⟩, .inl ⟨rfl, rfl⟩, by simp [vb], rfl⟩
 · rintro n env hh ⟨F, i, v4, v5, g11, g10, g9, g0, g4, g5, hi, G4, G5, dj, rfl⟩
   by_cases hlt : i < X.length
   · have hlt' : (i : Int) < X.length := by omega
     obtain ⟨bi, oi, x, p1, _, p3, p4⟩ := (sl.fr F).ix (f := Itm.cells) (k := 4) (fun _ => rfl) .i64 (i : Int) (by omega) hlt'
     rw [Int.toNat_natCast] at p4
     obtain ⟨a, ht⟩ := hX x (List.mem_of_getElem? p4)
     obtain ⟨h3, e_h3⟩ : ∃ h3, h3 = halloc hh [.int .u64 0, .int .u8 0, .str [], .nils] := ⟨_, rfl⟩
     have F_h3 : Fr [] hh h3 := e_h3 ▸ Fr.halloc F.wf _
     have o_h3 : Own h3 hh.next [.int .u64 0, .int .u8 0, .str [], .nils] := e_h3 ▸ Own.new F.wf _
     simp only [evs, ↓reduceIte, Nat.reduceEqDiff, g11, g10, g9, hlt', p1, p3, ← e_h3]
     refine store_step (c' := x.cells) F_h3.wf o_h3 rfl a.one rfl ?_
     rintro h4 o4 F4 n4
     have F04 : Fr [] hh h4 := F_h3.fresh F4 F.wf (Nat.le_refl _)
     have F0 := F.then F04
     obtain ⟨vK, c2, c3, c4, ob, rk, kh⟩ := r.fr F0
     have l0 : hload1 h4 b 0 = some vK := ob.ld1 0
     have x1 : hload1 h4 hh.next 1 = some (.int .u8 (x.type : Int)) := o4.ld1 1
     obtain ⟨bk, ok', q, q1, _, q3, q4⟩ := (Recs.ix knd_len rk .u8 (x.type : Int) (by omega) (by omega))
     rw [Int.toNat_natCast] at q4
     have hq := kh q (List.mem_of_getElem? q4)
     have e1 : kBase Ks x = q.base := by simp [kBase, q4]
     have e2 : kStick Ks x = q.sticky := by simp [kStick, q4]
     obtain ⟨h5, e_h5⟩ : ∃ h5, h5 = halloc h4 [.int .u8 0, .str [], .str [], .nils, .str [], .nils, .int .i64 0, .bool false, .int .i64 0] := ⟨_, rfl⟩
     have F_h5 : Fr [] h4 h5 := e_h5 ▸ Fr.halloc F04.wf _
     have o_h5 : Own h5 h4.next [.int .u8 0, .str [], .str [], .nils, .str [], .nils, .int .i64 0, .bool false, .int .i64 0] := e_h5 ▸ Own.new F04.wf _
     simp only [evs, ↓reduceIte, Nat.reduceEqDiff, eff, g0, l0, x1, q1, q3, ← e_h5]
     have l0' : hload1 h5 b 0 = some vK := (F_h5.get ob).ld1 0
     refine store_step (c' := q.cells) F_h5.wf o_h5 rfl hq.ones9 rfl ?_
     rintro h6 o6 F6 n6
     have F46 : Fr [] h4 h6 := F_h5.fresh F6 F04.wf (Nat.le_refl _)
     have x1' : hload1 h6 hh.next 1 = some (.int .u8 (x.type : Int)) := (F46.get o4).ld1 1
     have l0'' : hload1 h6 b 0 = some vK := (F46.get ob).ld1 0
     have q3f : ∀ h', Fr [] h4 h' → hload h' bk ok' 9 = some q.cells := by
      intro h' f
      obtain ⟨b9, o9, _, r1, _, r3, r4⟩ := (Recs.ix knd_len (Recs.fr rk f) .u8 (x.type : Int) (by omega) (by omega))
      rw [Int.toNat_natCast, q4] at r4; cases r4
      rw [q1] at r1; cases r1
      exact r3
     have q5 := q3f h5 F_h5
     have q6 := q3f h6 F46
     have x5 : hload1 h5 hh.next 1 = some (.int .u8 (x.type : Int)) := (F_h5.get o4).ld1 1
     simp only [evs, Nat.reduceAdd, DF, Nat.reduceSub, l0, x1, q3, l0', q5, x5]
     have F7 := Fr.halloc F46.wf [.int .i64 q.base]
     have o7 := F7.get o6
     have F8 := Fr.halloc F7.wf [.bool q.sticky]
     have w1 := Own.new F46.wf [.int .i64 q.base]
     have w2 := Own.new F7.wf [.bool q.sticky]
     have l6 : hload1 h6 h4.next 6 = some (.int .i64 q.base) := o6.ld1 6
     have l7 : hload1 (halloc h6 [.int .i64 q.base]) h4.next 7 = some (.bool q.sticky) := o7.ld1 7
     refine (W_dl _ _ _ _ _ _ _).2 ?_
     rw [basL (v4 := v4) (v5 := v5) (b8 := h4.next) (by simp [T.gs, g4]) (by simp [T.gs, g5]) (by simp [T.gs]) l6 l7, LayQ_some]
     have o8 := F8.get o7
     have l68 : hload1 (halloc (halloc h6 [.int .i64 q.base]) [.bool q.sticky]) h4.next 6 = some (.int .i64 q.base) := o8.ld1 6
     have l78 : hload1 (halloc (halloc h6 [.int .i64 q.base]) [.bool q.sticky]) h4.next 7 = some (.bool q.sticky) := o8.ld1 7
     have w1' := F8.get w1
     have w2' : Own (halloc (halloc h6 [.int .i64 q.base]) [.bool q.sticky]) (h6.next + 1) [.bool q.sticky] := w2
     have F68 : Fr [] h6 (halloc (halloc h6 [.int .i64 q.base]) [.bool q.sticky]) := F7.then F8
     have nx : (halloc (halloc h6 [.int .i64 q.base]) [.bool q.sticky]).next = h6.next + 2 := rfl
     generalize halloc (halloc h6 [.int .i64 q.base]) [.bool q.sticky] = h8 at l68 l78 w1' w2' F68 nx o8 ⊢
     simp only [evs, ↓reduceIte, Nat.reduceEqDiff, eff, g4, l68, WD_late, late1]
     have Fh8 : Fr [] hh h8 := (F04.then F46).then F68
     have hnh := Fh8.next
     have h4n := F46.next
     have h0n := F.next
     have v4l : ∀ y ∈ vb v4, y < hh.next := by
      rcases G4 with ⟨rfl, _⟩ | ⟨b, n, rfl, _, _, _, o⟩
      · simp [vb]
      · have := o.lt F.wf
        simp only [vb, List.mem_singleton]; rintro y rfl; exact this
     have v5l : ∀ y ∈ vb v5, y < hh.next := by
      rcases G5 with ⟨rfl, _⟩ | ⟨b, n, rfl, _, _, _, o⟩
      · simp [vb]
      · have := o.lt F.wf
        simp only [vb, List.mem_singleton]; rintro y rfl; exact this
     have n4h : hh.next ≤ h4.next := F04.next
     refine Gs.append1 (n := 1) F68.wf (G4.fr Fh8) (Sl.lit w1' rfl) (by omega) (by omega) rfl (by omega) (by simp; omega) ?_
     intro v4' h9 G9 e9 F9
     have l69 : hload1 h9 h4.next 6 = some (.int .i64 q.base) := (F9.own _ _ (fun m => by have := v4l _ m; omega) o8).ld1 6
     have l79 : hload1 h9 h4.next 7 = some (.bool q.sticky) := (F9.own _ _ (fun m => by have := v4l _ m; omega) o8).ld1 7
     have w29 := F9.own _ _ (fun m => by have := v4l _ m; omega) w2'
     have G59 : Gs h9 h.next 1 v5 ((X.take i).map fun x => .bool (kStick Ks x)) := by
      rcases G5.fr Fh8 with ⟨rfl, z⟩ | ⟨b, n, rfl, z1, z2, z3, o⟩
      · exact .inl ⟨rfl, z⟩
      · exact .inr ⟨b, n, rfl, z1, z2, z3, F9.own _ _ (fun m => dj _ m (by simp [vb])) o⟩
     simp only [evs, ↓reduceIte, Nat.reduceEqDiff, eff, g5, l79, WD_late, late2]
     have h9n := F9.next
     refine Gs.append1 (n := 1) F9.wf G59 (Sl.lit w29 rfl) (by omega) (by omega) rfl (by omega) (by simp; omega) ?_
     intro v5' h10 G10 e10 F10
     have F010 : Fr [] h h10 := by
      refine Fr.new w (Fr.new w (F.then Fh8) F9 (fun y hy => ?_)) F10 (fun y hy => ?_)
      · rcases G4 with ⟨rfl, _⟩ | ⟨b, n, rfl, _, _, hb, o⟩
        · simp [vb] at hy
        · simp [vb] at hy; omega
      · rcases G5 with ⟨rfl, _⟩ | ⟨b, n, rfl, _, _, hb, o⟩
        · simp [vb] at hy
        · simp [vb] at hy; omega
     have G410 : Gs h10 h.next 1 v4' ((X.take i).map (fun x => .int .i64 (kBase Ks x)) ++ [.int .i64 q.base]) := by
      rcases G9 with ⟨rfl, z⟩ | ⟨b, n, rfl, z1, z2, z3, o⟩
      · exact .inl ⟨rfl, z⟩
      · refine .inr ⟨b, n, rfl, z1, z2, z3, F10.own _ _ (fun m => ?_) o⟩
        have := v5l _ m
        simp [vb] at e9
        omega
     simp (disch := omega) only [evs, ↓reduceIte, Nat.reduceEqDiff, Nat.reduceAdd, DF, eff, Nat.reduceSub, fwrap_i64, g11, l68, l78, l79]
     refine (roundQ_norm _ _ _).2 ⟨X.length - (i + 1), by omega, F010, i + 1, v4', v5', (by simp [T.gs]), (by simp [T.gs, g10]), (by simp [T.gs, g9]), (by simp [T.gs, g0]), (by simp [T.gs]), (by simp [T.gs]), by omega, ?_, ?_, ?_, rfl⟩
     · rw [List.take_add_one, p4]; simpa [e1] using G410
     · rw [List.take_add_one, p4]; simpa [e2] using G10
     · have : h8.next < h9.next := by
        rcases G9 with ⟨rfl, _⟩ | ⟨b, n, rfl, _, _, _, o⟩
        · simp [vb] at e9
        · have := o.lt F9.wf
          simp [vb] at e9; omega
       rw [e9, e10]; simp; omega
   · simp only [evs, ↓reduceIte, Nat.reduceEqDiff, g11, g10, g4, g5, show ¬ (i : Int) < X.length by omega]
     rw [List.take_of_length_le (by omega)] at G4 G5
     exact ⟨v4, v5, rfl, G4, G5, F⟩
def Oth (h : Heap) (S : List Nat) : Prop := ∀ b ∈ S, ∀ c, Own h b c → c.length ≠ 6 ∧ ∀ L : List (Int × Int), 0 < L.length → c ≠ L.flatMap sp
theorem At.frS {h h' : Heap} {S : List Nat} (f : Fr S h h') (o : Oth h S) : ∀ {t : Tr} {p : Option Nat}, At h t p → At h' t p
 | .nil, _, a => a
 | .node l s r, _, ⟨q, pl, pr, e, oq, al, ar⟩ => ⟨q, pl, pr, e, f.own _ _ (fun m => (o q m _ oq).1 rfl) oq, At.frS f o al, At.frS f o ar⟩
theorem LoP.frS {h h' : Heap} {b : Nat} {pm : Option Nat} {l : List Int} {ks bs : List Bool} {S : List Nat} (a : LoP h b pm l ks bs) (f : Fr S h h') (o : Oth h S) (hb : b ∉ S) (hp : ∀ q, pm = some q → q ∉ S) : LoP h' b pm l ks bs := by
 obtain ⟨p, vk, ow, v1, ⟨p', vk', L, e1, ⟨t, p2, e2, at', tl, ft⟩, sL, x⟩, mk, e⟩ := a
 refine ⟨p, vk, f.own _ _ hb ow, v1, ⟨p', vk', L, e1, ⟨t, p2, e2, At.frS f o at', tl, ft⟩, ?_, x⟩, ?_, e⟩
 · rcases sL with z | ⟨q, e3, oq, lq⟩
   · exact .inl z
   · exact .inr ⟨q, e3, f.own _ _ (fun m => (o q m _ oq).2 L lq rfl) oq, lq⟩
 · cases pm with
   | none => exact mk
   | some q =>
    obtain ⟨ws, oq, y⟩ := mk
    exact ⟨ws, f.own _ _ (hp q rfl) oq, y⟩
theorem noI_sp {c : List V} (n : NoI c) : ∀ L : List (Int × Int), 0 < L.length → c ≠ L.flatMap sp := by
 intro L p e
 cases L with
 | nil => simp at p
 | cons s L => exact n (.int .i64 s.1) (by rw [e]; simp [sp]) _ rfl
open Go.Ev.St
set_option maxRecDepth 4000
theorem Km.frS {h h' : Heap} {b S c : Nat} {m : Nat → Option Nat} {X : List Nat} (k : Km h b S m c) (f : Fr X h h') (hb : b ∉ X) (hS : S ∉ X) : Km h' b S m c := by
 rcases k with ⟨o, x⟩ | ⟨v, sl, t, k, x⟩
 · exact .inl ⟨f.own _ _ hb o, x⟩
 · exact .inr ⟨v, sl, t, { k with ob := f.own _ _ hb k.ob, tb := ⟨k.tb.1, f.own _ _ hS k.tb.2⟩ }, x⟩
theorem Km.lt {h : Heap} {b S c : Nat} {m : Nat → Option Nat} (k : Km h b S m c) (w : WF h) : b < h.next := by
 rcases k with ⟨o, x⟩ | ⟨v, sl, t, k, x⟩
 · exact o.lt w
 · exact k.ob.lt w
theorem odd_sp {c : List V} {n : Nat} (h : c.length = 2 * n + 1) : ∀ L : List (Int × Int), 0 < L.length → c ≠ L.flatMap sp := by
 rintro L _ rfl
 have := flat_len sp_len L
 omega
theorem Oth.app {h : Heap} {A B : List Nat} (a : Oth h A) (b : Oth h B) : Oth h (A ++ B) := fun x m => (List.mem_append.1 m).elim (a x) (b x)
theorem Oth.own {h : Heap} {b : Nat} {c : List V} (o : Own h b c) (h6 : c.length ≠ 6) (hs : ∀ L : List (Int × Int), 0 < L.length → c ≠ L.flatMap sp) : Oth h [b] := by
 intro x m c' o'
 simp at m; subst m
 rw [o'.uniq o]; exact ⟨h6, hs⟩
theorem Gp.oth {h : Heap} {b B n : Nat} {l : List V} (w : WF h) (g : Gp h b B n l) (hB : B < h.next → Own h B [] ∨ ∀ c, Own h B c → c.length % 4 = 0 ∧ NoI c) : Oth h [b, B] := by
 obtain ⟨v, c1, G, c2, a, gg, m, k, _⟩ := g
 intro x mx c o
 simp at mx
 rcases mx with rfl | rfl
 · rw [o.uniq k.ob]
   exact ⟨by simp, odd_sp (n := 1) rfl⟩
 · rcases hB (o.lt w) with e | e
   · rw [o.uniq e]; exact ⟨by simp, fun L p q => by cases L with | nil => simp at p | cons s L => simp [sp] at q⟩
   · obtain ⟨e1, e2⟩ := e c o
     exact ⟨by omega, noI_sp e2⟩
theorem Good.oth {h : Heap} {B : Nat} (g : Good h B) : Oth h [B] := by
 obtain ⟨c, o, a, b⟩ := g; exact Oth.own o a b
theorem Gp.good {h : Heap} {b B n : Nat} {l : List V} (g : Gp h b B n l) (h0 : 0 < n) : Good h B := by
 obtain ⟨v, c1, G, c2, a, gg, m, k, _, rfl⟩ := g
 obtain ⟨hl, ⟨_, z⟩ | ⟨_, o⟩⟩ := k.tb
 · omega
 · exact ⟨_, o, by omega, noI_sp k.n6⟩
theorem Gp.ob {h : Heap} {b B n : Nat} {l : List V} (g : Gp h b B n l) : Good h b ∧ B ≠ b := by
 obtain ⟨v, c1, G, c2, a, gg, m, k, _, rfl⟩ := g
 exact ⟨⟨_, k.ob, by simp, odd_sp (n := 1) rfl⟩, k.ne⟩
structure Dis (b bg B bm S bl : Nat) (pm : Option Nat) : Prop where
 b1 : b ≠ bg
 b2 : b ≠ B
 b3 : b ≠ bm
 b4 : b ≠ S
 b5 : b ≠ bl
 g1 : bg ≠ bm
 g2 : bg ≠ S
 g3 : bg ≠ bl
 t1 : B ≠ bm
 t2 : B ≠ S
 t3 : B ≠ bl
 m1 : bm ≠ bl
 m2 : S ≠ bl
 p : ∀ q, pm = some q → q ≠ b ∧ q ≠ bg ∧ q ≠ B ∧ q ≠ bm ∧ q ≠ S ∧ q ≠ bl
def Wr (b bg B bm S bl : Nat) (pm : Option Nat) : List Nat := [b, bg, B, bm, S, bl] ++ pm.toList
structure Sto (n0 : Nat) (h : Heap) (b : Nat) (Ks : List Knd) (cap : Int) (X : List Itm) (l : List Int) (kn st : List Bool) (vK : V) (bg B bm S bl : Nat) (pm : Option Nat) (mc : KMap) : Prop where
 ob : Own h b [vK, .int .i64 cap, .ptr bg 0, .ptr bm 0, .ptr bl 0]
 g : Gp h bg B X.length (X.flatMap Itm.cells)
 gB : Good h B
 k : Km h bm S mc.1 mc.2
 gS : Good h S
 lo : LoP h bl pm l kn st
 len : l.length = X.length
 rd : ∀ (Z : List Nat) (h' : Heap), (∀ z ∈ Z, z ∈ Wr b bg B bm S bl pm ∨ h.next ≤ z ∨ z < n0) → Fr Z h h' → Recs Knd.cells 9 h' vK Ks ∧ (∀ q ∈ Ks, KndH h' q) ∧ ∀ x ∈ X, ItmH h' x
 d : Dis b bg B bm S bl pm
 Sl' : S < h.next
 pl : ∀ q, pm = some q → q < h.next
 bl' : bl < h.next
 n0l : n0 ≤ h.next
theorem Sl.noint {h : Heap} {e : Nat} {v : V} {n : Nat} {cs : List V} (a : Sl h e v n cs) (k : IntKind) (i : Int) : v ≠ .int k i := by
 rintro rfl; exact a.2.elim
theorem own_cells (x : Itm) (v : V) : (x.own v).cells = [.int .u64 (x.key : Int), .int .u8 (x.type : Int), .str x.text, v] := rfl
theorem Km.bmgood {h : Heap} {b S c : Nat} {m : Nat → Option Nat} (k : Km h b S m c) : Good h b := by
 rcases k with ⟨o, x⟩ | ⟨v, sl, t, k, x⟩
 · exact ⟨_, o, by simp, odd_sp (n := 1) rfl⟩
 · exact ⟨_, k.ob, by simp, odd_sp (n := 1) rfl⟩
theorem Good.lt {h : Heap} {b : Nat} (g : Good h b) (w : WF h) : b < h.next := by
 obtain ⟨c, o, _⟩ := g; exact o.lt w
theorem LoP.pmlt {h : Heap} {b : Nat} {pm : Option Nat} {l : List Int} {ks bs : List Bool} (a : LoP h b pm l ks bs) (w : WF h) : (∀ q, pm = some q → q < h.next) ∧ b < h.next := by
 obtain ⟨p, vk, o, _, _, mk, _⟩ := a
 refine ⟨?_, o.lt w⟩
 rintro q rfl
 obtain ⟨ws, oq, _⟩ := mk
 exact oq.lt w
theorem noI_own {x : Itm} {v : V} (h : ∀ n : Int, v ≠ .int .i64 n) : NoI (x.own v).cells := by
 intro y m n
 rw [own_cells] at m
 simp at m
 rcases m with rfl | rfl | rfl | rfl
 · simp
 · simp
 · simp
 · exact h n
def Cps : List Itm → List Itm → Prop
 | [], [] => True
 | x :: l, y :: m => (∃ v, y = x.own v) ∧ Cps l m
 | _, _ => False
theorem Cps.len : ∀ {a b : List Itm}, Cps a b → a.length = b.length
 | [], [], _ => rfl
 | _ :: _, _ :: _, h => by simp [Cps.len h.2]
 | [], _ :: _, h => h.elim
 | _ :: _, [], h => h.elim
theorem Cps.app : ∀ {a b c d : List Itm}, Cps a b → Cps c d → Cps (a ++ c) (b ++ d)
 | [], [], _, _, _, g => g
 | _ :: _, _ :: _, _, _, h, g => ⟨h.1, Cps.app h.2 g⟩
 | [], _ :: _, _, _, h, _ => h.elim
 | _ :: _, [], _, _, h, _ => h.elim
theorem Cps.mem : ∀ {a b : List Itm} {y : Itm}, Cps a b → y ∈ b → ∃ x ∈ a, ∃ v, y = x.own v
 | x :: a, z :: b, y, h, m => by
  rcases List.mem_cons.1 m with rfl | m
  · exact ⟨x, by simp, h.1⟩
  · obtain ⟨x', hx, e⟩ := Cps.mem h.2 m; exact ⟨x', by simp [hx], e⟩
 | [], [], _, _, m => by simp at m
 | [], _ :: _, _, h, _ => h.elim
 | _ :: _, [], _, h, _ => h.elim
theorem sput_ok {n0 : Nat} {h : Heap} {b bg B bm S bl p : Nat} {Ks : List Knd} {cap : Int} {X Y : List Itm} {l : List Int} {kn st : List Bool} {vK v : V} {pm : Option Nat} {mc : KMap} (w : WF h) (s : Sto n0 h b Ks cap X l kn st vK bg B bm S bl pm mc)
 (hp : p ≤ X.length) (hn : X.length + Y.length ≤ 1024) (hc : mc.2 + (X.length + Y.length) ≤ 4096)
 (sv : ∀ (Z : List Nat) (h' : Heap), (∀ z ∈ Z, z ∈ Wr b bg B bm S bl pm ∨ h.next ≤ z) → Fr Z h h' → ARecs Itm.cells 4 h' v Y ∧ ∀ y ∈ Y, ItmH h' y)
 (hY : ∀ y ∈ Y, nZ y.vm = true ∧ y.type < Ks.length ∧ 0 < y.key) (hX : ∀ x ∈ X, 0 < x.key) (e0 : xinsE l p (Y.map (kBase Ks)) = 0) :
 Does go 96 [.ptr b 0, .int .i64 (p : Int), v] h fun u h' => u = .int .i64 0 ∧ ∃ Y' B' S' pm', Cps Y Y' ∧
  Sto n0 h' b Ks cap (X.take p ++ Y' ++ X.drop p) (l.take p ++ Y.map (kBase Ks) ++ l.drop p) (kn.take p ++ List.replicate Y.length false ++ kn.drop p) (st.take p ++ Y.map (kStick Ks) ++ st.drop p) vK bg B' bm S' bl pm'
   (putsS mc ((X.take p ++ Y' ++ X.drop p).drop p) p) ∧ Fr (Wr b bg B bm S bl pm) h h' ∧ (B' = B ∨ h.next ≤ B') ∧ (S' = S ∨ h.next ≤ S') ∧ (pm' = pm ∨ ∀ q, pm' = some q → h.next ≤ q) := by
 obtain ⟨sY, hYI⟩ := sv [] h (by simp) (Fr.refl w)
 obtain ⟨rk, kh, xh⟩ := s.rd [] h (by simp) (Fr.refl w)
 refine does_fn g96 rfl ?_
 simp only [fn96, evs, ↓reduceIte, Nat.reduceEqDiff, Nat.reduceAdd]
 refine OQ_does (bases_ok w ⟨vK, _, _, _, s.ob, rk, kh⟩ sY (fun y m => ⟨hYI y m, (hY y m).2.1⟩) (by omega)) ?_
 rintro _ h1 ⟨v4, v5, rfl, G4, G5, F1⟩
 have am : Ints h1 v4 (Y.map (kBase Ks)) := by
  have := G4.sl (n := (Y.map (kBase Ks)).length) (by simp) (by omega)
  unfold Ints Vals; rw [List.map_map]; exact this
 have as : Bools h1 v5 (Y.map (kStick Ks)) := by
  have := G5.sl (n := (Y.map (kStick Ks)).length) (by simp) (by omega)
  unfold Bools Vals; rw [List.map_map]; exact this
 have l4 : hload1 h1 b 4 = some (.ptr bl 0) := (F1.get s.ob).ld1 4
 simp only [evs, ↓reduceIte, Nat.reduceEqDiff, l4]
 refine OQ_does (LInsQ_ok F1.wf (s.lo.fr F1) am as (by simp; omega) (by simp) (by omega) (by omega)) ?_
 rintro _ h2 ⟨rfl, F2, pm', hpm, lo2⟩
 rw [e0, if_pos rfl] at lo2
 simp only [Int.toNat_natCast, List.length_map] at lo2
 have d := s.d
 have hpm2 : ∀ q, pm' = some q → pm = some q ∨ h.next ≤ q := by
  intro q hq
  rcases hpm with rfl | ⟨_, x⟩
  · exact .inl hq
  · exact .inr (Nat.le_trans F1.next (x q hq))
 have F12 : Fr (bl :: pm.toList) h h2 := Fr.trans F1 F2 w (by simp) (fun x m => .inl m)
 have npm : ∀ x, (∀ q, pm = some q → q ≠ x) → bl ≠ x → x ∉ bl :: pm.toList := by
  intro x a c m
  rcases List.mem_cons.1 m with q | q
  · exact c q.symm
  · simp at q; exact a _ q rfl
 have ob2 := F12.own b _ (npm b (fun q e => (d.p q e).1) d.b5.symm) s.ob
 have g2 := s.g.fr F12 (npm bg (fun q e => (d.p q e).2.1) d.g3.symm) (npm B (fun q e => (d.p q e).2.2.1) d.t3.symm)
 have gB2 := s.gB.fr F12 (npm B (fun q e => (d.p q e).2.2.1) d.t3.symm)
 have k2 := s.k.frS F12 (npm bm (fun q e => (d.p q e).2.2.2.1) d.m1.symm) (npm S (fun q e => (d.p q e).2.2.2.2.1) d.m2.symm)
 have bgl : bg < h2.next := by obtain ⟨c, o, _⟩ := g2.ob.1; exact o.lt F2.wf
 have Bl : B < h2.next := by obtain ⟨c, o, _⟩ := gB2; exact o.lt F2.wf
 have bmW : ∀ x, x ∈ bl :: pm.toList → x ∈ Wr b bg B bm S bl pm := by
  intro x m
  simp only [List.mem_cons] at m
  simp only [Wr, List.mem_append, List.mem_cons]
  rcases m with m | m
  · exact .inl (.inr (.inr (.inr (.inr (.inr (.inl m))))))
  · exact .inr m
 have sv2 : ∀ h', Fr [bg, B] h2 h' → ARecs Itm.cells 4 h' v Y ∧ ∀ y ∈ Y, ItmH h' y := by
  intro h' f
  refine sv ((bl :: pm.toList) ++ [bg, B]) h' (fun z m => ?_) (Fr.trans F12 f w (fun x m => .inl (List.mem_append.2 (.inl m))) (fun x m => .inl (List.mem_append.2 (.inr m))))
  rcases List.mem_append.1 m with m | m
  · exact .inl (bmW z m)
  · simp only [List.mem_cons, List.not_mem_nil, or_false] at m
    left
    simp only [Wr, List.mem_append, List.mem_cons]
    rcases m with m | m <;> simp [m]
 have len2 := (sv2 h2 (Fr.refl F2.wf)).1.len
 simp only [evs, ↓reduceIte, Nat.reduceEqDiff, len2, e0]
 refine W_loop (fun n env hh => ∃ (i B' : Nat) (D : List Itm), Fr [bg, B] h2 hh ∧ (B' = B ∨ h2.next ≤ B') ∧ B' < hh.next ∧ env.get 32 = some (.int .i64 i) ∧ env.get 31 = some (.int .i64 (Y.length : Nat)) ∧ env.get 30 = some v ∧ env.get 0 = some (.ptr b 0) ∧ env.get 1 = some (.int .i64 (p : Int)) ∧
  i ≤ Y.length ∧ Cps (Y.take i) D ∧ Gp hh bg B' (X.length + i) ((X.take p ++ D ++ X.drop p).flatMap Itm.cells) ∧ Good hh B' ∧
  (∀ (Z : List Nat) (h' : Heap), (∀ z ∈ Z, z < h2.next ∨ z = B' ∨ hh.next ≤ z) → Fr Z hh h' → ∀ x ∈ D, Recs sS 1 h' x.vm x.marks) ∧ n = Y.length - i) Y.length (by omega) ?_ ?_
 · exact ⟨0, B, [], Fr.refl F2.wf, .inl rfl, Bl, (by simp [T.gs]), (by simp [T.gs]), (by simp [T.gs]), (by simp [T.gs]), (by simp [T.gs]), by omega, trivial, by simpa using g2, gB2, by simp, rfl⟩
 · rintro n env hh ⟨i, B', D, F, hB', B'l, g32, g31, g30, g0, g1, hi, cp, gp, gd, st', rfl⟩
   have obh := F.own b _ (by simp; exact ⟨d.b1, d.b2⟩) ob2
   have dl := cp.len
   rw [List.length_take, Nat.min_eq_left hi] at dl
   by_cases hlt : i < Y.length
   · have hlt' : (i : Int) < Y.length := by omega
     obtain ⟨sYh, hYh⟩ := sv2 hh F
     obtain ⟨bi, oi, y, p1, _, p3, p4⟩ := sYh.ix (f := Itm.cells) (k := 4) (fun _ => rfl) .i64 (i : Int) (by omega) hlt'
     rw [Int.toNat_natCast] at p4
     have ym := List.mem_of_getElem? p4
     have ay := hYh y ym
     obtain ⟨h3, e_h3⟩ : ∃ h3, h3 = halloc hh [.int .u64 0, .int .u8 0, .str [], .nils] := ⟨_, rfl⟩
     have F_h3 : Fr [] hh h3 := e_h3 ▸ Fr.halloc F.wf _
     have o_h3 : Own h3 hh.next [.int .u64 0, .int .u8 0, .str [], .nils] := e_h3 ▸ Own.new F.wf _
     simp only [evs, ↓reduceIte, Nat.reduceEqDiff, g32, g31, g30, hlt', p1, p3, ← e_h3]
     refine store_step (c' := y.cells) F_h3.wf o_h3 rfl ay.one rfl ?_
     rintro h4 o4 F4 n4
     have F04 : Fr [] hh h4 := F_h3.fresh F4 F.wf (Nat.le_refl _)
     have l2 : hload1 h4 b 2 = some (.ptr bg 0) := (F04.get obh).ld1 2
     have y4 : hload h4 hh.next 0 4 = some y.cells := by rw [o4.ld]; rfl
     simp (disch := omega) only [evs, ↓reduceIte, Nat.reduceEqDiff, eff, fwrap_i64, g0, g1, l2, y4]
     refine OQ_does (copied_ok F04.wf (ay.fr F04) (hY y ym).1) ?_
     rintro _ h5 ⟨vy, rfl, F5, nE, v1, stb⟩
     have F05 := F04.then F5
     have l25 : hload1 h5 b 2 = some (.ptr bg 0) := (F05.get obh).ld1 2
     obtain ⟨h6, e_h6⟩ : ∃ h6, h6 = halloc h5 [.int .u64 (y.key : Int), .int .u8 (y.type : Int), .str y.text, vy] := ⟨_, rfl⟩
     have F_h6 : Fr [] h5 h6 := e_h6 ▸ Fr.halloc F5.wf _
     have o_h6 : Own h6 h5.next [.int .u64 (y.key : Int), .int .u8 (y.type : Int), .str y.text, vy] := e_h6 ▸ Own.new F5.wf _
     have n6 : h6.next = h5.next + 1 := by rw [e_h6]; rfl
     have l26 : hload1 h6 b 2 = some (.ptr bg 0) := (F_h6.get (F05.get obh)).ld1 2
     simp only [evs, ↓reduceIte, Nat.reduceAdd, Nat.reduceLT, eff, own_cells, ← e_h6]
     have F06 := F05.then F_h6
     have h2n := F.next
     have h4n := F04.next
     have h5n := F5.next
     have s6 : Sl h6 4 (.slice h5.next 0 1 1) 1 (y.own vy).cells := Sl.lit o_h6 rfl
     have on6 : onesB (y.own vy).cells = true := by rw [own_cells]; simp only [onesB_cons, onesB_nil, v1]; rfl
     have sv0 := stb [] h5 (by simp) (Fr.refl F5.wf)
     have gp6 := gp.fr F06 (by simp) (by simp)
     refine OQ_does (gInsert_ok (p := p + i) (q := 1) F_h6.wf gp6 (fun h' f => Sl.lit (f.own _ _ (by simp; omega) o_h6) rfl) on6 (noI_own fun n => Sl.noint sv0 _ _) (by omega) (by omega)) ?_
     rintro _ h7 ⟨rfl, B2, hB2, gp7, F7⟩
     have l27 : hload1 h7 b 2 = some (.ptr bg 0) := (F7.own _ _ (by simp; exact ⟨d.b1, by rcases hB' with rfl | q; exact d.b2; have := ob2.lt F2.wf; omega⟩) (F_h6.get (F05.get obh))).ld1 2
     simp (disch := omega) only [evs, ↓reduceIte, Nat.reduceEqDiff, Nat.reduceAdd, DF, eff, Nat.reduceSub, fwrap_i64, g32, l2, y4, l25, l26]
     have gd7 := gp7.good (by omega)
     have B2l : B2 < h7.next := by obtain ⟨c, o, _⟩ := gd7; exact o.lt F7.wf
     have F27 : Fr [bg, B] h2 h7 := by
      refine Fr.trans (Fr.trans (T := [bg, B]) F F06 F2.wf (fun x m => .inl m) (by simp)) F7 F2.wf (fun x m => .inl m) (fun x m => ?_)
      simp at m
      rcases m with rfl | rfl
      · exact .inl (by simp)
      · rcases hB' with rfl | q
        · exact .inl (by simp)
        · exact .inr q
     have lA : (X.take p ++ D).length = p + i := by simp; omega
     have eA : ((X.take p ++ D ++ X.drop p).flatMap Itm.cells).take ((p + i) * 4) ++ (y.own vy).cells ++ ((X.take p ++ D ++ X.drop p).flatMap Itm.cells).drop ((p + i) * 4) = (X.take p ++ (D ++ [y.own vy]) ++ X.drop p).flatMap Itm.cells := by
      rw [flat_take itm_len, flat_drop itm_len, ← lA, List.take_left, List.drop_left]; simp
     rw [← own_cells y vy, eA, Nat.add_assoc] at gp7
     have f7 : ∀ (Z : List Nat) (h' : Heap), Fr Z h7 h' → Fr ([bg, B'] ++ Z) h6 h' := fun Z h' f => Fr.trans F7 f F_h6.wf (fun x m => .inl (List.mem_append.2 (.inl m))) (fun x m => .inl (List.mem_append.2 (.inr m)))
     have h7n := F7.next
     refine (roundQ_norm _ _ _).2 ⟨Y.length - (i + 1), by omega, i + 1, B2, D ++ [y.own vy], F27, ?_, B2l, (by simp [T.gs]), (by simp [T.gs, g31]), (by simp [T.gs, g30]), (by simp [T.gs, g0]), (by simp [T.gs, g1]), by omega, ?_, gp7, gd7, ?_, rfl⟩
     · rcases hB2 with rfl | q
       · exact hB'
       · exact .inr (by omega)
     · rw [List.take_add_one, p4]; exact Cps.app cp ⟨⟨vy, rfl⟩, trivial⟩
     · intro Z h' hZ f x hx
       have f6 := f7 Z h' f
       rcases List.mem_append.1 hx with hx | hx
       · refine st' _ h' (fun z m => ?_) (Fr.trans F06 f6 F.wf (by simp) (fun x m => .inl m)) x hx
         rcases List.mem_append.1 m with m | m
         · simp at m
           rcases m with rfl | rfl
           · exact .inl bgl
           · exact .inr (.inl rfl)
         · rcases hZ z m with q | q | q
           · exact .inl q
           · subst q
             rcases hB2 with q | q
             · exact .inr (.inl q)
             · exact .inr (.inr (by omega))
           · exact .inr (.inr (by omega))
       · simp at hx; subst hx
         have f5 := (Fr.trans (T := [bg, B'] ++ Z) F_h6 f6 F5.wf (by simp) (fun x m => .inl m)).old F5.wf
         refine stb _ h' (fun z m => ?_) f5
         simp only [List.mem_filter, decide_eq_true_eq] at m
         obtain ⟨m, m2⟩ := m
         rcases List.mem_append.1 m with m | m
         · simp at m
           rcases m with rfl | rfl <;> omega
         · rcases hZ z m with q | q | q
           · omega
           · subst q
             rcases hB2 with q | q <;> omega
           · omega
   · have hi' : i = Y.length := by omega
     subst hi'
     rw [List.take_of_length_le (Nat.le_refl _)] at cp
     have kh2 : Km hh bm S mc.1 mc.2 := k2.frS F (by simp; exact ⟨d.g1.symm, d.t1.symm⟩) (by simp; exact ⟨d.g2.symm, d.t2.symm⟩)
     have gSh : Good hh S := (s.gS.fr F12 (npm S (fun q e => (d.p q e).2.2.2.2.1) d.m2.symm)).fr F (by simp; exact ⟨d.g2.symm, d.t2.symm⟩)
     have lX : (X.take p ++ D ++ X.drop p).length = X.length + Y.length := by simp; omega
     rw [← lX] at gp
     have bm2 : bm < h.next := s.k.lt w
     have key : ∀ x ∈ X.take p ++ D ++ X.drop p, 0 < x.key ∧ x.key < 18446744073709551616 := by
      intro x m
      rcases List.mem_append.1 m with m | m
      · rcases List.mem_append.1 m with m | m
        · have m := List.mem_of_mem_take m
          exact ⟨hX x m, (xh x m).k⟩
        · obtain ⟨y, ym, vy, rfl⟩ := cp.mem m
          exact ⟨(hY y ym).2.2, (hYI y ym).k⟩
      · have m := List.mem_of_mem_drop m
        exact ⟨hX x m, (xh x m).k⟩
     have h1n := F1.next
     have h2n := F2.next
     have hhn := F.next
     have Sln := s.Sl'
     have neB : ∀ x, x < h.next → x ≠ B → B' ≠ x := fun x a c => by
      rcases hB' with rfl | q
      · exact c.symm
      · omega
     simp only [evs, ↓reduceIte, Nat.reduceEqDiff, g32, g31, g0, g1, show ¬ ((Y.length : Nat) : Int) < (Y.length : Nat) by omega]
     refine OQ_does (from_ok (mc := mc) F.wf obh gp kh2 key (by omega) (by rw [lX]; exact hc) d.b3 d.b4 d.g1 d.g2 (neB bm bm2 d.t1.symm) (neB S Sln d.t2.symm) B'l gSh) ?_
     rintro _ h3 ⟨rfl, S', hS', k3, F3, gS3⟩
     simp only [evs, ↓reduceIte]
     have b0 := s.ob.lt w
     have bg0 := s.g.ob.1.lt w
     have B0 := s.gB.lt w
     have bl0 := s.bl'
     have S3 := gS3.lt F3.wf
     have h3n := F3.next
     obtain ⟨pl2, bl2⟩ := lo2.pmlt F2.wf
     have pm2 : ∀ q, pm' = some q → (pm = some q ∧ q < h.next) ∨ (h1.next ≤ q ∧ q < h2.next) := by
      intro q hq
      rcases hpm with e | ⟨_, x⟩
      · rw [e] at hq; exact .inl ⟨hq, s.pl q hq⟩
      · exact .inr ⟨x q hq, pl2 q hq⟩
     have npS : ∀ q, pm' = some q → q ≠ b ∧ q ≠ bg ∧ q ≠ B ∧ q ≠ B' ∧ q ≠ bm ∧ q ≠ S ∧ q ≠ S' ∧ q ≠ bl := by
      intro q hq
      rcases pm2 q hq with ⟨e, z⟩ | ⟨z1, z2⟩
      · obtain ⟨y1, y2, y3, y4, y5, y6⟩ := d.p q e
        refine ⟨y1, y2, y3, ?_, y4, y5, ?_, y6⟩
        · rcases hB' with rfl | r
          · exact y3
          · omega
        · rcases hS' with rfl | r
          · exact y5
          · omega
      · refine ⟨by omega, by omega, by omega, ?_, by omega, by omega, ?_, by omega⟩
        · rcases hB' with rfl | r <;> omega
        · rcases hS' with rfl | r <;> omega
     have nS : ∀ x, x < hh.next → x ≠ S → S' ≠ x := fun x a c => by
      rcases hS' with rfl | q
      · exact c.symm
      · omega
     have lo3 : LoP h3 bl pm' (l.take p ++ Y.map (kBase Ks) ++ l.drop p) (kn.take p ++ List.replicate Y.length false ++ kn.drop p) (st.take p ++ Y.map (kStick Ks) ++ st.drop p) := by
      refine LoP.frS (LoP.frS lo2 F (Oth.app (A := [bg]) g2.ob.1.oth gB2.oth) (by simp; exact ⟨d.g3.symm, d.t3.symm⟩) (fun q e => ?_)) F3 (Oth.app (A := [bm]) kh2.bmgood.oth gSh.oth) (by simp; exact ⟨d.m1.symm, d.m2.symm⟩) (fun q e => ?_)
      · obtain ⟨y1, y2, y3, y4, y5, y6, y7, y8⟩ := npS q e
        simp; exact ⟨y2, y3⟩
      · obtain ⟨y1, y2, y3, y4, y5, y6, y7, y8⟩ := npS q e
        simp; exact ⟨y5, y6⟩
     refine ⟨D, B', S', pm', cp, ⟨F3.own b _ (by simp; exact ⟨d.b3, d.b4⟩) obh, gp.fr F3 (by simp; exact ⟨d.g1, d.g2⟩) (by simp; exact ⟨neB bm bm2 d.t1.symm, neB S Sln d.t2.symm⟩), gd.fr F3 (by simp; exact ⟨neB bm bm2 d.t1.symm, neB S Sln d.t2.symm⟩), k3, gS3, lo3, ?_, ?_, ?_, S3, fun q e => by have := pl2 q e; omega, by omega, by have := s.n0l; omega⟩, ?_, ?_, ?_, ?_⟩
     · have := s.len
       simp; omega
     · intro Z h' hZ f
       have f23 : Fr ([bg, B] ++ [bm, S] ++ Z) h2 h' := by
        refine Fr.trans (Fr.trans (T := [bg, B] ++ [bm, S]) F F3 F2.wf (fun x m => .inl (List.mem_append.2 (.inl m))) (fun x m => .inl (List.mem_append.2 (.inr m)))) f F2.wf (fun x m => .inl (List.mem_append.2 (.inl m))) (fun x m => .inl (List.mem_append.2 (.inr m)))
       have f0 : Fr ((bl :: pm.toList) ++ ([bg, B] ++ [bm, S] ++ Z)) h h' := Fr.trans F12 f23 w (fun x m => .inl (List.mem_append.2 (.inl m))) (fun x m => .inl (List.mem_append.2 (.inr m)))
       have hZ0 : ∀ z ∈ (bl :: pm.toList) ++ ([bg, B] ++ [bm, S] ++ Z), z ∈ Wr b bg B bm S bl pm ∨ h.next ≤ z ∨ z < n0 := by
        intro z m
        rcases List.mem_append.1 m with m | m
        · exact .inl (bmW z m)
        rcases List.mem_append.1 m with m | m
        · left
          simp only [Wr, List.mem_append, List.mem_cons, List.not_mem_nil, or_false] at m ⊢
          rcases m with (m | m) | (m | m) <;> simp [m]
        · rcases hZ z m with q | q | q
          · simp only [Wr, List.mem_append, List.mem_cons, List.not_mem_nil, or_false] at q
            rcases q with (q | q | q | q | q | q) | q
            · exact .inl (by simp [Wr, q])
            · exact .inl (by simp [Wr, q])
            · subst q
              rcases hB' with r | r
              · exact .inl (by simp [Wr, r])
              · exact .inr (.inl (by omega))
            · exact .inl (by simp [Wr, q])
            · subst q
              rcases hS' with r | r
              · exact .inl (by simp [Wr, r])
              · exact .inr (.inl (by omega))
            · exact .inl (by simp [Wr, q])
            · simp at q
              rcases pm2 z q with ⟨e, _⟩ | ⟨z1, _⟩
              · exact .inl (by simp [Wr, e])
              · exact .inr (.inl (by omega))
          · exact .inr (.inl (by omega))
          · exact .inr (.inr q)
       obtain ⟨rk', kh', xh'⟩ := s.rd _ h' hZ0 f0
       refine ⟨rk', kh', fun x m => ?_⟩
       rcases List.mem_append.1 m with m | m
       · rcases List.mem_append.1 m with m | m
         · exact xh' x (List.mem_of_mem_take m)
         · have fh : Fr ([bm, S] ++ Z) hh h' := Fr.trans F3 f F.wf (fun x m => .inl (List.mem_append.2 (.inl m))) (fun x m => .inl (List.mem_append.2 (.inr m)))
           have r := st' _ h' (fun z m => ?_) fh x m
           · obtain ⟨y, ym, vy, rfl⟩ := cp.mem m
             have ay := hYI y ym
             exact ⟨ay.k, ay.t, Sl.a r, ay.n, ay.l⟩
           · rcases List.mem_append.1 m with m | m
             · simp at m
               rcases m with rfl | rfl
               · exact .inl (by omega)
               · exact .inl (by omega)
             · rcases hZ z m with q | q | q
               · simp only [Wr, List.mem_append, List.mem_cons, List.not_mem_nil, or_false] at q
                 rcases q with (q | q | q | q | q | q) | q
                 · exact .inl (by omega)
                 · exact .inl (by omega)
                 · exact .inr (.inl q)
                 · exact .inl (by omega)
                 · rcases hS' with r | r
                   · exact .inl (by omega)
                   · exact .inr (.inr (by omega))
                 · exact .inl (by omega)
                 · simp at q
                   rcases pm2 z q with ⟨_, z1⟩ | ⟨_, z2⟩
                   · exact .inl (by omega)
                   · exact .inl (by omega)
               · exact .inr (.inr (by omega))
               · exact .inl (by have := s.n0l; omega)
       · exact xh' x (List.mem_of_mem_drop m)
     · exact ⟨d.b1, (neB b b0 d.b2).symm, d.b3, (nS b (by omega) d.b4).symm, d.b5, d.g1, (nS bg (by omega) d.g2).symm, d.g3, neB bm bm2 d.t1.symm, by
        rcases hS' with rfl | q
        · exact neB _ Sln d.t2.symm
        · omega, neB bl bl0 d.t3.symm, d.m1, nS bl (by omega) d.m2.symm, fun q e => by
        obtain ⟨y1, y2, y3, y4, y5, y6, y7, y8⟩ := npS q e
        exact ⟨y1, y2, y4, y5, y7, y8⟩⟩
     · refine Fr.trans (Fr.trans (T := Wr b bg B bm S bl pm) F12 F w (fun x m => .inl (bmW x m)) (fun x m => .inl ?_)) F3 w (fun x m => .inl m) (fun x m => .inl ?_)
       · simp only [Wr, List.mem_append, List.mem_cons, List.not_mem_nil, or_false] at m ⊢
         rcases m with m | m <;> simp [m]
       · simp only [Wr, List.mem_append, List.mem_cons, List.not_mem_nil, or_false] at m ⊢
         rcases m with m | m <;> simp [m]
     · rcases hB' with r | r
       · exact .inl r
       · exact .inr (by omega)
     · rcases hS' with r | r
       · exact .inl r
       · exact .inr (by omega)
     · rcases hpm with e | ⟨_, x⟩
       · exact .inl e
       · exact .inr fun q hq => by have := x q hq; omega
open Go.Ev.St
set_option maxRecDepth 4000
theorem sNew_ok {h : Heap} {v : V} {L : List Knd} {cap : Int} (w : WF h) (a : Recs Knd.cells 9 h v L) (hL : ∀ q ∈ L, KndH h q) (hn : L.length ≤ 4096) (ok : okR L cap = true) :
 Does go 8 [.agg [v, .int .i64 cap]] h fun u h' => ∃ b bg bm bl vK K, u = .tup [.ptr b 0, .int .i64 0] ∧ Fr [] h h' ∧ sameKs L K ∧ Sto h.next h' b K cap [] [] [] [] vK bg h.next bm bm bl none (fun _ => none, 0) ∧ (∀ y ∈ Wr b bg h.next bm bm bl none, h.next ≤ y) := by
 have nv : ∀ n : Int, v ≠ .int .i64 n := fun n => Sl.noint a _ _
 refine OQ.mono (New_ok w a hL hn ok) ?_
 rintro u h' ⟨b, bg, bm, bl, vK, K, rfl, F, sK, ob, obg, km, lo, c1, c2, c3, c4, c5, oB, st⟩
 have w' := F.wf
 have gB : Good h' h.next := ⟨_, oB, by simp, by
  intro L p e
  cases L with
  | nil => simp at p
  | cons q L =>
   simp [sp] at e
   exact nv _ e.1⟩
 have pl := lo.pmlt w'
 refine ⟨b, bg, bm, bl, vK, K, rfl, F, sK, ⟨ob, ?_, gB, km, km.bmgood, lo, rfl, ?_, ?_, km.lt w', by simp, pl.2, F.next⟩, ?_⟩
 · exact ⟨.nils, [], [], [], 0, 0, 0, ⟨obg, ⟨rfl, .inl ⟨rfl, rfl⟩⟩, rfl, rfl, rfl, rfl, rfl, by omega, by omega, by omega, fun x m => by simp at m⟩, rfl, rfl⟩
 · intro Z h2 hZ f
   obtain ⟨x1, x2⟩ := st Z h2 (fun y m => by
    rcases hZ y m with q | q | q
    · simp [Wr] at q
      rcases q with q | q | q | q | q
      · exact .inr (.inl q)
      · exact .inr (.inr (.inl q))
      · exact .inl (by omega)
      · exact .inr (.inr (.inr (.inl q)))
      · exact .inr (.inr (.inr (.inr (.inl q))))
    · exact .inr (.inr (.inr (.inr (.inr q))))
    · exact .inl (by omega)) f
   exact ⟨x1, x2, by simp⟩
 · exact ⟨by omega, by omega, by omega, by omega, by omega, by omega, by omega, by omega, by omega, by omega, by omega, by omega, by omega, by simp⟩
 · intro y m
   simp [Wr] at m
   omega
section
variable {n0 : Nat} {h : Heap} {b : Nat} {Ks : List Knd} {cap : Int} {X : List Itm} {l : List Int} {kn st : List Bool} {vK : V} {bg B bm S bl : Nat} {pm : Option Nat} {mc : KMap}
theorem none_ok (s : Sto n0 h b Ks cap X l kn st vK bg B bm S bl pm mc) : Does go 44 [.ptr b 0] h fun u h' => u = .bool false ∧ h = h' := by
 have l2 : hload1 h b 2 = some (.ptr bg 0) := s.ob.ld1 2
 refine does_fn g44 rfl ?_
 simp only [fn44, evs, ↓reduceIte, Nat.reduceEqDiff, l2]
theorem sLen_ok (s : Sto n0 h b Ks cap X l kn st vK bg B bm S bl pm mc) : Does go 11 [.ptr b 0] h fun u h' => u = .int .i64 (X.length : Nat) ∧ h = h' := by
 have l2 : hload1 h b 2 = some (.ptr bg 0) := s.ob.ld1 2
 refine does_fn g11 rfl ?_
 simp only [fn11, evs, ↓reduceIte, Nat.reduceEqDiff]
 refine OQ_does (none_ok s) ?_
 rintro _ _ ⟨rfl, rfl⟩
 simp only [evs, ↓reduceIte, Nat.reduceEqDiff, l2]
 refine OQ_does (gLenn_ok s.g) ?_
 rintro _ _ ⟨rfl, rfl⟩
 simp only [evs, ↓reduceIte]
end
open Go.Ev.St
set_option maxRecDepth 4000
theorem sput_err {n0 : Nat} {h : Heap} {b bg B bm S bl p : Nat} {Ks : List Knd} {cap : Int} {X Y : List Itm} {l : List Int} {kn st : List Bool} {vK v : V} {pm : Option Nat} {mc : KMap} (w : WF h) (s : Sto n0 h b Ks cap X l kn st vK bg B bm S bl pm mc)
 (hp : p ≤ X.length) (hn : Y.length ≤ 1024) (hx : X.length ≤ 1024) (sY : ARecs Itm.cells 4 h v Y) (hYI : ∀ y ∈ Y, ItmH h y ∧ y.type < Ks.length) (e0 : xinsE l p (Y.map (kBase Ks)) ≠ 0) :
 Does go 96 [.ptr b 0, .int .i64 (p : Int), v] h fun u h' => u = .int .i64 (xinsE l p (Y.map (kBase Ks))) ∧ Fr (bl :: pm.toList) h h' := by
 obtain ⟨rk, kh, xh⟩ := s.rd [] h (by simp) (Fr.refl w)
 refine does_fn g96 rfl ?_
 simp only [fn96, evs, ↓reduceIte, Nat.reduceEqDiff, Nat.reduceAdd]
 refine OQ_does (bases_ok w ⟨vK, _, _, _, s.ob, rk, kh⟩ sY hYI (by omega)) ?_
 rintro _ h1 ⟨v4, v5, rfl, G4, G5, F1⟩
 have am : Ints h1 v4 (Y.map (kBase Ks)) := by
  have := G4.sl (n := (Y.map (kBase Ks)).length) (by simp) (by omega)
  unfold Ints Vals; rw [List.map_map]; exact this
 have as : Bools h1 v5 (Y.map (kStick Ks)) := by
  have := G5.sl (n := (Y.map (kStick Ks)).length) (by simp) (by omega)
  unfold Bools Vals; rw [List.map_map]; exact this
 have l4 : hload1 h1 b 4 = some (.ptr bl 0) := (F1.get s.ob).ld1 4
 simp only [evs, ↓reduceIte, Nat.reduceEqDiff, l4]
 refine OQ_does (LInsQ_ok F1.wf (s.lo.fr F1) am as (by simp; omega) (by simp) (by omega) (by omega)) ?_
 rintro _ h2 ⟨rfl, F2, _⟩
 simp only [evs, ↓reduceIte, Nat.reduceEqDiff, eq_false e0]
 exact Fr.trans F1 F2 w (by simp) (fun x m => .inl m)
theorem Sto.move {n0 m0 : Nat} {h h' : Heap} {b b' bg B bm S bl : Nat} {Ks : List Knd} {cap : Int} {X : List Itm} {l : List Int} {kn st : List Bool} {vK : V} {pm : Option Nat} {mc : KMap} {c0 : List V} (w : WF h) (s : Sto n0 h b' Ks cap X l kn st vK bg B bm S bl pm mc)
 (ge : ∀ y ∈ Wr b' bg B bm S bl pm, n0 ≤ y) (o0 : Own h b c0) (h5 : c0.length = 5) (hb : b < n0) (hm : m0 ≤ n0) (f : Fr [b] h h') (ob : Own h' b [vK, .int .i64 cap, .ptr bg 0, .ptr bm 0, .ptr bl 0]) :
 Sto m0 h' b Ks cap X l kn st vK bg B bm S bl pm mc := by
 have g : ∀ y ∈ Wr b' bg B bm S bl pm, y ≠ b := fun y m => by have := ge y m; omega
 simp only [Wr, List.mem_append, List.mem_cons, List.not_mem_nil, or_false] at g
 have g1 := g bg (by simp)
 have g2 := g B (by simp)
 have g3 := g bm (by simp)
 have g4 := g S (by simp)
 have g5 := g bl (by simp)
 have g6 : ∀ q, pm = some q → q ≠ b := fun q e => g q (by simp [e])
 have d := s.d
 have fn := f.next
 have n0l := s.n0l
 refine ⟨ob, s.g.fr f (by simpa using g1) (by simpa using g2), s.gB.fr f (by simpa using g2), s.k.frS f (by simpa using g3) (by simpa using g4), s.gS.fr f (by simpa using g4), ?_, s.len, ?_, ?_, by have := s.Sl'; omega, fun q e => by have := s.pl q e; omega, by have := s.bl'; omega, by omega⟩
 · exact s.lo.frS f (Oth.own o0 (by omega) (odd_sp (n := 2) h5)) (by simpa using g5) (fun q e => by simpa using g6 q e)
 · intro Z h2 hZ f2
   refine s.rd ([b] ++ Z) h2 (fun z m => ?_) (Fr.trans f f2 w (fun x m => .inl (List.mem_append.2 (.inl m))) (fun x m => .inl (List.mem_append.2 (.inr m))))
   rcases List.mem_append.1 m with m | m
   · simp at m; subst m; exact .inr (.inr hb)
   · rcases hZ z m with q | q | q
     · simp only [Wr, List.mem_append, List.mem_cons, List.not_mem_nil, or_false] at q ⊢
       rcases q with (q | q | q | q | q | q) | q
       · exact .inr (.inr (by omega))
       all_goals exact .inl (by simp [q])
     · exact .inr (.inl (by omega))
     · exact .inr (.inr (by omega))
 · exact ⟨g1.symm, g2.symm, g3.symm, g4.symm, g5.symm, d.g1, d.g2, d.g3, d.t1, d.t2, d.t3, d.m1, d.m2, fun q e => ⟨g6 q e, (d.p q e).2⟩⟩
theorem incE_ok {Ks : List Knd} {cap : Int} {p : Nat → Bool} : ∀ {seen : List Nat} {Y : List Itm}, incE Ks cap p seen Y = 0 → ∀ y ∈ Y, okI y Ks.length = true
 | _, [], _, y, m => by simp at m
 | seen, x :: r, e, y, m => by
  simp only [incE] at e
  by_cases c1 : okI x Ks.length = false
  · rw [if_pos c1] at e; cases e
  rw [if_neg c1] at e
  by_cases c2 : x.key ∈ seen ∨ p x.key = true
  · rw [if_pos c2] at e; cases e
  rw [if_neg c2] at e
  by_cases c3 : rendK Ks cap x ≠ 0
  · rw [if_pos c3] at e; exact absurd e c3
  rw [if_neg c3] at e
  rcases List.mem_cons.1 m with rfl | m
  · simpa using c1
  · exact incE_ok e y m
theorem same_base {Ks K : List Knd} (h : sameKs Ks K) (y : Itm) : kBase K y = kBase Ks y ∧ kStick K y = kStick Ks y := by
 unfold kBase kStick
 cases e : Ks[y.type]? with
 | none =>
  have : K[y.type]? = none := by rw [List.getElem?_eq_none_iff] at e ⊢; rw [← sameKs_len h]; exact e
  rw [this]; exact ⟨rfl, rfl⟩
 | some q =>
  obtain ⟨p, e2, s⟩ := sameKs_get h e
  rw [e2]
  obtain ⟨_, _, _, _, _, h6, h7, _⟩ := s
  exact ⟨h6.symm, h7.symm⟩
theorem none106 (h0 : Heap) : There h0 106 [] (fun _ => false) := ⟨by decide, fun h k f _ => by
 refine does_fn g106 rfl ?_
 simp only [fn106, evs, ↓reduceIte]
 exact Fr.refl f.wf⟩
def resE (Ks : List Knd) (cap : Int) (Y : List Itm) : Int := if 1024 < Y.length then 3 else if incE Ks cap (fun _ => false) [] Y ≠ 0 then incE Ks cap (fun _ => false) [] Y else xinsE [] 0 (Y.map (kBase Ks))
theorem reset_ok {n0 : Nat} {h : Heap} {b bg B bm S bl : Nat} {Ks : List Knd} {cap : Int} {X Y : List Itm} {l : List Int} {kn st : List Bool} {vK v : V} {pm : Option Nat} {mc : KMap} {k0 a0 c0 t0 : V} (w : WF h) (s : Sto n0 h b Ks cap X l kn st vK bg B bm S bl pm mc) (ok : okR Ks cap = true)
 (sY : ARecs Itm.cells 4 h v Y) (hY : ∀ y ∈ Y, ItmH h y ∧ nZ y.vm = true) (hl : Y.length ≤ 4096) (ones : onesB [k0, a0, c0, t0, v] = true) :
 Does go 50 [.ptr b 0, .agg [k0, a0, c0, t0, v]] h fun u h' => u = .int .i64 (resE Ks cap Y) ∧ (resE Ks cap Y ≠ 0 → Fr [] h h') ∧
  (resE Ks cap Y = 0 → Fr [b] h h' ∧ ∃ K Y' vK' bg' B' bm' S' bl' pm', sameKs Ks K ∧ Cps Y Y' ∧ Sto 0 h' b K cap Y' (Y.map (kBase Ks)) (List.replicate Y.length false) (Y.map (kStick Ks)) vK' bg' B' bm' S' bl' pm' (putsS (fun _ => none, 0) Y' 0) ∧ ∀ y ∈ [bg', B', bm', S', bl'] ++ pm'.toList, h.next ≤ y) := by
 obtain ⟨rk, kh, xh⟩ := s.rd [] h (by simp) (Fr.refl w)
 have hK : Ks.length ≤ 8 := by
  simp only [okR, Bool.and_eq_true, decide_eq_true_eq] at ok
  exact ok.2.1
 obtain ⟨h1, e_h1⟩ : ∃ h1, h1 = halloc h [k0, a0, c0, t0, v] := ⟨_, rfl⟩
 have F_h1 : Fr [] h h1 := e_h1 ▸ Fr.halloc w _
 have o_h1 : Own h1 h.next [k0, a0, c0, t0, v] := e_h1 ▸ Own.new w _
 have n1 : h1.next = h.next + 1 := by rw [e_h1]; rfl
 have l4 : hload1 h1 h.next 4 = some v := o_h1.ld1 4
 unfold resE
 by_cases c1 : 1024 < Y.length
 · refine does_fn g50 rfl ?_
   simp only [fn50, evs, ↓reduceIte, Nat.reduceEqDiff, Nat.reduceAdd, ← e_h1, l4, (sY.fr F_h1).len, show (1024 : Int) < (Y.length : Nat) by omega]
   rw [if_pos c1]
   exact ⟨rfl, fun _ => F_h1, fun e => by cases e⟩
 refine does_fn g50 rfl ?_
 simp only [fn50, evs, ↓reduceIte, Nat.reduceEqDiff, Nat.reduceAdd, ← e_h1, l4, (sY.fr F_h1).len, show ¬ (1024 : Int) < (Y.length : Nat) by omega]
 rw [if_neg c1]
 refine OQ_does (incoming_ok F_h1.wf (RulesAt.fr ⟨vK, _, _, _, s.ob, rk, kh⟩ F_h1) hK (sY.fr F_h1) (fun y m => (hY y m).1.fr F_h1) hl (none106 h1)) ?_
 rintro _ h2 ⟨rfl, F2⟩
 have F02 := F_h1.then F2
 by_cases c2 : incE Ks cap (fun _ => false) [] Y = 0
 · have good := incE_ok c2
   rw [c2, if_neg (by simp)]
   have ob2 := F02.get s.ob
   have r2 : hload h2 b 0 2 = some [vK, .int .i64 cap] := by rw [ob2.ld]; rfl
   simp only [evs, ↓reduceIte, Nat.reduceEqDiff, r2]
   refine OQ_does (sNew_ok F02.wf (Recs.fr rk F02) (fun q m => (kh q m).fr F02) (by omega) ok) ?_
   rintro _ h3 ⟨b', bg', bm', bl', vK', K, rfl, F3, sK, s3, ge3⟩
   have F03 := F02.then F3
   have l43 : hload1 h3 h.next 4 = some v := (F3.get (F2.get o_h1)).ld1 4
   have h2n := F02.next
   have eb : Y.map (kBase K) = Y.map (kBase Ks) := List.map_congr_left fun y _ => (same_base sK y).1
   have es : Y.map (kStick K) = Y.map (kStick Ks) := List.map_congr_left fun y _ => (same_base sK y).2
   have ge3' : ∀ y ∈ Wr b' bg' h2.next bm' bm' bl' none, h.next ≤ y := fun y m => by have := ge3 y m; omega
   have ht : ∀ y ∈ Y, y.type < K.length ∧ 0 < y.key := by
    intro y m
    have := good y m
    simp only [okI, Bool.and_eq_true, decide_eq_true_eq] at this
    rw [← sameKs_len sK]
    exact ⟨this.2.1, by omega⟩
   by_cases c3 : xinsE [] 0 (Y.map (kBase K)) = 0
   · have c3' := c3
     rw [eb] at c3'
     have key0 : ∀ x ∈ ([] : List Itm), 0 < x.key := by simp
     simp only [evs, ↓reduceIte, Nat.reduceEqDiff, l43]
     refine OQ_does (sput_ok (p := 0) F3.wf s3 (by simp) (by simp; omega) (by simp; omega) (fun Z x hZ f => ?_) (fun y m => ⟨(hY y m).2, ht y m⟩) key0 c3) ?_
     · have fz : Fr [] h x := Fr.new w F03 f (fun y m => by
        rcases hZ y m with q | q
        · exact ge3' y q
        · have := F3.next; omega)
       exact ⟨sY.fr fz, fun y m => (hY y m).1.fr fz⟩
     rintro _ h4 ⟨rfl, Y', B', S', pm', cp, s4, F4, hB', hS', hp'⟩
     have fr4 : Fr [] h h4 := Fr.new w F03 F4 ge3'
     simp only [List.take_nil, List.drop_nil, List.nil_append, List.append_nil, eb, es, List.drop_zero] at s4
     have l5 : hload h4 b' 0 5 = some [vK', .int .i64 cap, .ptr bg' 0, .ptr bm' 0, .ptr bl' 0] := by rw [s4.ob.ld]; rfl
     simp only [evs, ↓reduceIte, Nat.reduceEqDiff, l5]
     refine store_step (c' := [vK', .int .i64 cap, .ptr bg' 0, .ptr bm' 0, .ptr bl' 0]) fr4.wf (fr4.get s.ob) rfl (by
      have v1 : vK'.one = true := Sl.one (s4.rd [] h4 (by simp) (Fr.refl F4.wf)).1
      simp only [V.cells, onesB_cons, onesB_nil, v1]; rfl) rfl ?_
     intro h5 o5 F5 n5
     have h3n := F3.next
     have wr : ∀ y ∈ Wr b' bg' B' bm' S' bl' pm', h2.next ≤ y := by
      intro y m
      simp only [Wr, List.mem_append, List.mem_cons, List.not_mem_nil, or_false] at m ge3
      rcases m with (rfl | rfl | rfl | rfl | rfl | rfl) | m
      · exact ge3 _ (by simp)
      · exact ge3 _ (by simp)
      · rcases hB' with rfl | q <;> omega
      · exact ge3 _ (by simp)
      · rcases hS' with rfl | q
        · exact ge3 _ (by simp)
        · omega
      · exact ge3 _ (by simp)
      · rcases hp' with rfl | q
        · simp at m
        · have := q y (by simpa using m); omega
     have s5 := Sto.move (m0 := 0) F4.wf s4 wr (fr4.get s.ob) rfl ((F02.get s.ob).lt F02.wf) (Nat.zero_le _) F5 o5
     have f5 : Fr [b] h h5 := Fr.trans fr4 F5 w (fun y hy => by simp at hy) (fun y hy => .inl hy)
     simp only [evs, ↓reduceIte, eq_true c3']
     refine ⟨by rw [c3'], fun e => absurd c3' e, fun _ => ⟨f5, K, Y', vK', bg', B', bm', S', bl', pm', sK, cp, s5, fun y m => ?_⟩⟩
     have := wr y (by
      simp only [Wr, List.cons_append, List.nil_append, List.mem_cons] at m ⊢
      exact .inr m)
     omega
   · have c3' := c3
     rw [eb] at c3'
     simp only [evs, ↓reduceIte, Nat.reduceEqDiff, l43]
     refine OQ_does (sput_err (p := 0) F3.wf s3 (by simp) (by omega) (by simp) (sY.fr F03) (fun y m => ⟨(hY y m).1.fr F03, (ht y m).1⟩) c3) ?_
     rintro _ h4 ⟨rfl, F4⟩
     rw [eb]
     have fr4 : Fr [] h h4 := Fr.new w F03 F4 (fun y m => by
      have := ge3 y (by simp [Wr] at m ⊢; omega)
      omega)
     have c3'' : ¬ xinsE [] ((0 : Nat) : Int) (Y.map (kBase Ks)) = 0 := c3'
     simp only [evs, ↓reduceIte, Nat.reduceEqDiff, eq_false c3'']
     refine ⟨rfl, fun _ => fr4, fun e => absurd e c3'⟩
 · rw [if_pos c2]
   simp only [evs, ↓reduceIte, Nat.reduceEqDiff, eq_false c2]
   exact ⟨fun _ => F02, fun e => e.elim⟩
theorem Sto.fr {n0 : Nat} {h h' : Heap} {b bg B bm S bl : Nat} {Ks : List Knd} {cap : Int} {X : List Itm} {l : List Int} {kn st : List Bool} {vK : V} {pm : Option Nat} {mc : KMap} (w : WF h) (s : Sto n0 h b Ks cap X l kn st vK bg B bm S bl pm mc) (f : Fr [] h h') :
 Sto n0 h' b Ks cap X l kn st vK bg B bm S bl pm mc := by
 have fn := f.next
 refine ⟨f.get s.ob, s.g.fr f (by simp) (by simp), s.gB.fr f (by simp), s.k.fr f, s.gS.fr f (by simp), s.lo.fr f, s.len, ?_, s.d, by have := s.Sl'; omega, fun q e => by have := s.pl q e; omega, by have := s.bl'; omega, by have := s.n0l; omega⟩
 intro Z h2 hZ f2
 refine s.rd Z h2 (fun z m => ?_) (Fr.trans f f2 w (fun x m => by simp at m) (fun x m => .inl m))
 rcases hZ z m with q | q | q
 · exact .inl q
 · exact .inr (.inl (by omega))
 · exact .inr (.inr q)
theorem Sto.lay {n0 : Nat} {h h' : Heap} {b bg B bm S bl : Nat} {Ks : List Knd} {cap : Int} {X : List Itm} {l l' : List Int} {kn st kn' st' : List Bool} {vK : V} {pm pm' : Option Nat} {mc : KMap} (w : WF h) (s : Sto n0 h b Ks cap X l kn st vK bg B bm S bl pm mc) (f : Fr (bl :: pm.toList) h h')
 (a : LoP h' bl pm' l' kn' st') (hl : l'.length = X.length) (hp : pm' = pm ∨ ∀ q, pm' = some q → h.next ≤ q) : Sto n0 h' b Ks cap X l' kn' st' vK bg B bm S bl pm' mc := by
 have d := s.d
 have fn := f.next
 have n0l := s.n0l
 have nb : ∀ y, y ≠ bl → (∀ q, pm = some q → q ≠ y) → y ∉ bl :: pm.toList := by
  intro y h1 h2 m
  rcases List.mem_cons.1 m with m | m
  · exact h1 m
  · exact h2 y (by simpa using m) rfl
 have lb := s.ob.lt w
 have lg : bg < h.next := s.g.ob.1.lt w
 have lB := s.gB.lt w
 have lm := s.k.lt w
 have lS := s.Sl'
 have ll := s.bl'
 have pl := a.pmlt f.wf
 have dp := d.p
 have xb := nb b d.b5 fun q e => (dp q e).1
 have xg := nb bg d.g3 fun q e => (dp q e).2.1
 have xB := nb B d.t3 fun q e => (dp q e).2.2.1
 have xm := nb bm d.m1 fun q e => (dp q e).2.2.2.1
 have xS := nb S d.m2 fun q e => (dp q e).2.2.2.2.1
 refine ⟨f.own _ _ xb s.ob, s.g.fr f xg xB, s.gB.fr f xB, s.k.frS f xm xS, s.gS.fr f xS, a, hl, ?_, ?_, by omega, pl.1, by omega, by omega⟩
 · intro Z h2 hZ f2
   refine s.rd ((bl :: pm.toList) ++ Z) h2 (fun z m => ?_) (Fr.trans f f2 w (fun x m => .inl (List.mem_append.2 (.inl m))) (fun x m => .inl (List.mem_append.2 (.inr m))))
   rcases List.mem_append.1 m with m | m
   · refine .inl ?_
     rcases List.mem_cons.1 m with rfl | m
     · simp [Wr]
     · exact List.mem_append.2 (.inr m)
   · rcases hZ z m with q | q | q
     · rcases List.mem_append.1 q with q | q
       · exact .inl (List.mem_append.2 (.inl q))
       · rcases hp with rfl | hp
         · exact .inl (List.mem_append.2 (.inr q))
         · exact .inr (.inl (hp z (by simpa using q)))
     · exact .inr (.inl (by omega))
     · exact .inr (.inr q)
 · refine ⟨d.b1, d.b2, d.b3, d.b4, d.b5, d.g1, d.g2, d.g3, d.t1, d.t2, d.t3, d.m1, d.m2, fun q e => ?_⟩
   rcases hp with rfl | hp
   · exact dp q e
   · have := hp q e
     omega
theorem sput_no {n0 : Nat} {h : Heap} {b bg B bm S bl p : Nat} {Ks : List Knd} {cap : Int} {X Y : List Itm} {l : List Int} {kn st : List Bool} {vK v : V} {pm : Option Nat} {mc : KMap} (w : WF h) (s : Sto n0 h b Ks cap X l kn st vK bg B bm S bl pm mc)
 (hp : p ≤ X.length) (hn : Y.length ≤ 1024) (hx : X.length ≤ 1024) (sY : ARecs Itm.cells 4 h v Y) (hYI : ∀ y ∈ Y, ItmH h y ∧ y.type < Ks.length) (e0 : xinsE l p (Y.map (kBase Ks)) ≠ 0) :
 Does go 96 [.ptr b 0, .int .i64 (p : Int), v] h fun u h' => u = .int .i64 (xinsE l p (Y.map (kBase Ks))) ∧ Fr (bl :: pm.toList) h h' ∧ ∃ pm', (pm' = pm ∨ ∀ q, pm' = some q → h.next ≤ q) ∧ Sto n0 h' b Ks cap X l kn st vK bg B bm S bl pm' mc := by
 obtain ⟨rk, kh, xh⟩ := s.rd [] h (by simp) (Fr.refl w)
 refine does_fn g96 rfl ?_
 simp only [fn96, evs, ↓reduceIte, Nat.reduceEqDiff, Nat.reduceAdd]
 refine OQ_does (bases_ok w ⟨vK, _, _, _, s.ob, rk, kh⟩ sY hYI (by omega)) ?_
 rintro _ h1 ⟨v4, v5, rfl, G4, G5, F1⟩
 have am : Ints h1 v4 (Y.map (kBase Ks)) := by
  have := G4.sl (n := (Y.map (kBase Ks)).length) (by simp) (by omega)
  unfold Ints Vals; rw [List.map_map]; exact this
 have as : Bools h1 v5 (Y.map (kStick Ks)) := by
  have := G5.sl (n := (Y.map (kStick Ks)).length) (by simp) (by omega)
  unfold Bools Vals; rw [List.map_map]; exact this
 have l4 : hload1 h1 b 4 = some (.ptr bl 0) := (F1.get s.ob).ld1 4
 simp only [evs, ↓reduceIte, Nat.reduceEqDiff, l4]
 refine OQ_does (LInsQ_ok F1.wf (s.lo.fr F1) am as (by simp; omega) (by simp) (by omega) (by omega)) ?_
 rintro _ h2 ⟨rfl, F2, pm', hp, a⟩
 rw [if_neg e0] at a
 have n1 := F1.next
 have hp' : pm' = pm ∨ ∀ q, pm' = some q → h1.next ≤ q := by
  rcases hp with hp | hp
  · exact .inl hp
  · exact .inr hp.2
 have s2 := (s.fr w F1).lay F1.wf F2 a s.len hp'
 simp only [evs, ↓reduceIte, Nat.reduceEqDiff, eq_false e0]
 refine ⟨Fr.trans F1 F2 w (by simp) (fun x m => .inl m), pm', ?_, s2⟩
 rcases hp' with hp | hp
 · exact .inl hp
 · exact .inr fun q e => by have := hp q e; omega
theorem there95 {h : Heap} {g b bm S c : Nat} {m : Nat → Option Nat} {k0 k1 k3 : V} {k2 : V} (og : Own h g [.ptr b 0]) (ob : Own h b [k0, k1, k2, .ptr bm 0, k3]) (k : Km h bm S m c) : There h 95 [.ptr g 0] (fun x => (m x).isSome) := ⟨by decide, fun h1 x f hx => by
 have l0 : hload1 h1 g 0 = some (.ptr b 0) := (f.get og).ld1 0
 have l3 : hload1 h1 b 3 = some (.ptr bm 0) := (f.get ob).ld1 3
 refine does_fn g95 rfl ?_
 simp only [fn95, evs, ↓reduceIte, Nat.reduceEqDiff, Nat.reduceAdd, l0, l3]
 refine OQ_does (kGet_ok f.wf (k.fr f) hx) ?_
 rintro _ h2 ⟨rfl, F2⟩
 cases e : m x with
 | none =>
  simp only [evs, ↓reduceIte, getV']
  exact F2
 | some i =>
  simp only [evs, ↓reduceIte, getV']
  exact F2⟩
def insX (Ks : List Knd) (cap at_ : Int) (X Y : List Itm) (l : List Int) (p : Nat → Bool) : Int :=
 if at_ < 0 ∨ (X.length : Int) < at_ then 4 else if (1024 : Int) - X.length < Y.length then 3 else if incE Ks cap p [] Y ≠ 0 then incE Ks cap p [] Y else xinsE l at_.toNat (Y.map (kBase Ks))
theorem insert_ok {n0 : Nat} {h : Heap} {b bg B bm S bl : Nat} {Ks : List Knd} {cap a : Int} {X Y : List Itm} {l : List Int} {kn st : List Bool} {vK v : V} {pm : Option Nat} {mc : KMap} {k0 c0 t0 : V} (w : WF h) (s : Sto n0 h b Ks cap X l kn st vK bg B bm S bl pm mc) (ha : -9223372036854775808 ≤ a ∧ a < 9223372036854775808)
 (ok : okR Ks cap = true) (hX : ∀ x ∈ X, 0 < x.key) (hx : X.length ≤ 1024) (hc : mc.2 + 1024 ≤ 4096)
 (sv : ∀ (Z : List Nat) (h' : Heap), (∀ z ∈ Z, z ∈ Wr b bg B bm S bl pm ∨ h.next ≤ z) → Fr Z h h' → ARecs Itm.cells 4 h' v Y ∧ ∀ y ∈ Y, ItmH h' y) (hY : ∀ y ∈ Y, nZ y.vm = true) (hl : Y.length ≤ 4096) (ones : onesB [k0, .int .i64 a, c0, t0, v] = true) :
 Does go 46 [.ptr b 0, .agg [k0, .int .i64 a, c0, t0, v]] h fun u h' => u = .int .i64 (insX Ks cap a X Y l (fun x => (mc.1 x).isSome)) ∧
  (insX Ks cap a X Y l (fun x => (mc.1 x).isSome) ≠ 0 → Fr (bl :: pm.toList) h h' ∧ ∃ pm', (pm' = pm ∨ ∀ q, pm' = some q → h.next ≤ q) ∧ Sto n0 h' b Ks cap X l kn st vK bg B bm S bl pm' mc) ∧
  (insX Ks cap a X Y l (fun x => (mc.1 x).isSome) = 0 → 0 ≤ a ∧ a ≤ X.length ∧ X.length + Y.length ≤ 1024 ∧ ∃ Y' B' S' pm', Cps Y Y' ∧
   Sto n0 h' b Ks cap (X.take a.toNat ++ Y' ++ X.drop a.toNat) (l.take a.toNat ++ Y.map (kBase Ks) ++ l.drop a.toNat) (kn.take a.toNat ++ List.replicate Y.length false ++ kn.drop a.toNat) (st.take a.toNat ++ Y.map (kStick Ks) ++ st.drop a.toNat) vK bg B' bm S' bl pm'
    (putsS mc ((X.take a.toNat ++ Y' ++ X.drop a.toNat).drop a.toNat) a.toNat) ∧ Fr (Wr b bg B bm S bl pm) h h' ∧ (B' = B ∨ h.next ≤ B') ∧ (S' = S ∨ h.next ≤ S') ∧ (pm' = pm ∨ ∀ q, pm' = some q → h.next ≤ q)) := by
 obtain ⟨rk, kh, xh⟩ := s.rd [] h (by simp) (Fr.refl w)
 obtain ⟨sY, hYI⟩ := sv [] h (by simp) (Fr.refl w)
 have hK : Ks.length ≤ 8 := by
  simp only [okR, Bool.and_eq_true, decide_eq_true_eq] at ok
  exact ok.2.1
 have same : ∀ {h'}, Fr [] h h' → Fr (bl :: pm.toList) h h' ∧ ∃ pm', (pm' = pm ∨ ∀ q, pm' = some q → h.next ≤ q) ∧ Sto n0 h' b Ks cap X l kn st vK bg B bm S bl pm' mc := fun f => ⟨frQ f, pm, .inl rfl, s.fr w f⟩
 obtain ⟨h0, e_h0⟩ : ∃ h0, h0 = halloc h [.ptr b 0] := ⟨_, rfl⟩
 have F_h0 : Fr [] h h0 := e_h0 ▸ Fr.halloc w _
 have o_h0 : Own h0 h.next [.ptr b 0] := e_h0 ▸ Own.new w _
 obtain ⟨h1, e_h1⟩ : ∃ h1, h1 = halloc h0 [k0, .int .i64 a, c0, t0, v] := ⟨_, rfl⟩
 have F_h1 : Fr [] h0 h1 := e_h1 ▸ Fr.halloc F_h0.wf _
 have o_h1 : Own h1 h0.next [k0, .int .i64 a, c0, t0, v] := e_h1 ▸ Own.new F_h0.wf _
 have F01 := F_h0.then F_h1
 have s1 := s.fr w F01
 have l0 : hload1 h1 h.next 0 = some (.ptr b 0) := (F_h1.get o_h0).ld1 0
 have l1 : hload1 h1 h0.next 1 = some (.int .i64 a) := o_h1.ld1 1
 have l4 : hload1 h1 h0.next 4 = some v := o_h1.ld1 4
 by_cases c1 : a < 0
 · refine does_fn g46 rfl ?_
   simp only [fn46, evs, ↓reduceIte, Nat.reduceEqDiff, Nat.reduceAdd, DF, eff, Nat.reduceSub, ← e_h0, ← e_h1, l0, l1, eq_true c1]
   have e : insX Ks cap a X Y l (fun x => (mc.1 x).isSome) = 4 := by rw [insX, if_pos (.inl c1)]
   rw [e]
   exact ⟨rfl, fun _ => same F01, fun e => by cases e⟩
 refine does_fn g46 rfl ?_
 simp only [fn46, evs, ↓reduceIte, Nat.reduceEqDiff, Nat.reduceAdd, eff, ← e_h0, ← e_h1, l0, l1, eq_false c1]
 refine OQ_does (sLen_ok s1) ?_
 rintro _ _ ⟨rfl, rfl⟩
 by_cases c2 : (X.length : Int) < a
 · simp only [evs, ↓reduceIte, Nat.reduceEqDiff, Nat.reduceAdd, DF, eff, Nat.reduceSub, eq_true c2, l0, l1]
   have e : insX Ks cap a X Y l (fun x => (mc.1 x).isSome) = 4 := by rw [insX, if_pos (.inr c2)]
   rw [e]
   exact ⟨rfl, fun _ => same F01, fun e => by cases e⟩
 simp only [evs, ↓reduceIte, Nat.reduceEqDiff, Nat.reduceAdd, DF, eff, Nat.reduceSub, eq_false c2, l0, l1, l4, (sY.fr F01).len]
 refine OQ_does (sLen_ok s1) ?_
 rintro _ _ ⟨rfl, rfl⟩
 have ne12 : ¬ (a < 0 ∨ (X.length : Int) < a) := by omega
 by_cases c3 : (1024 : Int) - X.length < Y.length
 · simp (disch := omega) only [evs, ↓reduceIte, Nat.reduceEqDiff, Nat.reduceAdd, DF, eff, Nat.reduceSub, fwrap_i64, eq_true c3, l0, l4]
   have e : insX Ks cap a X Y l (fun x => (mc.1 x).isSome) = 3 := by rw [insX, if_neg ne12, if_pos c3]
   rw [e]
   exact ⟨rfl, fun _ => same F01, fun e => by cases e⟩
 have th : There h1 95 [.ptr h.next 0] (fun x => (mc.1 x).isSome) := there95 (F_h1.get o_h0) s1.ob s1.k
 simp (disch := omega) only [evs, ↓reduceIte, Nat.reduceEqDiff, Nat.reduceAdd, DF, eff, Nat.reduceSub, fwrap_i64, eq_false c3, l0, l4]
 refine OQ_does (incoming_ok F_h1.wf (RulesAt.fr ⟨vK, _, _, _, s.ob, rk, kh⟩ F01) hK (sY.fr F01) (fun y m => (hYI y m).fr F01) hl th) ?_
 rintro _ h2 ⟨rfl, F2⟩
 have F02 := F01.then F2
 have l0 := (F2.get (F_h1.get o_h0)).ld1 0
 have l1 : hload1 h2 h0.next 1 = some (.int .i64 a) := (F2.get o_h1).ld1 1
 have l4 : hload1 h2 h0.next 4 = some v := (F2.get o_h1).ld1 4
 by_cases c4 : incE Ks cap (fun x => (mc.1 x).isSome) [] Y = 0
 · have good := incE_ok c4
   obtain ⟨p, rfl⟩ : ∃ p : Nat, a = p := ⟨a.toNat, by omega⟩
   have hp : p ≤ X.length := by omega
   have hn : X.length + Y.length ≤ 1024 := by omega
   have e : insX Ks cap p X Y l (fun x => (mc.1 x).isSome) = xinsE l p (Y.map (kBase Ks)) := by rw [insX, if_neg ne12, if_neg c3, if_neg (by simp [c4])]; rfl
   have ht : ∀ y ∈ Y, y.type < Ks.length ∧ 0 < y.key := by
    intro y m
    have := good y m
    simp only [okI, Bool.and_eq_true, decide_eq_true_eq] at this
    exact ⟨this.2.1, by omega⟩
   simp only [evs, ↓reduceIte, Nat.reduceEqDiff, c4, l0, l1, l4]
   rw [e]
   have s2 := s.fr w F02
   have n2 := F02.next
   by_cases c5 : xinsE l p (Y.map (kBase Ks)) = 0
   · refine OQ_does (sput_ok (p := p) F2.wf s2 hp hn (by omega) (fun Z x hZ f => ?_) (fun y m => ⟨hY y m, ht y m⟩) hX c5) ?_
     · refine sv Z x (fun z m => ?_) (Fr.trans F02 f w (fun x m => by simp at m) (fun x m => .inl m))
       rcases hZ z m with q | q
       · exact .inl q
       · exact .inr (by omega)
     rintro _ h4 ⟨rfl, Y', B', S', pm', cp, s4, F4, hB', hS', hp'⟩
     have f4 : Fr (Wr b bg B bm S bl pm) h h4 := Fr.trans F02 F4 w (fun x m => by simp at m) (fun x m => .inl m)
     rw [c5]
     simp only [evs, ↓reduceIte]
     have q1 : B' = B ∨ h.next ≤ B' := by omega
     have q2 : S' = S ∨ h.next ≤ S' := by omega
     have q3 : pm' = pm ∨ ∀ q, pm' = some q → h.next ≤ q := by
      rcases hp' with z | z
      · exact .inl z
      · exact .inr fun q e => by have := z q e; omega
     exact ⟨fun e => absurd rfl e, fun _ => ⟨by omega, by omega, hn, Y', B', S', pm', cp, s4, f4, q1, q2, q3⟩⟩
   · refine OQ_does (sput_no (p := p) F2.wf s2 hp (by omega) hx (sY.fr F02) (fun y m => ⟨(hYI y m).fr F02, (ht y m).1⟩) c5) ?_
     rintro _ h4 ⟨rfl, F4, pm', hp', s4⟩
     have f4 : Fr (bl :: pm.toList) h h4 := Fr.trans F02 F4 w (fun x m => by simp at m) (fun x m => .inl m)
     simp only [evs, ↓reduceIte, eq_false c5]
     have q3 : pm' = pm ∨ ∀ q, pm' = some q → h.next ≤ q := by
      rcases hp' with z | z
      · exact .inl z
      · exact .inr fun q e => by have := z q e; omega
     exact ⟨fun _ => ⟨f4, pm', q3, s4⟩, fun e => e.elim⟩
 · have e : insX Ks cap a X Y l (fun x => (mc.1 x).isSome) = incE Ks cap (fun x => (mc.1 x).isSome) [] Y := by rw [insX, if_neg ne12, if_neg c3, if_pos c4]
   simp only [evs, ↓reduceIte, Nat.reduceEqDiff, eq_false c4]
   rw [e]
   exact ⟨rfl, fun _ => same F02, fun e => absurd e c4⟩
open Go.Ev.St
set_option maxRecDepth 4000
section
variable {n0 : Nat} {h : Heap} {b bg B bm S bl : Nat} {Ks : List Knd} {cap : Int} {X : List Itm} {l : List Int} {kn st : List Bool} {vK : V} {pm : Option Nat} {mc : KMap}
theorem sFind_ok {key : Nat} (w : WF h) (s : Sto n0 h b Ks cap X l kn st vK bg B bm S bl pm mc) (hk : key < 18446744073709551616) : Does go 10 [.ptr b 0, .int .u64 (key : Int)] h fun u h' => u = getV' (mc.1 key) ∧ Fr [] h h' := by
 have l3 : hload1 h b 3 = some (.ptr bm 0) := s.ob.ld1 3
 refine does_fn g10 rfl ?_
 simp only [fn10, evs, ↓reduceIte, Nat.reduceEqDiff, Nat.reduceAdd]
 refine OQ_does (none_ok s) ?_
 rintro _ _ ⟨rfl, rfl⟩
 simp only [evs, ↓reduceIte, Nat.reduceEqDiff, l3]
 refine OQ_does (kGet_ok w s.k hk) ?_
 rintro _ h2 ⟨rfl, F2⟩
 cases e : mc.1 key with
 | none =>
  simp only [evs, ↓reduceIte, Nat.reduceEqDiff, getV']
  exact F2
 | some i =>
  simp only [evs, ↓reduceIte, Nat.reduceEqDiff, getV']
  exact F2
theorem sLayout_ok (w : WF h) (s : Sto n0 h b Ks cap X l kn st vK bg B bm S bl pm mc) : Does go 13 [.ptr b 0] h fun u h' => ∃ c pm', u = .ptr c 0 ∧ h.next ≤ c ∧ (∀ q, pm' = some q → h.next ≤ q) ∧ LoP h' c pm' l kn st ∧ Fr [] h h' := by
 have l4 : hload1 h b 4 = some (.ptr bl 0) := s.ob.ld1 4
 refine does_fn g13 rfl ?_
 simp only [fn13, evs, ↓reduceIte, Nat.reduceEqDiff]
 refine OQ_does (none_ok s) ?_
 rintro _ _ ⟨rfl, rfl⟩
 simp only [evs, ↓reduceIte, Nat.reduceEqDiff, l4]
 refine OQ_does (LCopyQ_ok w s.lo) ?_
 rintro _ h2 ⟨c, pm', rfl, hc, hp, a, F2⟩
 simp only [evs, ↓reduceIte]
 exact ⟨c, pm', rfl, hc, hp, a, F2⟩
end
open Go.Ev.St
set_option maxRecDepth 4000
theorem gset_cells {h : Heap} {b B : Nat} {v : V} {c1 G c2 : List V} {a g m : Nat} {cs : List V} (k : GpT h b B v c1 G c2 a g m) {i : Nat} (hi : i < a + m) (hc : cs.length = 4) (ho : onesB cs = true) (nx : NoI cs) :
 ∃ c1' c2', updO (c1 ++ G ++ c2) ((if a ≤ i then i + g else i) * 4) cs = some (c1' ++ G ++ c2') ∧ (c1'.length = a * 4 ∧ c2'.length = m * 4) ∧ c1' ++ c2' = (c1 ++ c2).take (i * 4) ++ cs ++ (c1 ++ c2).drop (i * 4 + 4) ∧ onesB c1' = true ∧ onesB c2' = true ∧ NoI (c1' ++ G ++ c2') := by
 have l1 := k.l1; have lg := k.lg; have l2 := k.l2
 have n6 := k.n6
 have up : ∀ n, n * 4 + 4 ≤ (c1 ++ G ++ c2).length → updO (c1 ++ G ++ c2) (n * 4) cs = some ((c1 ++ G ++ c2).take (n * 4) ++ cs ++ (c1 ++ G ++ c2).drop (n * 4 + 4)) := by
  intro n hn
  rw [updO_at _ _ _ (by rw [hc]; exact hn), hc]
 by_cases c : a ≤ i
 · rw [if_pos c, up _ (by simp; omega)]
   obtain ⟨j, rfl⟩ : ∃ j, i = a + j := ⟨i - a, by omega⟩
   have t1 : (c1 ++ G ++ c2).take ((a + j + g) * 4) = c1 ++ G ++ c2.take (j * 4) := by
    rw [List.take_append, List.take_of_length_le (by simp; omega)]; congr 2; simp; omega
   have t2 : (c1 ++ G ++ c2).drop ((a + j + g) * 4 + 4) = c2.drop (j * 4 + 4) := by
    rw [List.drop_append, List.drop_of_length_le (by simp; omega), List.nil_append]; congr 1; simp; omega
   have t3 : (c1 ++ c2).take ((a + j) * 4) = c1 ++ c2.take (j * 4) := by
    rw [List.take_append, List.take_of_length_le (by omega)]; congr 2; omega
   have t4 : (c1 ++ c2).drop ((a + j) * 4 + 4) = c2.drop (j * 4 + 4) := by
    rw [List.drop_append, List.drop_of_length_le (by omega), List.nil_append]; congr 1; omega
   refine ⟨c1, c2.take (j * 4) ++ cs ++ c2.drop (j * 4 + 4), by rw [t1, t2]; simp, ⟨l1, by simp; omega⟩, by rw [t3, t4]; simp, k.o1, ?_, ?_⟩
   · rw [onesB_append, onesB_append, onesB_take _ k.o2, ho, onesB_drop _ k.o2]; rfl
   · refine NoI.app (n6.sub fun x m => by simp at m ⊢; rcases m with m | m <;> simp [m]) (NoI.app (NoI.app (n6.sub fun x m => ?_) nx) (n6.sub fun x m => ?_))
     · simp [List.mem_of_mem_take m]
     · simp [List.mem_of_mem_drop m]
 · rw [if_neg c, up _ (by simp; omega)]
   have t1 : (c1 ++ G ++ c2).take (i * 4) = c1.take (i * 4) := by
    rw [List.append_assoc, List.take_append_of_le_length (by omega)]
   have t2 : (c1 ++ G ++ c2).drop (i * 4 + 4) = c1.drop (i * 4 + 4) ++ G ++ c2 := by
    rw [List.append_assoc, List.drop_append_of_le_length (by omega), List.append_assoc]
   have t3 : (c1 ++ c2).take (i * 4) = c1.take (i * 4) := by
    rw [List.take_append_of_le_length (by omega)]
   have t4 : (c1 ++ c2).drop (i * 4 + 4) = c1.drop (i * 4 + 4) ++ c2 := by
    rw [List.drop_append_of_le_length (by omega)]
   refine ⟨c1.take (i * 4) ++ cs ++ c1.drop (i * 4 + 4), c2, by rw [t1, t2]; simp, ⟨by simp; omega, l2⟩, by rw [t3, t4]; simp, ?_, k.o2, ?_⟩
   · rw [onesB_append, onesB_append, onesB_take _ k.o1, ho, onesB_drop _ k.o1]; rfl
   · refine NoI.app (NoI.app (NoI.app (NoI.app (n6.sub fun x m => ?_) nx) (n6.sub fun x m => ?_)) (n6.sub fun x m => ?_)) (n6.sub fun x m => ?_)
     · simp [List.mem_of_mem_take m]
     · simp [List.mem_of_mem_drop m]
     · simp [m]
     · simp [m]
theorem gSet_ok {h : Heap} {b B : Nat} {v : V} {c1 G c2 : List V} {a g m : Nat} {x y z u : V} (w : WF h) (k : GpT h b B v c1 G c2 a g m) {i : Nat} (hi : i < a + m) (ho : onesB [x, y, z, u] = true) (nx : NoI [x, y, z, u]) :
 Does go 105 [.ptr b 0, .int .i64 (i : Int), .agg [x, y, z, u]] h fun r h' => r = .int .i64 0 ∧ Fr [B] h h' ∧ ∃ c1' c2', GpT h' b B v c1' G c2' a g m ∧ c1' ++ c2' = (c1 ++ c2).take (i * 4) ++ [x, y, z, u] ++ (c1 ++ c2).drop (i * 4 + 4) := by
 have am := k.am
 obtain ⟨h1, e_h1⟩ : ∃ h1, h1 = halloc h [x, y, z, u] := ⟨_, rfl⟩
 have F_h1 : Fr [] h h1 := e_h1 ▸ Fr.halloc w _
 have o_h1 : Own h1 h.next [x, y, z, u] := e_h1 ▸ Own.new w _
 have k1 := k.fr F_h1 (by simp) (by simp)
 have l0 := k1.ob.ld1 0
 simp only [nth_zero] at l0
 have ⟨a1, a2⟩ := k1.at' hi
 have l5 : hload h1 h.next 0 4 = some [x, y, z, u] := by rw [o_h1.ld]; rfl
 refine does_fn g105 rfl ?_
 simp only [fn105, evs, ↓reduceIte, Nat.reduceEqDiff, Nat.reduceAdd, ← e_h1]
 refine OQ_does (gcheck_ok k1 i 1) ?_
 rintro _ _ ⟨rfl, rfl⟩
 simp only [evs, ↓reduceIte, Nat.reduceEqDiff, eff, gchk_in hi]
 simp only [evs, ↓reduceIte, Nat.reduceEqDiff, eff, l0]
 refine OQ_does (place_ok k1 i (by omega)) ?_
 rintro _ _ ⟨rfl, rfl⟩
 simp only [evs, ↓reduceIte, Nat.reduceEqDiff, eff, a1, l5]
 obtain ⟨hl, ⟨rfl, z⟩ | ⟨rfl, o⟩⟩ := k1.tb
 · omega
 obtain ⟨c1', c2', e1, e2, e3, o1, o2, n1⟩ := gset_cells k1 hi rfl ho nx
 refine store_step F_h1.wf o rfl ho e1 ?_
 rintro h2 ob2 F2 n2
 have ne := k.ne
 have nb := F2.own b _ (by simp; exact fun e => ne e.symm) k1.ob
 simp only [evs, ↓reduceIte, Nat.reduceEqDiff, Nat.reduceAdd, DF, Nat.reduceSub, l0, l5]
 refine ⟨Fr.trans F_h1 F2 w (by simp) (fun x m => .inl m), c1', c2', ⟨nb, ⟨?_, .inr ⟨rfl, ob2⟩⟩, e2.1, k.lg, e2.2, o1, o2, k.ne, k.nb, k.am, n1⟩, e3⟩
 have := k.lg; have := e2.1; have := e2.2; simp; omega
theorem Sto.relay {n0 : Nat} {h h' : Heap} {b bg B bm S bl c : Nat} {Ks : List Knd} {cap : Int} {X : List Itm} {l l' : List Int} {kn st kn' st' : List Bool} {vK : V} {pm pm' : Option Nat} {mc : KMap} (w : WF h) (s : Sto n0 h b Ks cap X l kn st vK bg B bm S bl pm mc) (f : Fr (b :: bl :: pm.toList) h h')
 (ob : Own h' b [vK, .int .i64 cap, .ptr bg 0, .ptr bm 0, .ptr c 0]) (a : LoP h' c pm' l' kn' st') (hl : l'.length = X.length) (hc : h.next ≤ c) (hp : ∀ q, pm' = some q → h.next ≤ q ∧ q ≠ c) : Sto n0 h' b Ks cap X l' kn' st' vK bg B bm S c pm' mc := by
 have d := s.d
 have fn := f.next
 have n0l := s.n0l
 have nb : ∀ y, b ≠ y → y ≠ bl → (∀ q, pm = some q → q ≠ y) → y ∉ b :: bl :: pm.toList := by
  intro y h0 h1 h2 m
  rcases List.mem_cons.1 m with m | m
  · exact h0 m.symm
  rcases List.mem_cons.1 m with m | m
  · exact h1 m
  · exact h2 y (by simpa using m) rfl
 have lb := s.ob.lt w
 have lg : bg < h.next := s.g.ob.1.lt w
 have lB := s.gB.lt w
 have lm := s.k.lt w
 have lS := s.Sl'
 have ll := s.bl'
 have pl := a.pmlt f.wf
 have dp := d.p
 have xg := nb bg d.b1 d.g3 fun q e => (dp q e).2.1
 have xB := nb B d.b2 d.t3 fun q e => (dp q e).2.2.1
 have xm := nb bm d.b3 d.m1 fun q e => (dp q e).2.2.2.1
 have xS := nb S d.b4 d.m2 fun q e => (dp q e).2.2.2.2.1
 refine ⟨ob, s.g.fr f xg xB, s.gB.fr f xB, s.k.frS f xm xS, s.gS.fr f xS, a, hl, ?_, ?_, by omega, pl.1, pl.2, by omega⟩
 · intro Z h2 hZ f2
   refine s.rd ((b :: bl :: pm.toList) ++ Z) h2 (fun z m => ?_) (Fr.trans f f2 w (fun x m => .inl (List.mem_append.2 (.inl m))) (fun x m => .inl (List.mem_append.2 (.inr m))))
   rcases List.mem_append.1 m with m | m
   · refine .inl ?_
     rcases List.mem_cons.1 m with rfl | m
     · simp [Wr]
     rcases List.mem_cons.1 m with rfl | m
     · simp [Wr]
     · exact List.mem_append.2 (.inr m)
   · rcases hZ z m with q | q | q
     · rcases List.mem_append.1 q with q | q
       · simp only [List.mem_cons, List.not_mem_nil, or_false] at q
         rcases q with q | q | q | q | q | q
         · exact .inl (by simp [Wr, q])
         · exact .inl (by simp [Wr, q])
         · exact .inl (by simp [Wr, q])
         · exact .inl (by simp [Wr, q])
         · exact .inl (by simp [Wr, q])
         · exact .inr (.inl (by omega))
       · exact .inr (.inl (hp z (by simpa using q)).1)
     · exact .inr (.inl (by omega))
     · exact .inr (.inr q)
 · refine ⟨d.b1, d.b2, d.b3, d.b4, by omega, d.g1, d.g2, by omega, d.t1, d.t2, by omega, by omega, by omega, fun q e => ?_⟩
   have := hp q e
   omega
theorem LoP.ne {h : Heap} {b : Nat} {pm : Option Nat} {l : List Int} {ks bs : List Bool} (a : LoP h b pm l ks bs) : ∀ q, pm = some q → q ≠ b := by
 obtain ⟨p, vk, o, v1, ix, mk, e⟩ := a
 rintro q rfl
 obtain ⟨ws, oq, x⟩ := mk
 refine Own.ne oq o fun e => ?_
 unfold flc at e
 cases p <;> simp [pv] at e
theorem LoP.oth {h : Heap} {b : Nat} {pm : Option Nat} {l : List Int} {ks bs : List Bool} (a : LoP h b pm l ks bs) : Oth h (b :: pm.toList) := by
 obtain ⟨p, vk, o, v1, ix, mk, e⟩ := a
 refine Oth.app (A := [b]) (Oth.own o (by simp) (odd_sp (n := 1) rfl)) ?_
 cases pm with
 | none => exact fun x m => by simp at m
 | some q =>
  obtain ⟨ws, oq, x, _⟩ := mk
  have wl := x.len
  refine Oth.own oq (by simp [flc]; omega) ?_
  intro L hL e
  match ws, wl, L with
  | w1 :: w2 :: ws, _, (x1, x2) :: (y1, y2) :: L => simp [flc, sp, uw] at e
  | w1 :: w2 :: ws, _, [(x1, x2)] => simp [flc, sp, uw] at e
def htC (x : Nat × Int) : List V := [.int .u64 (x.1 : Int), .int .i64 x.2]
def meas (m : Nat → Option Nat) : List (Nat × Int) → Nat → List Int → List Bool → Int × Nat × List Int × List Bool
 | [], i, l, kn => (0, i, l, kn)
 | x :: r, i, l, kn => match m x.1 with
  | none => (11, i, l, kn)
  | some j => if xsetE l j x.2 = 0 then meas m r (i + 1) (l.set j x.2) (kn.set j true) else (xsetE l j x.2, i, l, kn)
theorem sMeasure_ok {n0 : Nat} {h : Heap} {b bg B bm S bl : Nat} {Ks : List Knd} {cap : Int} {X : List Itm} {l : List Int} {kn st : List Bool} {vK v : V} {pm : Option Nat} {mc : KMap} {H : List (Nat × Int)} (w : WF h) (s : Sto n0 h b Ks cap X l kn st vK bg B bm S bl pm mc)
 (sv : ∀ (Z : List Nat) (h' : Heap), (∀ z ∈ Z, z ∈ Wr b bg B bm S bl pm ∨ h.next ≤ z) → Fr Z h h' → ARecs htC 2 h' v H) (hH : ∀ x ∈ H, x.1 < 18446744073709551616 ∧ -9223372036854775808 ≤ x.2 ∧ x.2 ≤ 9223372036854775807) (hl : H.length ≤ 4096) (hm : ∀ k j, mc.1 k = some j → j ≤ 4096) :
 Does go 12 [.ptr b 0, v] h fun u h' => u = .tup [.int .i64 ((meas mc.1 H 0 l kn).2.1 : Int), .int .i64 (meas mc.1 H 0 l kn).1] ∧
  ((meas mc.1 H 0 l kn).1 = 0 → Fr (bl :: pm.toList) h h' ∧ Sto n0 h' b Ks cap X (meas mc.1 H 0 l kn).2.2.1 (meas mc.1 H 0 l kn).2.2.2 st vK bg B bm S bl pm mc) ∧
  ((meas mc.1 H 0 l kn).1 ≠ 0 → Fr (b :: bl :: pm.toList) h h' ∧ ∃ c pm', h.next ≤ c ∧ (∀ q, pm' = some q → h.next ≤ q) ∧ Sto n0 h' b Ks cap X l kn st vK bg B bm S c pm' mc) := by
 have l4 : hload1 h b 4 = some (.ptr bl 0) := s.ob.ld1 4
 have sH := sv [] h (by simp) (Fr.refl w)
 refine does_fn g12 rfl ?_
 simp only [fn12, evs, ↓reduceIte, Nat.reduceEqDiff, Nat.reduceAdd]
 refine OQ_does (none_ok s) ?_
 rintro _ _ ⟨rfl, rfl⟩
 simp only [evs, ↓reduceIte, Nat.reduceEqDiff, l4]
 refine OQ_does (LCopyQ_ok w s.lo) ?_
 rintro _ h1 ⟨c, pm1, rfl, hc, hp, a1, F1⟩
 simp only [evs, ↓reduceIte, Nat.reduceEqDiff, (sH.fr F1).len]
 have mk1 := LoP.ne a1
 have n1 := F1.next
 have wm : ∀ z, z ∈ bl :: pm.toList → z ∈ Wr b bg B bm S bl pm := by
  intro z m
  rcases List.mem_cons.1 m with rfl | m
  · simp [Wr]
  · exact List.mem_append.2 (.inr m)
 have wl : ∀ z, z ∈ bl :: pm.toList → z < h.next := by
  intro z m
  rcases List.mem_cons.1 m with rfl | m
  · exact s.bl'
  · exact s.pl z (by simpa using m)
 have bn := s.ob.lt w
 refine W_loop (fun n env hh => Fr (bl :: pm.toList) h1 hh ∧ ∃ (i : Nat) (l2 : List Int) (kn2 : List Bool), LoP hh c pm1 l kn st ∧ Sto n0 hh b Ks cap X l2 kn2 st vK bg B bm S bl pm mc ∧
  env.get 21 = some (.int .i64 i) ∧ env.get 20 = some (.int .i64 H.length) ∧ env.get 19 = some v ∧ env.get 0 = some (.ptr b 0) ∧ env.get 1 = some v ∧ env.get 6 = some (.ptr c 0) ∧ i ≤ H.length ∧ meas mc.1 (H.drop i) i l2 kn2 = meas mc.1 H 0 l kn ∧ n = H.length - i) H.length (by omega) ?_ ?_
 · exact ⟨frQ (Fr.refl F1.wf), 0, l, kn, a1, s.fr w F1, (by simp [T.gs]), (by simp [T.gs]), (by simp [T.gs]), (by simp [T.gs]), (by simp [T.gs]), (by simp [T.gs]), by omega, rfl, rfl⟩
 · rintro n env hh ⟨F, i, l2, kn2, ac, ss, g21, g20, g19, g0, g1, g6, hi, em, rfl⟩
   have Fh : Fr (bl :: pm.toList) h hh := Fr.trans F1 F w (by simp) (fun x m => .inl m)
   have sHh := sv (bl :: pm.toList) hh (fun z m => .inl (wm z m)) Fh
   by_cases hlt : i < H.length
   · have hlt' : (i : Int) < H.length := by omega
     obtain ⟨bi, oi, x, p1, _, p3, p4⟩ := sHh.ix (f := htC) (k := 2) (fun _ => rfl) .i64 (i : Int) (by omega) hlt'
     rw [Int.toNat_natCast] at p4
     obtain ⟨k0, z0, z1⟩ := hH x (List.mem_of_getElem? p4)
     have hd : H.drop i = x :: H.drop (i + 1) := drop_cons p4
     obtain ⟨h3, e_h3⟩ : ∃ h3, h3 = halloc hh [.int .u64 0, .int .i64 0] := ⟨_, rfl⟩
     have F_h3 : Fr [] hh h3 := e_h3 ▸ Fr.halloc F.wf _
     have o_h3 : Own h3 hh.next [.int .u64 0, .int .i64 0] := e_h3 ▸ Own.new F.wf _
     simp only [evs, ↓reduceIte, Nat.reduceEqDiff, g21, g20, g19, hlt', p1, p3, ← e_h3]
     refine store_step (c' := htC x) F_h3.wf o_h3 rfl rfl rfl ?_
     rintro h4 o4 F4 n4
     have F04 : Fr [] hh h4 := F_h3.fresh F4 F.wf (Nat.le_refl _)
     have s4 := ss.fr F.wf F04
     have x0 : hload1 h4 hh.next 0 = some (.int .u64 (x.1 : Int)) := o4.ld1 0
     have x1 : hload1 h4 hh.next 1 = some (.int .i64 x.2) := o4.ld1 1
     have b3 : hload1 h4 b 3 = some (.ptr bm 0) := s4.ob.ld1 3
     simp only [evs, ↓reduceIte, Nat.reduceEqDiff, eff, g0, x0, b3]
     refine OQ_does (kGet_ok F04.wf s4.k k0) ?_
     rintro _ h5 ⟨rfl, F5⟩
     have F05 := F04.then F5
     have s5 := ss.fr F.wf F05
     have x1 : hload1 h5 hh.next 1 = some (.int .i64 x.2) := (F5.get o4).ld1 1
     have b4 : hload1 h5 b 4 = some (.ptr bl 0) := s5.ob.ld1 4
     cases ek : mc.1 x.1 with
     | none =>
      have e : meas mc.1 H 0 l kn = (11, i, l2, kn2) := by rw [← em, hd]; simp [meas, ek]
      rw [e]
      simp only [evs, ↓reduceIte, Nat.reduceEqDiff, Nat.reduceAdd, DF, eff, Nat.reduceSub, getV', x0, b3, g0, g6, show ¬ (11 : Int) = 0 by decide]
      refine store_step (c' := [vK, .int .i64 cap, .ptr bg 0, .ptr bm 0, .ptr c 0]) F05.wf s5.ob rfl rfl rfl ?_
      rintro h6 o6 F6 n6
      have ac6 : LoP h6 c pm1 l kn st := (ac.fr F05).frS F6 (Oth.own s5.ob (by simp) (odd_sp (n := 2) rfl)) (by simp; omega) (fun q e => by have := hp q e; simp; omega)
      have f6 : Fr (b :: bl :: pm.toList) h h6 := Fr.trans (Fr.trans Fh F05 w (fun x m => .inl m) (fun x m => by simp at m)) F6 w (fun x m => .inl (List.mem_cons_of_mem _ m)) (fun x m => .inl (by simp at m; simp [m]))
      have s6 := s.relay w f6 o6 ac6 s.len hc (fun q e => ⟨hp q e, mk1 q e⟩)
      simp only [evs, ↓reduceIte, Nat.reduceEqDiff]
      exact ⟨fun e => e.elim, fun _ => ⟨f6, c, pm1, hc, hp, s6⟩⟩
     | some j =>
      have jl := hm _ _ ek
      simp only [evs, ↓reduceIte, Nat.reduceEqDiff, Nat.reduceAdd, DF, eff, Nat.reduceSub, getV', x0, b3, x1, b4, g0]
      refine OQ_does (LSetQ_ok F05.wf s5.lo z0 z1 (by omega) (by omega)) ?_
      rintro _ h6 ⟨rfl, a6, F6⟩
      have b46 : hload1 h6 b 4 = some (.ptr bl 0) := (F6.own b _ (fun m => by have := s.d; rcases List.mem_cons.1 m with m | m; exact this.b5 m; exact (this.p b (by simpa using m)).1 rfl) s5.ob).ld1 4
      have x16 : hload1 h6 hh.next 1 = some (.int .i64 x.2) := (F6.own _ _ (fun m => by have := F.next; have := wl _ m; omega) (F5.get o4)).ld1 1
      have ac6 : LoP h6 c pm1 l kn st := (ac.fr F05).frS F6 s5.lo.oth (fun m => by have := wl _ m; omega) (fun q e m => by have := hp q e; have := wl _ m; omega)
      by_cases c5 : xsetE l2 j x.2 = 0
      · rw [if_pos c5] at a6
        have s6 := s5.lay F05.wf F6 a6 (by simp [ss.len]) (.inl rfl)
        have F16 : Fr (bl :: pm.toList) h1 h6 := Fr.trans (Fr.trans F F05 F1.wf (fun x m => .inl m) (fun x m => by simp at m)) F6 F1.wf (fun x m => .inl m) (fun x m => .inl m)
        have e : meas mc.1 (H.drop (i + 1)) (i + 1) (l2.set j x.2) (kn2.set j true) = meas mc.1 H 0 l kn := by
         rw [← em, hd]; simp [meas, ek, c5]
        simp (disch := omega) only [evs, ↓reduceIte, Nat.reduceEqDiff, Nat.reduceAdd, DF, eff, Nat.reduceSub, fwrap_i64, x1, b4, g21, eq_true c5]
        refine (roundQ_norm _ _ _).2 ⟨H.length - (i + 1), by omega, F16, i + 1, _, _, ac6, s6, (by simp [T.gs]), (by simp [T.gs, g20]), (by simp [T.gs, g19]), (by simp [T.gs, g0]), (by simp [T.gs, g1]), (by simp [T.gs, g6]), by omega, e, rfl⟩
      · rw [if_neg c5] at a6
        have s6 := s5.lay F05.wf F6 a6 ss.len (.inl rfl)
        have e : meas mc.1 H 0 l kn = (xsetE l2 j x.2, i, l2, kn2) := by rw [← em, hd]; simp [meas, ek, c5]
        rw [e]
        simp only [evs, ↓reduceIte, Nat.reduceEqDiff, Nat.reduceAdd, DF, eff, Nat.reduceSub, x1, b4, g0, g6, eq_false c5]
        refine store_step (c' := [vK, .int .i64 cap, .ptr bg 0, .ptr bm 0, .ptr c 0]) F6.wf s6.ob rfl rfl rfl ?_
        rintro h7 o7 F7 n7
        have ac7 : LoP h7 c pm1 l kn st := ac6.frS F7 (Oth.own s6.ob (by simp) (odd_sp (n := 2) rfl)) (by simp; omega) (fun q e => by have := hp q e; simp; omega)
        have f7 : Fr (b :: bl :: pm.toList) h h7 := Fr.trans (Fr.trans (Fr.trans Fh F05 w (fun x m => .inl m) (fun x m => by simp at m)) F6 w (fun x m => .inl m) (fun x m => .inl m)) F7 w (fun x m => .inl (List.mem_cons_of_mem _ m)) (fun x m => .inl (by simp at m; simp [m]))
        have s7 := s.relay w f7 o7 ac7 s.len hc (fun q e => ⟨hp q e, mk1 q e⟩)
        simp only [evs, ↓reduceIte, Nat.reduceEqDiff]
        exact ⟨fun e => e.elim, fun _ => ⟨f7, c, pm1, hc, hp, s7⟩⟩
   · have : i = H.length := by omega
     subst this
     rw [List.drop_length] at em
     rw [← em]
     have hlt' : ¬ (H.length : Int) < H.length := by omega
     simp only [evs, ↓reduceIte, Nat.reduceEqDiff, g21, g20, g1, eq_false hlt', sHh.len]
     exact ⟨rfl, fun _ => ⟨Fh, ss⟩, fun e => absurd rfl e⟩
def kindsL : List V := [.str [], .bool false, .bool false, .bool false, .bool false, .nilf, .str [105, 110, 115, 101, 114, 116], .bool true, .bool false, .bool false, .bool true, .func (.func 128) [] [], .str [114, 101, 109, 111, 118, 101], .bool true, .bool true, .bool false, .bool false, .func (.func 130) [] [],
 .str [109, 111, 118, 101], .bool true, .bool true, .bool true, .bool false, .func (.func 131) [] [], .str [99, 104, 97, 110, 103, 101], .bool true, .bool false, .bool false, .bool true, .func (.func 133) [] [], .str [114, 101, 115, 101, 116], .bool false, .bool false, .bool false, .bool true, .func (.func 135) [] []]
theorem kinds_ok {h : Heap} (w : WF h) : Does go 67 [] h fun u h' => u = .agg kindsL ∧ Fr [] h h' := by
 obtain ⟨h1, e_h1⟩ : ∃ h1, h1 = halloc h [.str [], .bool false, .bool false, .bool false, .bool false, .nilf, .str [], .bool false, .bool false, .bool false, .bool false, .nilf, .str [], .bool false, .bool false, .bool false, .bool false, .nilf, .str [], .bool false, .bool false, .bool false, .bool false, .nilf, .str [], .bool false, .bool false, .bool false, .bool false, .nilf, .str [], .bool false, .bool false, .bool false, .bool false, .nilf] := ⟨_, rfl⟩
 have F_h1 : Fr [] h h1 := e_h1 ▸ Fr.halloc w _
 have o_h1 : Own h1 h.next [.str [], .bool false, .bool false, .bool false, .bool false, .nilf, .str [], .bool false, .bool false, .bool false, .bool false, .nilf, .str [], .bool false, .bool false, .bool false, .bool false, .nilf, .str [], .bool false, .bool false, .bool false, .bool false, .nilf, .str [], .bool false, .bool false, .bool false, .bool false, .nilf, .str [], .bool false, .bool false, .bool false, .bool false, .nilf] := e_h1 ▸ Own.new w _
 refine does_fn g67 rfl ?_
 simp only [fn67, evs, ↓reduceIte, Nat.reduceAdd, Nat.reduceLT, ← e_h1]
 refine store_step (c' := kindsL) F_h1.wf o_h1 rfl rfl rfl ?_
 rintro h2 o2 F2 n2
 have l2 : hload h2 h.next 0 36 = some kindsL := by rw [o2.ld]; rfl
 have F02 : Fr [] h h2 := F_h1.fresh F2 w (Nat.le_refl _)
 simp only [evs, ↓reduceIte, l2]
 exact F02
def chkE (k : Nat) (a c t : Int) (n : Nat) : Int :=
 if k < 1 ∨ 5 < k then 1 else if (k = 5 ∧ a ≠ 0) ∨ (¬(k = 2 ∨ k = 3) ∧ c ≠ 0) ∨ (k ≠ 3 ∧ t ≠ 0) ∨ ((k = 2 ∨ k = 3) ∧ 0 < n) then 5 else 0
theorem lay_n {call : CallF} {env : T V} {late : List Nat} {s : IStep} {l : List IStep} {i : Nat} {loc : List V} {h : Heap} (hi : late.contains i = false) (he : eff s.op = false) (e : evOp call loc env h s.op = none) :
 lay call env late (s :: l) i loc h = (lay call env late l (i + 1) (.tup [] :: loc) h).map fun r => ((s, none) :: r.1, r.2) := by
 simp only [lay, hi, cond_false, guess, he, e]
 cases lay call env late l (i + 1) (V.tup [] :: loc) h <;> rfl
abbrev row6 : List V := [.str [], .bool false, .bool false, .bool false, .bool false, .nilf]
theorem rowL {env : T V} {h : Heap} {b1 : Nat} {k : Nat} (g1 : env.get 1 = some (.ptr b1 0)) (l0 : hload1 h b1 0 = some (.int .u8 (k : Int))) :
 lay go env [4] [⟨none, .cf 67 [], none⟩, ⟨none, .p (.faddr 0) [.v 1], none⟩, ⟨none, .ld 1 false (.l 0), none⟩, ⟨none, .p (.ixarr 6 6 true) [.l 2, .l 0], none⟩, ⟨none, .al row6, none⟩, ⟨none, .st 6 (.l 0) (.l 1), none⟩] 0 [] h =
  some ([(⟨none, .cf 67 [], none⟩, none), (⟨none, .p (.faddr 0) [.v 1], none⟩, none), (⟨none, .ld 1 false (.l 0), none⟩, none), (⟨none, .p (.ixarr 6 6 true) [.l 2, .l 0], none⟩, none), (⟨none, .al row6, none⟩, some (.ptr h.next 0, row6)), (⟨none, .st 6 (.l 0) (.l 1), none⟩, none)], halloc h row6) := by
 have ev_fa : ∀ (loc : List V) (h : Heap) (k : Nat), evOp go loc env h (.p (.faddr k) [.v 1]) = some (.ptr b1 k, h) := fun loc h k => by
  simp only [evOp, evOs_c, evOs_nil, evO_v, g1, consO_some, aP_faddr, Nat.zero_add]
 have ev_ld : ∀ (loc : List V) (h : Heap) (k : Nat) (v : V), hload1 h b1 k = some v → evOp go (.ptr b1 k :: loc) env h (.ld 1 false (.l 0)) = some (v, h) := fun loc h k v e => by
  simp only [evOp, evO_l, nth_zero, aload_ptr1, e]
 rw [lay_e rfl rfl, lay_g rfl rfl (ev_fa _ _ _), lay_g rfl rfl (ev_ld _ _ _ _ l0), lay_n rfl rfl rfl, lay_l (c := row6) (k := none) rfl rfl, lay_e rfl rfl]
 rfl
theorem lateR (loc : List V) (env : T V) (n : Nat) : lateOK loc env (.al row6) (.ptr n 0) row6 = true := by
 simp [lateOK, lateC, vsEq, vEq, lateV, lid]
theorem nCheck_ok {h : Heap} {k n : Nat} {a c t : Int} {v : V} {cs : List V} (w : WF h) (hk : k < 256) (sl : Sl h 4 v n cs) :
 Does go 45 [.agg [.int .u8 (k : Int), .int .i64 a, .int .i64 c, .int .i64 t, v]] h fun u h' => u = .int .i64 (chkE k a c t n) ∧ Fr [] h h' := by
 have v1 : v.one = true := Sl.one sl
 obtain ⟨h1, e_h1⟩ : ∃ h1, h1 = halloc h [.int .u8 (k : Int), .int .i64 a, .int .i64 c, .int .i64 t, v] := ⟨_, rfl⟩
 have F_h1 : Fr [] h h1 := e_h1 ▸ Fr.halloc w _
 have o_h1 : Own h1 h.next [.int .u8 (k : Int), .int .i64 a, .int .i64 c, .int .i64 t, v] := e_h1 ▸ Own.new w _
 have l0 : hload1 h1 h.next 0 = some (.int .u8 (k : Int)) := o_h1.ld1 0
 by_cases c1 : k < 1
 · have c1' : (k : Int) < 1 := by omega
   refine does_fn g45 rfl ?_
   simp only [fn45, evs, ↓reduceIte, Nat.reduceEqDiff, ← e_h1, l0, eq_true c1']
   rw [chkE, if_pos (.inl c1)]
   exact ⟨rfl, F_h1⟩
 have c1' : ¬ (k : Int) < 1 := by omega
 by_cases c2 : 5 < k
 · have c2' : (5 : Int) < k := by omega
   refine does_fn g45 rfl ?_
   simp only [fn45, evs, ↓reduceIte, Nat.reduceEqDiff, ← e_h1, l0, eq_false c1', eq_true c2']
   rw [chkE, if_pos (.inr c2)]
   exact ⟨rfl, F_h1⟩
 have c2' : ¬ (5 : Int) < k := by omega
 refine does_fn g45 rfl ?_
 simp only [fn45, evs, ↓reduceIte, Nat.reduceEqDiff, ← e_h1, l0, eq_false c1', eq_false c2']
 refine (W_dl _ _ _ _ _ _ _).2 ?_
 rw [rowL (b1 := h.next) (by simp [T.gs]) l0, LayQ_some]
 obtain ⟨h3, e_h3⟩ : ∃ h3, h3 = halloc h1 row6 := ⟨_, rfl⟩
 have F_h3 : Fr [] h1 h3 := e_h3 ▸ Fr.halloc F_h1.wf _
 have o_h3 : Own h3 h1.next row6 := e_h3 ▸ Own.new F_h1.wf _
 simp only [evs, eff, ← e_h3]
 refine OQ_does (kinds_ok F_h3.wf) ?_
 rintro _ h4 ⟨rfl, F4⟩
 have l0 : hload1 h4 h.next 0 = some (.int .u8 (k : Int)) := ((F_h3.then F4).get o_h1).ld1 0
 have ob := F4.get o_h3
 have l03 : hload1 h3 h.next 0 = some (.int .u8 (k : Int)) := (F_h3.get o_h1).ld1 0
 have nq : h1.next ≠ h.next := by rw [e_h1]; simp [halloc]
 obtain rfl | rfl | rfl | rfl | rfl : k = 1 ∨ k = 2 ∨ k = 3 ∨ k = 4 ∨ k = 5 := by omega
 · have ax : aP (PK.ixarr 6 6 true) [.agg kindsL, .int .u8 ((1 : Nat) : Int)] = some (.agg [.str [105, 110, 115, 101, 114, 116], .bool true, .bool false, .bool false, .bool true, .func (.func 128) [] []]) := rfl
   simp only [evs, ↓reduceIte, Nat.reduceEqDiff, eff, l0, WD_late, lateR, ax]
   refine store_step (c' := [.str [105, 110, 115, 101, 114, 116], .bool true, .bool false, .bool false, .bool true, .func (.func 128) [] []]) F4.wf ob rfl rfl rfl ?_
   rintro h5 o5 F5 n5
   have F35 : Fr [] h1 h5 := (F_h3.then F4).fresh F5 F_h1.wf (Nat.le_refl _)
   have F15 := F_h1.then F35
   have om := F35.get o_h1
   have m0 := om.ld1 0
   have m1 := om.ld1 1
   have m2 := om.ld1 2
   have m3 := om.ld1 3
   have m4 := om.ld1 4
   have r1 := o5.ld1 1
   have r2 := o5.ld1 2
   have r3 := o5.ld1 3
   have r4 := o5.ld1 4
   simp only [nth_zero, nth_succ] at m0 m1 m2 m3 m4 r1 r2 r3 r4
   by_cases hc : c = 0
   · by_cases ht : t = 0
     · simp only [evs, ↓reduceIte, Nat.reduceEqDiff, Nat.reduceAdd, DF, Nat.reduceSub, l0, l03, m2, m3, r1, r2, r3, r4, eq_true hc, eq_true ht]
       exact ⟨by rw [chkE, if_neg (by omega)]; split <;> first | rfl | omega, F15⟩
     · simp only [evs, ↓reduceIte, Nat.reduceEqDiff, Nat.reduceAdd, DF, Nat.reduceSub, l0, l03, m2, m3, r1, r2, r3, eq_true hc, eq_false ht]
       exact ⟨by rw [chkE, if_neg (by omega)]; split <;> first | rfl | omega, F15⟩
   · by_cases ht : t = 0
     · simp only [evs, ↓reduceIte, Nat.reduceEqDiff, Nat.reduceAdd, DF, Nat.reduceSub, l0, l03, m2, r1, r2, eq_false hc]
       exact ⟨by rw [chkE, if_neg (by omega)]; split <;> first | rfl | omega, F15⟩
     · simp only [evs, ↓reduceIte, Nat.reduceEqDiff, Nat.reduceAdd, DF, Nat.reduceSub, l0, l03, m2, r1, r2, eq_false hc]
       exact ⟨by rw [chkE, if_neg (by omega)]; split <;> first | rfl | omega, F15⟩
 · have ax : aP (PK.ixarr 6 6 true) [.agg kindsL, .int .u8 ((2 : Nat) : Int)] = some (.agg [.str [114, 101, 109, 111, 118, 101], .bool true, .bool true, .bool false, .bool false, .func (.func 130) [] []]) := rfl
   simp only [evs, ↓reduceIte, Nat.reduceEqDiff, eff, l0, WD_late, lateR, ax]
   refine store_step (c' := [.str [114, 101, 109, 111, 118, 101], .bool true, .bool true, .bool false, .bool false, .func (.func 130) [] []]) F4.wf ob rfl rfl rfl ?_
   rintro h5 o5 F5 n5
   have F35 : Fr [] h1 h5 := (F_h3.then F4).fresh F5 F_h1.wf (Nat.le_refl _)
   have F15 := F_h1.then F35
   have om := F35.get o_h1
   have m0 := om.ld1 0
   have m1 := om.ld1 1
   have m2 := om.ld1 2
   have m3 := om.ld1 3
   have m4 := om.ld1 4
   have r1 := o5.ld1 1
   have r2 := o5.ld1 2
   have r3 := o5.ld1 3
   have r4 := o5.ld1 4
   simp only [nth_zero, nth_succ] at m0 m1 m2 m3 m4 r1 r2 r3 r4
   by_cases ht : t = 0
   · by_cases hn : (0 : Int) < (n : Int)
     · simp only [evs, ↓reduceIte, Nat.reduceEqDiff, Nat.reduceAdd, DF, Nat.reduceSub, l0, l03, m3, m4, r1, r2, r3, r4, (sl.fr F15).len, eq_true ht, eq_true hn]
       exact ⟨by rw [chkE, if_neg (by omega)]; split <;> first | rfl | omega, F15⟩
     · simp only [evs, ↓reduceIte, Nat.reduceEqDiff, Nat.reduceAdd, DF, Nat.reduceSub, l0, l03, m3, m4, r1, r2, r3, r4, (sl.fr F15).len, eq_true ht, eq_false hn]
       exact ⟨by rw [chkE, if_neg (by omega)]; split <;> first | rfl | omega, F15⟩
   · by_cases hn : (0 : Int) < (n : Int)
     · simp only [evs, ↓reduceIte, Nat.reduceEqDiff, Nat.reduceAdd, DF, Nat.reduceSub, l0, l03, m3, r1, r2, r3, eq_false ht]
       exact ⟨by rw [chkE, if_neg (by omega)]; split <;> first | rfl | omega, F15⟩
     · simp only [evs, ↓reduceIte, Nat.reduceEqDiff, Nat.reduceAdd, DF, Nat.reduceSub, l0, l03, m3, r1, r2, r3, eq_false ht]
       exact ⟨by rw [chkE, if_neg (by omega)]; split <;> first | rfl | omega, F15⟩
 · have ax : aP (PK.ixarr 6 6 true) [.agg kindsL, .int .u8 ((3 : Nat) : Int)] = some (.agg [.str [109, 111, 118, 101], .bool true, .bool true, .bool true, .bool false, .func (.func 131) [] []]) := rfl
   simp only [evs, ↓reduceIte, Nat.reduceEqDiff, eff, l0, WD_late, lateR, ax]
   refine store_step (c' := [.str [109, 111, 118, 101], .bool true, .bool true, .bool true, .bool false, .func (.func 131) [] []]) F4.wf ob rfl rfl rfl ?_
   rintro h5 o5 F5 n5
   have F35 : Fr [] h1 h5 := (F_h3.then F4).fresh F5 F_h1.wf (Nat.le_refl _)
   have F15 := F_h1.then F35
   have om := F35.get o_h1
   have m0 := om.ld1 0
   have m1 := om.ld1 1
   have m2 := om.ld1 2
   have m3 := om.ld1 3
   have m4 := om.ld1 4
   have r1 := o5.ld1 1
   have r2 := o5.ld1 2
   have r3 := o5.ld1 3
   have r4 := o5.ld1 4
   simp only [nth_zero, nth_succ] at m0 m1 m2 m3 m4 r1 r2 r3 r4
   by_cases hn : (0 : Int) < (n : Int)
   · simp only [evs, ↓reduceIte, Nat.reduceEqDiff, Nat.reduceAdd, DF, Nat.reduceSub, l0, l03, m4, r1, r2, r3, r4, (sl.fr F15).len, eq_true hn]
     exact ⟨by rw [chkE, if_neg (by omega)]; split <;> first | rfl | omega, F15⟩
   · simp only [evs, ↓reduceIte, Nat.reduceEqDiff, Nat.reduceAdd, DF, Nat.reduceSub, l0, l03, m4, r1, r2, r3, r4, (sl.fr F15).len, eq_false hn]
     exact ⟨by rw [chkE, if_neg (by omega)]; split <;> first | rfl | omega, F15⟩
 · have ax : aP (PK.ixarr 6 6 true) [.agg kindsL, .int .u8 ((4 : Nat) : Int)] = some (.agg [.str [99, 104, 97, 110, 103, 101], .bool true, .bool false, .bool false, .bool true, .func (.func 133) [] []]) := rfl
   simp only [evs, ↓reduceIte, Nat.reduceEqDiff, eff, l0, WD_late, lateR, ax]
   refine store_step (c' := [.str [99, 104, 97, 110, 103, 101], .bool true, .bool false, .bool false, .bool true, .func (.func 133) [] []]) F4.wf ob rfl rfl rfl ?_
   rintro h5 o5 F5 n5
   have F35 : Fr [] h1 h5 := (F_h3.then F4).fresh F5 F_h1.wf (Nat.le_refl _)
   have F15 := F_h1.then F35
   have om := F35.get o_h1
   have m0 := om.ld1 0
   have m1 := om.ld1 1
   have m2 := om.ld1 2
   have m3 := om.ld1 3
   have m4 := om.ld1 4
   have r1 := o5.ld1 1
   have r2 := o5.ld1 2
   have r3 := o5.ld1 3
   have r4 := o5.ld1 4
   simp only [nth_zero, nth_succ] at m0 m1 m2 m3 m4 r1 r2 r3 r4
   by_cases hc : c = 0
   · by_cases ht : t = 0
     · simp only [evs, ↓reduceIte, Nat.reduceEqDiff, Nat.reduceAdd, DF, Nat.reduceSub, l0, l03, m2, m3, r1, r2, r3, r4, eq_true hc, eq_true ht]
       exact ⟨by rw [chkE, if_neg (by omega)]; split <;> first | rfl | omega, F15⟩
     · simp only [evs, ↓reduceIte, Nat.reduceEqDiff, Nat.reduceAdd, DF, Nat.reduceSub, l0, l03, m2, m3, r1, r2, r3, eq_true hc, eq_false ht]
       exact ⟨by rw [chkE, if_neg (by omega)]; split <;> first | rfl | omega, F15⟩
   · by_cases ht : t = 0
     · simp only [evs, ↓reduceIte, Nat.reduceEqDiff, Nat.reduceAdd, DF, Nat.reduceSub, l0, l03, m2, r1, r2, eq_false hc]
       exact ⟨by rw [chkE, if_neg (by omega)]; split <;> first | rfl | omega, F15⟩
     · simp only [evs, ↓reduceIte, Nat.reduceEqDiff, Nat.reduceAdd, DF, Nat.reduceSub, l0, l03, m2, r1, r2, eq_false hc]
       exact ⟨by rw [chkE, if_neg (by omega)]; split <;> first | rfl | omega, F15⟩
 · have ax : aP (PK.ixarr 6 6 true) [.agg kindsL, .int .u8 ((5 : Nat) : Int)] = some (.agg [.str [114, 101, 115, 101, 116], .bool false, .bool false, .bool false, .bool true, .func (.func 135) [] []]) := rfl
   simp only [evs, ↓reduceIte, Nat.reduceEqDiff, eff, l0, WD_late, lateR, ax]
   refine store_step (c' := [.str [114, 101, 115, 101, 116], .bool false, .bool false, .bool false, .bool true, .func (.func 135) [] []]) F4.wf ob rfl rfl rfl ?_
   rintro h5 o5 F5 n5
   have F35 : Fr [] h1 h5 := (F_h3.then F4).fresh F5 F_h1.wf (Nat.le_refl _)
   have F15 := F_h1.then F35
   have om := F35.get o_h1
   have m0 := om.ld1 0
   have m1 := om.ld1 1
   have m2 := om.ld1 2
   have m3 := om.ld1 3
   have m4 := om.ld1 4
   have r1 := o5.ld1 1
   have r2 := o5.ld1 2
   have r3 := o5.ld1 3
   have r4 := o5.ld1 4
   simp only [nth_zero, nth_succ] at m0 m1 m2 m3 m4 r1 r2 r3 r4
   by_cases ha : a = 0
   · by_cases hc : c = 0
     · by_cases ht : t = 0
       · simp only [evs, ↓reduceIte, Nat.reduceEqDiff, Nat.reduceAdd, DF, Nat.reduceSub, l0, l03, m1, m2, m3, r1, r2, r3, r4, eq_true ha, eq_true hc, eq_true ht]
         exact ⟨by rw [chkE, if_neg (by omega)]; split <;> first | rfl | omega, F15⟩
       · simp only [evs, ↓reduceIte, Nat.reduceEqDiff, Nat.reduceAdd, DF, Nat.reduceSub, l0, l03, m1, m2, m3, r1, r2, r3, eq_true ha, eq_true hc, eq_false ht]
         exact ⟨by rw [chkE, if_neg (by omega)]; split <;> first | rfl | omega, F15⟩
     · by_cases ht : t = 0
       · simp only [evs, ↓reduceIte, Nat.reduceEqDiff, Nat.reduceAdd, DF, Nat.reduceSub, l0, l03, m1, m2, r1, r2, eq_true ha, eq_false hc]
         exact ⟨by rw [chkE, if_neg (by omega)]; split <;> first | rfl | omega, F15⟩
       · simp only [evs, ↓reduceIte, Nat.reduceEqDiff, Nat.reduceAdd, DF, Nat.reduceSub, l0, l03, m1, m2, r1, r2, eq_true ha, eq_false hc]
         exact ⟨by rw [chkE, if_neg (by omega)]; split <;> first | rfl | omega, F15⟩
   · by_cases hc : c = 0
     · by_cases ht : t = 0
       · simp only [evs, ↓reduceIte, Nat.reduceEqDiff, Nat.reduceAdd, DF, Nat.reduceSub, l0, l03, m1, r1, eq_false ha]
         exact ⟨by rw [chkE, if_neg (by omega)]; split <;> first | rfl | omega, F15⟩
       · simp only [evs, ↓reduceIte, Nat.reduceEqDiff, Nat.reduceAdd, DF, Nat.reduceSub, l0, l03, m1, r1, eq_false ha]
         exact ⟨by rw [chkE, if_neg (by omega)]; split <;> first | rfl | omega, F15⟩
     · by_cases ht : t = 0
       · simp only [evs, ↓reduceIte, Nat.reduceEqDiff, Nat.reduceAdd, DF, Nat.reduceSub, l0, l03, m1, r1, eq_false ha]
         exact ⟨by rw [chkE, if_neg (by omega)]; split <;> first | rfl | omega, F15⟩
       · simp only [evs, ↓reduceIte, Nat.reduceEqDiff, Nat.reduceAdd, DF, Nat.reduceSub, l0, l03, m1, r1, eq_false ha]
         exact ⟨by rw [chkE, if_neg (by omega)]; split <;> first | rfl | omega, F15⟩
def chP (old : List Int) (r : Bool) : Nat → List Int → List Int → List Bool → Int × List Int × List Bool
 | _, [], l, kn => (0, l, kn)
 | i, s :: m, l, kn => if decide (old.getD i 0 < s) = r then (if xsetE l i s = 0 then chP old r (i + 1) m (l.set i s) (kn.set i false) else (xsetE l i s, l, kn)) else chP old r (i + 1) m l kn
theorem Gs.ints {h : Heap} {B : Nat} {v : V} {M : List Int} (g : Gs h B 1 v (M.map fun x => .int .i64 x)) (hn : M.length ≤ 4096) : Ints h v M := by
 have := g.sl (n := M.length) (by simp) (by omega)
 exact this
theorem chI_ok {n0 : Nat} {h : Heap} {b bg B bm S bl nb c a B0 : Nat} {Ks : List Knd} {cap : Int} {X : List Itm} {l old M : List Int} {kn st ko so : List Bool} {vK v4 v5 v k0 c0 t0 : V} {pm pmc : Option Nat} {mc : KMap} {r : Bool} {env : T V} {Q : Ex → T V → Heap → Prop} {j : Int} {v103 v104 : V}
 (w : WF h) (s : Sto n0 h b Ks cap X l kn st vK bg B bm S bl pm mc) (ac : LoP h c pmc old ko so) (on : Own h nb [k0, .int .i64 (a : Int), c0, t0, v]) (iv : Gs h B0 1 v4 (M.map fun x => .int .i64 x))
 (lb : b < B0) (lbl : bl < B0) (lpm : ∀ q, pm = some q → q < B0) (gc : B0 ≤ c) (gpc : ∀ q, pmc = some q → B0 ≤ q) (gn : B0 ≤ nb)
 (e0 : env.get 0 = some (.ptr b 0)) (e3 : env.get 3 = some (.ptr nb 0)) (e12 : env.get 12 = some v4) (e13 : env.get 13 = some v5) (e14 : env.get 14 = some (.ptr c 0)) (e16 : env.get 16 = some (.bool r)) (e105 : env.get 105 = some (.int .i64 j)) (e103 : env.get 103 = some v103) (e104 : env.get 104 = some v104)
 (ha : a + M.length ≤ X.length) (lo : old.length = X.length) (hx : X.length ≤ 1024) (hM : ∀ m ∈ M, -9223372036854775808 ≤ m ∧ m ≤ 9223372036854775807)
 (k1 : (chP old r a M l kn).1 = 0 → ∀ env' h', env'.get 0 = some (.ptr b 0) ∧ env'.get 3 = some (.ptr nb 0) ∧ env'.get 12 = some v4 ∧ env'.get 13 = some v5 ∧ env'.get 14 = some (.ptr c 0) ∧ env'.get 105 = some (.int .i64 j) ∧ env'.get 103 = some v103 ∧ env'.get 104 = some v104 →
  Fr (bl :: pm.toList) h h' → Sto n0 h' b Ks cap X (chP old r a M l kn).2.1 (chP old r a M l kn).2.2 st vK bg B bm S bl pm mc → LoP h' c pmc old ko so → Q .norm env' h')
 (k2 : (chP old r a M l kn).1 ≠ 0 → ∀ env' h', env'.get 4 = some (.int .i64 (chP old r a M l kn).1) → Fr (b :: bl :: pm.toList) h h' → Own h' b [vK, .int .i64 cap, .ptr bg 0, .ptr bm 0, .ptr c 0] → LoP h' c pmc old ko so → Q .ret env' h') :
 W go chI env h Q := by
 have iM := Gs.ints iv (by omega)
 simp only [evs, ↓reduceIte, chI, e12, iM.len]
 refine W_loop (fun n env hh => Fr (bl :: pm.toList) h hh ∧ ∃ (i : Nat) (l2 : List Int) (kn2 : List Bool), LoP hh c pmc old ko so ∧ Sto n0 hh b Ks cap X l2 kn2 st vK bg B bm S bl pm mc ∧
  env.get 111 = some (.int .i64 i) ∧ env.get 110 = some (.int .i64 M.length) ∧ env.get 109 = some v4 ∧ env.get 0 = some (.ptr b 0) ∧ env.get 3 = some (.ptr nb 0) ∧ env.get 12 = some v4 ∧ env.get 13 = some v5 ∧ env.get 14 = some (.ptr c 0) ∧ env.get 16 = some (.bool r) ∧ env.get 105 = some (.int .i64 j) ∧ env.get 103 = some v103 ∧ env.get 104 = some v104 ∧
  i ≤ M.length ∧ chP old r (a + i) (M.drop i) l2 kn2 = chP old r a M l kn ∧ n = M.length - i) M.length (by omega) ?_ ?_
 · exact ⟨Fr.refl w, 0, l, kn, ac, s, (by simp [T.gs]), (by simp [T.gs]), (by simp [T.gs]), (by simp [T.gs, e0]), (by simp [T.gs, e3]), (by simp [T.gs, e12]), (by simp [T.gs, e13]), (by simp [T.gs, e14]), (by simp [T.gs, e16]), (by simp [T.gs, e105]), (by simp [T.gs, e103]), (by simp [T.gs, e104]), by omega, rfl, rfl⟩
 · rintro n env hh ⟨F, i, l2, kn2, ac2, ss, g111, g110, g109, g0, g3, g12, g13, g14, g16, g105, g103, g104, hi, em, rfl⟩
   have nn : ∀ y, B0 ≤ y → y ∉ bl :: pm.toList := by
    intro y hy m
    rcases List.mem_cons.1 m with m | m
    · omega
    · have := lpm y (by simpa using m); omega
   have on2 := F.own _ _ (nn _ gn) on
   have n1 : hload1 hh nb 1 = some (.int .i64 (a : Int)) := on2.ld1 1
   have iM2 := Gs.ints (M := M) (Gs.frX iv F (fun y m => by
    rcases List.mem_cons.1 m with m | m
    · omega
    · exact lpm y (by simpa using m))) (by omega)
   by_cases hlt : i < M.length
   · have hlt' : (i : Int) < M.length := by omega
     obtain ⟨bi, oi, x, p1, p3, p4⟩ := iM2.ix .i64 (i : Int) (by omega) hlt'
     rw [Int.toNat_natCast] at p4
     obtain ⟨z0, z1⟩ := hM x (List.mem_of_getElem? p4)
     have hd : M.drop i = x :: M.drop (i + 1) := drop_cons p4
     rw [hd] at em
     simp only [chP] at em
     simp (disch := omega) only [evs, ↓reduceIte, Nat.reduceEqDiff, fwrap_i64, g111, g110, g109, g3, g14, hlt', p1, p3, n1]
     refine OQ_does (LSize_ok F.wf ac2.lo) ?_
     rintro _ h5 ⟨rfl, F5⟩
     have ss5 := ss.fr F.wf F5
     have n15 : hload1 h5 nb 1 = some (.int .i64 (a : Int)) := (F5.get on2).ld1 1
     have b4 : hload1 h5 b 4 = some (.ptr bl 0) := ss5.ob.ld1 4
     have in1 : 0 ≤ (a : Int) + i ∧ (a : Int) + i < old.length := by omega
     have tn : ((a : Int) + i).toNat = a + i := by omega
     rw [if_pos in1, tn]
     by_cases c1 : decide (old.getD (a + i) 0 < x) = r
     · rw [if_pos c1] at em
       simp (disch := omega) only [evs, ↓reduceIte, Nat.reduceEqDiff, eff, fwrap_i64, g0, g3, g16, c1, n15, b4]
       refine OQ_does (LSetQ_ok F5.wf ss5.lo z0 z1 (by omega) (by omega)) ?_
       rintro _ h6 ⟨rfl, a6, F6⟩
       have ea : (a : Int) + i = ((a + i : Nat) : Int) := by omega
       rw [tn, ea] at a6
       rw [ea]
       have b46 : hload1 h6 b 4 = some (.ptr bl 0) := (F6.own b _ (fun m => by have := s.d; rcases List.mem_cons.1 m with m | m; exact this.b5 m; exact (this.p b (by simpa using m)).1 rfl) ss5.ob).ld1 4
       have ac6 : LoP h6 c pmc old ko so := (ac2.fr F5).frS F6 ss5.lo.oth (nn _ gc) (fun q e => nn _ (gpc q e))
       have F06 : Fr (bl :: pm.toList) h h6 := Fr.trans (Fr.trans F F5 w (fun x m => .inl m) (fun x m => by simp at m)) F6 w (fun x m => .inl m) (fun x m => .inl m)
       by_cases c5 : xsetE l2 ((a + i : Nat) : Int) x = 0
       · rw [if_pos c5] at a6 em
         have s6 := ss5.lay F5.wf F6 a6 (by simp [ss.len]) (.inl rfl)
         simp (disch := omega) only [evs, ↓reduceIte, Nat.reduceEqDiff, Nat.reduceAdd, DF, eff, Nat.reduceSub, fwrap_i64, g111, n15, b4, eq_true c5]
         refine (roundQ_norm _ _ _).2 ⟨M.length - (i + 1), by omega, F06, i + 1, _, _, ac6, s6, (by simp [T.gs]), (by simp [T.gs, g110]), (by simp [T.gs, g109]), (by simp [T.gs, g0]), (by simp [T.gs, g3]), (by simp [T.gs, g12]), (by simp [T.gs, g13]), (by simp [T.gs, g14]), (by simp [T.gs, g16]), (by simp [T.gs, g105]), (by simp [T.gs, g103]), (by simp [T.gs, g104]), by omega, em, rfl⟩
       · rw [if_neg c5] at a6 em
         rw [← em] at k2
         simp only [evs, ↓reduceIte, Nat.reduceEqDiff, Nat.reduceAdd, DF, eff, Nat.reduceSub, g0, g14, n15, b4, eq_false c5]
         have s6 := ss5.lay F5.wf F6 a6 ss.len (.inl rfl)
         refine store_step (c' := [vK, .int .i64 cap, .ptr bg 0, .ptr bm 0, .ptr c 0]) F6.wf s6.ob rfl rfl rfl ?_
         rintro h7 o7 F7 n7
         have bc : b < c := by omega
         have ac7 : LoP h7 c pmc old ko so := ac6.frS F7 (Oth.own s6.ob (by simp) (odd_sp (n := 2) rfl)) (by simp; omega) (fun q e => by have := gpc q e; simp; omega)
         have f7 : Fr (b :: bl :: pm.toList) h h7 := Fr.trans F06 F7 w (fun x m => .inl (List.mem_cons_of_mem _ m)) (fun x m => .inl (by simp at m; simp [m]))
         simp only [evs, ↓reduceIte, Nat.reduceEqDiff]
         exact k2 c5 _ _ (by simp [T.gs]) f7 o7 ac7
     · rw [if_neg c1] at em
       simp (disch := omega) only [evs, ↓reduceIte, Nat.reduceEqDiff, fwrap_i64, g111, g16, eq_false c1]
       refine (roundQ_norm _ _ _).2 ⟨M.length - (i + 1), by omega, Fr.trans F F5 w (fun x m => .inl m) (fun x m => by simp at m), i + 1, _, _, ac2.fr F5, ss5, (by simp [T.gs]), (by simp [T.gs, g110]), (by simp [T.gs, g109]), (by simp [T.gs, g0]), (by simp [T.gs, g3]), (by simp [T.gs, g12]), (by simp [T.gs, g13]), (by simp [T.gs, g14]), (by simp [T.gs, g16]), (by simp [T.gs, g105]), (by simp [T.gs, g103]), (by simp [T.gs, g104]), by omega, em, rfl⟩
   · have : i = M.length := by omega
     subst this
     rw [List.drop_length] at em
     have hlt' : ¬ (M.length : Int) < M.length := by omega
     simp only [evs, ↓reduceIte, g111, g110, eq_false hlt']
     rw [← em] at k1
     exact k1 rfl _ _ ⟨(by simp [T.gs, g0]), (by simp [T.gs, g3]), (by simp [T.gs, g12]), (by simp [T.gs, g13]), (by simp [T.gs, g14]), (by simp [T.gs, g105]), (by simp [T.gs, g103]), (by simp [T.gs, g104])⟩ F ss ac2
end Go.Ev.Lay
