/- An evaluator of the program, and contracts over it: SdH to MsN. -/
import Derived.Test.YthhhghfnhbocnaaGreatDoorP08
import Derived.Test.YthhhghfnhbocnaaGreatDoorP10
set_option linter.unusedSimpArgs false
set_option linter.unusedVariables false
set_option linter.constructorNameAsVariable false
set_option linter.unnecessarySimpa false
namespace Go.Ev.Lay
set_option maxRecDepth 4000
structure Dn where
  tag : Nat
  key : Nat
  vc : V
  code : List Nat
def Dn.cells (x : Dn) : List V := [.int .u8 (x.tag : Int), .int .u8 (x.key : Int), x.vc]
def Dn.c (x : Dn) : CT := drawC x.tag x.key x.code
structure DnH (h : Heap) (x : Dn) : Prop where
  k : x.key < 256
  c : ∀ c ∈ x.code, c < 256
  n : x.code.length < 281474976710656
  r : RO h x.vc x.code
theorem DnH.fr {h h' : Heap} {x : Dn} {X : List Nat} (a : DnH h x) (w : WF h) (f : Fr X h h') : DnH h' x := ⟨a.k, a.c, a.n, a.r.fr w f⟩
theorem DnH.one {h : Heap} {x : Dn} (a : DnH h x) (w : WF h) : x.vc.one = true := (Stab.now a.r w).one
theorem Dn.good {h : Heap} {x : Dn} (a : DnH h x) : Good x.c := by
  have := draw_good (tag := x.tag) a.k a.c
  exact ⟨this.1, by simp only [Dn.c, drawC, CT.size]; omega⟩
theorem oT_ok {h0 hh : Heap} {env : T V} {b1 b2 b3 tag key : Nat} {ky : Str} {code : List Nat} {va vcode : V} {R : V → Heap → Prop} (w : WF h0) (F : Fr [] h0 hh) (n1 : h0.next ≤ b1) (n2 : h0.next ≤ b2) (n3 : b2 < b3) (nb : b1 ≠ b2) (nb' : b1 ≠ b3) (l3 : b3 < hh.next)
    (o1 : Own hh b1 [.int .u8 (tag : Int), .int .u8 (key : Int), vcode]) (o2 : Own hh b2 z6) (o3 : Own hh b3 [.int .u8 1, .str (tagL tag), .str ky, va, .str [], .nils])
    (Sa : Stab (fun x => b3 < x) hh fun h => Recs attC 2 h va (attU key 3)) (one5 : va.one = true) (ek : ky = if key % 3 = 1 then rootL else []) (hc : ∀ c ∈ code, c < 256) (hn : code.length < 281474976710656) (ro : RO hh vcode code)
    (g1 : env.get 1 = some (.ptr b1 0)) (g2 : env.get 2 = some (.ptr b2 0)) (g3 : env.get 3 = some (.ptr b3 0))
    (k : ∀ (b : Nd) h', b.ct = drawC tag key code → NdH h' b → Fr [] h0 h' → R (.agg b.cells) h') : W go oT env hh (RetQ [.c 2 6 true] R) := by
  have l2 : hload1 hh b1 2 = some vcode := o1.ld1 2
  simp (maxSteps := 1000000) (disch := omega) only [evs, ↓reduceIte, Nat.reduceEqDiff, Nat.reduceAdd, Nat.reduceMul, Nat.reduceLeDiff, Nat.reduceLT, Int.reduceNeg, DF, eff, Nat.reduceSub, fwrap_i64, oT, g1, g2, g3, l2]
  refine OQ_does (build_any 19 (a := 0) (lv := 2) 20 (by simp [rs]; omega) F.wf ro hc hn (by simp [rs]; omega) (by omega) (by omega)) ?_
  rintro _ h7 ⟨sub, vs, a2, rfl, Gs7, Ss, L7, e1, _, _, F7⟩
  have ones : vs.one = true := Gs7.one
  simp (maxSteps := 1000000) (disch := omega) only [evs, ↓reduceIte, Nat.reduceEqDiff, Nat.reduceAdd, Nat.reduceMul, Nat.reduceLeDiff, Nat.reduceLT, Int.reduceNeg, DF, eff, Nat.reduceSub, fwrap_i64, g1, g2, g3]
  refine store_step (c' := [.int .u8 1, .str (tagL tag), .str ky, va, .str [], vs]) F7.wf (F7.get o3) (by rw [cells_one ones]; rfl) (by rw [cells_one ones]; simp [onesB_cons, onesB_nil, ones]) (by rw [cells_one ones]; rfl) ?_
  intro h8 o8 F8 n8
  have lx : hload h8 b3 0 6 = some [.int .u8 1, .str (tagL tag), .str ky, va, .str [], vs] := by rw [o8.ld]; rfl
  have nn7 := F7.next
  simp (maxSteps := 1000000) (disch := omega) only [evs, ↓reduceIte, Nat.reduceEqDiff, Nat.reduceAdd, Nat.reduceMul, Nat.reduceLeDiff, Nat.reduceLT, Int.reduceNeg, DF, eff, Nat.reduceSub, fwrap_i64, g1, g2, g3, lx]
  refine store_step (c' := [.int .u8 1, .str (tagL tag), .str ky, va, .str [], vs]) F8.wf (F8.own _ _ (by simp; omega) (F7.get o2)) rfl (by simp only [V.cells, onesB_cons, onesB_nil, one5, ones]; rfl) rfl ?_
  intro h9 o9 F9 n9
  have ly : hload h9 b2 0 6 = some [.int .u8 1, .str (tagL tag), .str ky, va, .str [], vs] := by rw [o9.ld]; rfl
  simp (maxSteps := 1000000) (disch := omega) only [evs, ↓reduceIte, Nat.reduceEqDiff, Nat.reduceAdd, Nat.reduceMul, Nat.reduceLeDiff, Nat.reduceLT, Int.reduceNeg, DF, eff, Nat.reduceSub, fwrap_i64, g1, g2, g3, ly]
  have F79 : Fr [b2, b3] h7 h9 := F8.trans F9 F7.wf (fun x m => .inl (by simp at m; simp [m])) (fun x m => .inl (by simp at m; simp [m]))
  have Fh9 : Fr [b2, b3] hh h9 := F7.trans F79 F.wf (by simp) (fun x m => .inl m)
  have no : ∀ x ∈ [b2, b3], x ≤ b3 ∧ h0.next ≤ x := by simp; omega
  have A1 := (Sa.fr F.wf Fh9 fun x m => .inl fun p => by have := (no x m).1; omega).now F9.wf
  have A2 := ((Stab.gs F7.wf Gs7 (P := fun x => hh.next ≤ x) fun x m => Gs7.ge x m).fr F7.wf F79 fun x m => .inl fun p => by have := (no x m).1; omega).now F9.wf
  have A3 := (Ss.fr F7.wf F79 fun x m => .inl fun p => by have := (no x m).1; omega).now F9.wf
  refine k ⟨1, tagL tag, ky, attU key 3, [], va, vs, sub⟩ h9 ?_ ⟨(by decide : 1 < 256), A1, (by have := attU_len key 3; show (attU key 3).length ≤ 4096; omega), A2.sl sub.cells_len (by omega), (by show sub.len ≤ 4096; omega), A3, trivial⟩ ((F.then F7).trans F79 w (by simp) (fun x m => .inr (no x m).2))
  simp only [drawC, Nd.ct, ek, e1]
  rfl
theorem tree_ok {h : Heap} {x : Dn} (w : WF h) (a : DnH h x) : Does go 32 [.agg x.cells] h fun u h' => ∃ b : Nd, u = .agg b.cells ∧ b.ct = x.c ∧ NdH h' b ∧ Fr [] h h' := by
  obtain ⟨tag, key, vcode, code⟩ := x
  have onec := a.one w
  obtain ⟨hk, hc, hn, ro⟩ := a
  simp only [Dn.cells, Dn.c] at *
  obtain ⟨h1, e_h1⟩ : ∃ h1, h1 = halloc h [.int .u8 (tag : Int), .int .u8 (key : Int), vcode] := ⟨_, rfl⟩
  have F_h1 : Fr [] h h1 := e_h1 ▸ Fr.halloc w _
  have o_h1 : Own h1 h.next [.int .u8 (tag : Int), .int .u8 (key : Int), vcode] := e_h1 ▸ Own.new w _
  obtain ⟨h2, e_h2⟩ : ∃ h2, h2 = halloc h1 [.int .u8 0, .str [], .str [], .nils, .str [], .nils] := ⟨_, rfl⟩
  have F_h2 : Fr [] h1 h2 := e_h2 ▸ Fr.halloc F_h1.wf _
  have o_h2 : Own h2 h1.next [.int .u8 0, .str [], .str [], .nils, .str [], .nils] := e_h2 ▸ Own.new F_h1.wf _
  have n1 := hnx e_h1
  have n2 := hnx e_h2
  refine does_fn g32x rfl ?_
  simp (maxSteps := 1000000) (disch := omega) only [evs, ↓reduceIte, Nat.reduceEqDiff, Nat.reduceAdd, Nat.reduceMul, Nat.reduceLeDiff, Nat.reduceLT, Int.reduceNeg, DF, eff, Nat.reduceSub, fwrap_i64, fn32x, ← e_h1, ← e_h2]
  refine W_dal [⟨none, .p (.faddr 0) [.v 1], none⟩, ⟨none, .ld 1 false (.l 0), none⟩, ⟨none, .cf 51 [.l 0], none⟩, ⟨none, .p (.faddr 1) [.v 1], none⟩, ⟨none, .ld 1 false (.l 0), none⟩, ⟨none, .cf 52 [.l 0], none⟩, ⟨none, .p (.build [(.int .u8 0), (.str []), (.str []), .nils, (.str []), .nils] [(0, 1), (1, 1), (3, 1)]) [.c (.int .u8 1), .l 3, .l 0], none⟩] _ rfl ?_
  have F3 := Fr.halloc F_h2.wf z6
  have o3 := Own.new F_h2.wf z6
  have n3 : (halloc h2 z6).next = h2.next + 1 := rfl
  generalize halloc h2 z6 = h3 at F3 o3 n3 ⊢
  have F03 := (F_h1.then F_h2).then F3
  have ob3 := F3.get (F_h2.get o_h1)
  have oz3 := F3.get o_h2
  have t0 : hload1 h3 h.next 0 = some (.int .u8 (tag : Int)) := ob3.ld1 0
  have t1 : hload1 h3 h.next 1 = some (.int .u8 (key : Int)) := ob3.ld1 1
  simp (maxSteps := 1000000) (disch := omega) only [evs, ↓reduceIte, Nat.reduceEqDiff, Nat.reduceAdd, Nat.reduceMul, Nat.reduceLeDiff, Nat.reduceLT, Int.reduceNeg, DF, eff, Nat.reduceSub, fwrap_i64, t0]
  refine OQ_does (tag_ok F3.wf) ?_
  rintro _ h4 ⟨rfl, F4⟩
  have t14 : hload1 h4 h.next 1 = some (.int .u8 (key : Int)) := (F4.get ob3).ld1 1
  simp (maxSteps := 1000000) (disch := omega) only [evs, ↓reduceIte, Nat.reduceEqDiff, Nat.reduceAdd, Nat.reduceMul, Nat.reduceLeDiff, Nat.reduceLT, Int.reduceNeg, DF, eff, Nat.reduceSub, fwrap_i64, t0, t1, t14]
  refine OQ_does (attrs_ok F4.wf hk) ?_
  rintro va h5 ⟨Ga, F5⟩
  have F35 := F4.then F5
  have one5 : va.one = true := Ga.one
  have ob5 := F35.get ob3
  have oz5 := F35.get oz3
  have nn4 := F4.next
  simp (maxSteps := 1000000) (disch := omega) only [evs, ↓reduceIte, Nat.reduceEqDiff, Nat.reduceAdd, Nat.reduceMul, Nat.reduceLeDiff, Nat.reduceLT, Int.reduceNeg, DF, eff, Nat.reduceSub, fwrap_i64, t0, t1, t14, WD_late, late_al, cells_one one5]
  refine store_step (c' := [.int .u8 1, .str (tagL tag), .str [], va, .str [], .nils]) F5.wf (F35.get o3) rfl (by simp only [V.cells, onesB_cons, onesB_nil, one5]; rfl) rfl ?_
  intro h6 o6 F6 n6
  have F06 : Fr [] h h6 := (F03.then F35).fresh F6 w (by omega)
  have ob6 := F6.own _ _ (by simp; omega) ob5
  have oz6 := F6.own _ _ (by simp; omega) oz5
  have nn5 := F5.next
  have Sa : Stab (fun x => h2.next < x) h6 fun h => Recs attC 2 h va (attU key 3) :=
    ((Stab.gs F5.wf Ga (P := fun x => h2.next < x) fun x m => by have := Ga.ge x m; omega).imp fun h q => Gs.sl q (attC_flat _) (by omega)).fr F5.wf F6 (by intro x m; rw [List.mem_singleton.1 m]; exact .inl fun p => by omega)
  have t16 : hload1 h6 h.next 1 = some (.int .u8 (key : Int)) := ob6.ld1 1
  have r3 := rem_u8 key 3 3 rfl (by omega)
  simp (maxSteps := 1000000) (disch := omega) only [evs, ↓reduceIte, Nat.reduceEqDiff, Nat.reduceAdd, Nat.reduceMul, Nat.reduceLeDiff, Nat.reduceLT, Int.reduceNeg, DF, eff, Nat.reduceSub, fwrap_i64, t0, t1, t14, t16, r3]
  by_cases c : key % 3 = 1
  · simp (maxSteps := 1000000) (disch := omega) only [evs, ↓reduceIte, Nat.reduceEqDiff, Nat.reduceAdd, Nat.reduceMul, Nat.reduceLeDiff, Nat.reduceLT, Int.reduceNeg, DF, eff, Nat.reduceSub, fwrap_i64, eq_true (show ((key % 3 : Nat) : Int) = 1 by omega)]
    refine store_step (c' := [.int .u8 1, .str (tagL tag), .str rootL, va, .str [], .nils]) F6.wf o6 rfl rfl rfl ?_
    intro h7 o7 F7 n7
    simp (maxSteps := 1000000) (disch := omega) only [evs, ↓reduceIte, Nat.reduceEqDiff, Nat.reduceAdd, Nat.reduceMul, Nat.reduceLeDiff, Nat.reduceLT, Int.reduceNeg, DF, eff, Nat.reduceSub, fwrap_i64]
    have F67 : Fr [] h h7 := F06.trans F7 w (by simp) (fun x m => .inr (by rw [List.mem_singleton.1 m]; omega))
    refine oT_ok w F67 (Nat.le_refl _) (by omega) (by omega : h1.next < h2.next) (by omega) (by omega) (by omega) (F7.own _ _ (by simp; omega) ob6) (F7.own _ _ (by simp; omega) oz6) o7 (Sa.fr F06.wf F7 (by intro x m; rw [List.mem_singleton.1 m]; exact .inl fun p => by omega)) one5 (by rw [if_pos c]) hc hn (ro.fr w F67) (by simp [T.get_set]) (by simp [T.get_set]) (by simp [T.get_set]) ?_
    exact fun b h' e1 e2 e3 => ⟨b, rfl, e1, e2, e3⟩
  · simp (maxSteps := 1000000) (disch := omega) only [evs, ↓reduceIte, Nat.reduceEqDiff, Nat.reduceAdd, Nat.reduceMul, Nat.reduceLeDiff, Nat.reduceLT, Int.reduceNeg, DF, eff, Nat.reduceSub, fwrap_i64, show ¬ ((key % 3 : Nat) : Int) = 1 by omega]
    refine oT_ok w F06 (Nat.le_refl _) (by omega) (by omega : h1.next < h2.next) (by omega) (by omega) (by omega) ob6 oz6 o6 Sa one5 (by rw [if_neg c]) hc hn (ro.fr w F06) (by simp [T.get_set]) (by simp [T.get_set]) (by simp [T.get_set]) ?_
    exact fun b h' e1 e2 e3 => ⟨b, rfl, e1, e2, e3⟩
structure Dw where
  key : Int
  top : Int
  sz : Int
  nd : Dn
def Dw.cells (x : Dw) : List V := [.int .u64 x.key, .int .i64 x.top, .int .i64 x.sz, .int .u8 (x.nd.tag : Int), .int .u8 (x.nd.key : Int), x.nd.vc]
theorem Dw.len (x : Dw) : x.cells.length = 6 := rfl
def Dw.c (x : Dw) : CR := ⟨x.key, x.top, x.sz, x.nd.c.strip⟩
def R64 (a : Int) : Prop := -9223372036854775808 ≤ a ∧ a ≤ 9223372036854775807
def CR.ok (c : CR) : Prop := (0 ≤ c.key ∧ c.key ≤ 18446744073709551615) ∧ R64 c.top ∧ R64 c.sz ∧ Good c.t
def DwH (h : Heap) (x : Dw) : Prop := DnH h x.nd ∧ (0 ≤ x.key ∧ x.key ≤ 18446744073709551615) ∧ R64 x.top ∧ R64 x.sz
theorem DwH.fr {h h' : Heap} {x : Dw} {X : List Nat} (a : DwH h x) (w : WF h) (f : Fr X h h') : DwH h' x := ⟨DnH.fr a.1 w f, a.2⟩
theorem DwH.ok {h : Heap} {x : Dw} (a : DwH h x) : x.c.ok := ⟨a.2.1, a.2.2.1, a.2.2.2, (Dn.good a.1).strip⟩
theorem wOf_ok {h : Heap} {x : Dw} (w : WF h) (a : DwH h x) : Does go 14 [.agg x.cells] h fun u h' => ∃ r : Rw, u = .agg r.cells ∧ r.c = x.c ∧ Stab (fun y => h.next ≤ y) h' (fun h => RwH h r) ∧ Fr [] h h' := by
  have onec := DnH.one a.1 w
  obtain ⟨h1, e_h1⟩ : ∃ h1, h1 = halloc h x.cells := ⟨_, rfl⟩
  have F_h1 : Fr [] h h1 := e_h1 ▸ Fr.halloc w _
  have o_h1 : Own h1 h.next x.cells := e_h1 ▸ Own.new w _
  obtain ⟨h2, e_h2⟩ : ∃ h2, h2 = halloc h1 [.int .u64 0, .int .i64 0, .int .i64 0, .int .u8 0, .str [], .str [], .nils, .str [], .nils] := ⟨_, rfl⟩
  have F_h2 : Fr [] h1 h2 := e_h2 ▸ Fr.halloc F_h1.wf _
  have o_h2 : Own h2 h1.next [.int .u64 0, .int .i64 0, .int .i64 0, .int .u8 0, .str [], .str [], .nils, .str [], .nils] := e_h2 ▸ Own.new F_h1.wf _
  have n1 := hnx e_h1
  have n2 := hnx e_h2
  have F2 := F_h1.then F_h2
  have o1 := F_h2.get o_h1
  have lds : ∀ {h'}, Fr [] h2 h' → hload1 h' h.next 0 = some (.int .u64 x.key) ∧ hload1 h' h.next 1 = some (.int .i64 x.top) ∧ hload1 h' h.next 2 = some (.int .i64 x.sz) ∧ hload h' h.next 3 3 = some x.nd.cells := fun f => by
    have o := f.get o1
    exact ⟨o.ld1 0, o.ld1 1, o.ld1 2, by rw [o.ld]; rfl⟩
  obtain ⟨a0, a1, a2, a3⟩ := lds (Fr.refl F2.wf)
  refine does_fn g14 rfl ?_
  simp (maxSteps := 1000000) (disch := omega) only [fn14, evs, ↓reduceIte, Nat.reduceEqDiff, Nat.reduceAdd, Nat.reduceMul, Nat.reduceLeDiff, Nat.reduceLT, Int.reduceNeg, DF, eff, Nat.reduceSub, fwrap_i64, ← e_h1, ← e_h2, a0, a1, a2, a3]
  refine OQ_does (tree_ok F2.wf (DnH.fr a.1 w F2)) ?_
  rintro _ h3 ⟨t, rfl, et, ht, F3⟩
  obtain ⟨b0, b1, b2, b3⟩ := lds F3
  simp (maxSteps := 1000000) (disch := omega) only [evs, ↓reduceIte, Nat.reduceEqDiff, Nat.reduceAdd, Nat.reduceMul, Nat.reduceLeDiff, Nat.reduceLT, Int.reduceNeg, DF, eff, Nat.reduceSub, fwrap_i64, a0, a1, a2, a3, b0, b1, b2, b3]
  refine OQ_does (strip_ok F3.wf ht (by rw [et]; exact Dn.good a.1)) ?_
  rintro _ h4 ⟨s, rfl, es, Ss, F4⟩
  obtain ⟨c0, c1, c2, c3⟩ := lds (F3.then F4)
  have F04 := (F2.then F3).then F4
  have nn3 := (F2.then F3).next
  have nn3b := F3.next
  have hs := Ss.now F4.wf
  simp (maxSteps := 1000000) (disch := omega) only [evs, ↓reduceIte, Nat.reduceEqDiff, Nat.reduceAdd, Nat.reduceMul, Nat.reduceLeDiff, Nat.reduceLT, Int.reduceNeg, DF, eff, Nat.reduceSub, fwrap_i64, a0, a1, a2, a3, b0, b1, b2, b3, c0, c1, c2, c3, show s.cells.length = 6 from rfl, show updO [.int .u8 0, .str [], .str [], .nils, .str [], .nils] 0 s.cells = some s.cells from rfl]
  refine store_step (v := .agg (⟨x.key, x.top, x.sz, s⟩ : Rw).cells) (c' := (⟨x.key, x.top, x.sz, s⟩ : Rw).cells) F4.wf ((F3.then F4).get o_h2) (by rfl) (by exact RwH.one (r := ⟨x.key, x.top, x.sz, s⟩) hs) (by rfl) ?_
  intro h5 o5 F5 n5
  have l5 : hload h5 h1.next 0 9 = some (⟨x.key, x.top, x.sz, s⟩ : Rw).cells := by rw [o5.ld]; rfl
  simp (maxSteps := 1000000) (disch := omega) only [evs, ↓reduceIte, Nat.reduceEqDiff, Nat.reduceAdd, Nat.reduceMul, Nat.reduceLeDiff, Nat.reduceLT, Int.reduceNeg, DF, eff, Nat.reduceSub, fwrap_i64, a0, a1, a2, a3, b0, b1, b2, b3, c0, c1, c2, c3, show s.cells.length = 6 from rfl, show updO [.int .u8 0, .str [], .str [], .nils, .str [], .nils] 0 s.cells = some s.cells from rfl, l5]
  refine ⟨⟨x.key, x.top, x.sz, s⟩, rfl, by simp only [Rw.c, Dw.c, es, et], ?_, F04.fresh F5 w (by omega)⟩
  exact (Ss.fr F4.wf F5 (by intro x m; rw [List.mem_singleton.1 m]; exact .inl fun p => by omega)).wk fun y _ p => by omega
def tT : IC := (.seq (.seq (.ops [⟨none, .p (.faddr 2) [.v 1], none⟩, ⟨none, .ld 1 false (.l 0), none⟩, ⟨none, .p .lenS [.l 0], none⟩, ⟨none, .p (.ib .gtr) [.l 0, .c (.int .i64 0)], some 33⟩]) (.cond (.v 33) (.seq (.ops [⟨none, .p (.faddr 2) [.v 3], none⟩, ⟨none, .st 1 (.l 0) (.c (.bool true)), none⟩]) (.ops [⟨none, .p (.faddr 2) [.v 1], none⟩, ⟨none, .ld 1 false (.l 0), none⟩, ⟨none, .p (.ixs 6) [.l 0, .c (.int .i64 0)], none⟩, ⟨none, .ld 6 true (.l 0), none⟩, ⟨none, .cf 14 [.l 0], none⟩, ⟨none, .p (.faddr 3) [.v 3], none⟩, ⟨none, .st 9 (.l 0) (.l 1), none⟩])) (.skip))) (.seq (.ops [⟨none, .ld 12 true (.v 3), none⟩, ⟨none, .st 12 (.v 2) (.l 0), none⟩]) (.ret)))
def fn9x : IFn := ⟨1, .seq (.ops [⟨none, .bx (.v 0), some 1⟩, ⟨none, .al [(.int .i64 0), .nils, (.bool false), (.int .u64 0), (.int .i64 0), (.int .i64 0), (.int .u8 0), (.str []), (.str []), .nils, (.str []), .nils], some 2⟩]) (.seq (.ops [⟨none, .p (.faddr 0) [.v 1], none⟩, ⟨none, .ld 1 false (.l 0), none⟩, ⟨none, .p (.build [(.int .i64 0), .nils, (.bool false), (.int .u64 0), (.int .i64 0), (.int .i64 0), (.int .u8 0), (.str []), (.str []), .nils, (.str []), .nils] [(0, 1)]) [.l 0], none⟩, ⟨none, .al [(.int .i64 0), .nils, (.bool false), (.int .u64 0), (.int .i64 0), (.int .i64 0), (.int .u8 0), (.str []), (.str []), .nils, (.str []), .nils], some 3⟩, ⟨none, .st 12 (.v 3) (.l 0), none⟩]) (.seq (.seq (.ops [⟨none, .p .mv [.c (.int .i64 0)], some 4⟩]) (.block 0 (.loop (.seq (.seq (.ops [⟨none, .p (.faddr 1) [.v 1], none⟩, ⟨none, .ld 1 false (.l 0), none⟩, ⟨none, .p .lenS [.l 0], none⟩, ⟨none, .p (.ib .lss) [.v 4, .l 0], none⟩, ⟨(some (.l 0, true)), .p .mv [.v 4], none⟩, ⟨(some (.l 1, true)), .p (.ib .lss) [.l 0, .c (.int .i64 6)], none⟩, ⟨none, .p .pick [.l 2, .l 0, .c (.bool false)], some 16⟩]) (.cond (.v 16) (.skip) (.exit 0))) (.seq (.block 1 (.dops [⟨none, .p (.faddr 1) [.v 3], none⟩, ⟨none, .ld 1 false (.l 0), none⟩, ⟨none, .p (.faddr 1) [.v 1], none⟩, ⟨none, .ld 1 false (.l 0), none⟩, ⟨none, .p .mv [.v 4], none⟩, ⟨none, .p (.ixs 6) [.l 1, .l 0], none⟩, ⟨none, .ld 6 true (.l 0), none⟩, ⟨none, .cf 14 [.l 0], none⟩, ⟨none, .bs [(.int .u64 0), (.int .i64 0), (.int .i64 0), (.int .u8 0), (.str []), (.str []), .nils, (.str []), .nils] [(0, 9)] 1 [.l 0], none⟩, ⟨none, .ap 9 128 (.l 7) (.l 0), none⟩, ⟨none, .p (.faddr 1) [.v 3], none⟩, ⟨none, .st 1 (.l 0) (.l 1), none⟩] [] [0, 1, 0, 4, 0, 28, 60, 124, 252, 511, 1023, 2047] [0, 1, 2, 3, 4, 5, 6, 7, 8, 9, 10, 11] [(1, 0, 2), (3, 0, 0), (6, 0, 0)] [])) (.ops [⟨none, .p .mv [.v 4], none⟩, ⟨none, .p (.ib .add) [.l 0, .c (.int .i64 1)], none⟩, ⟨none, .p .mv [.l 0], some 4⟩])))))) tT)), [.c 2 12 true], [0, 1, 2, 3, 4, 16, 33]⟩
theorem g9x : F.get 9 = some fn9x := rfl
set_option maxRecDepth 4000
abbrev z12 : List V := [.int .i64 0, .nils, .bool false, .int .u64 0, .int .i64 0, .int .i64 0, .int .u8 0, .str [], .str [], .nils, .str [], .nils]
theorem rpush_ok {hh : Heap} {L : Nat} {C : Nat → Prop} {v : V} {A : List Rw} {x : Rw} (w : WF hh) (g : Gs hh L 9 v (A.flatMap Rw.cells)) (hL : L ≤ hh.next) (st : Stab (fun y => C y ∧ y ∉ vb v) hh fun h => ∀ r ∈ A, RwH h r)
    (sx : Stab (fun y => C y ∧ y ∉ vb v) hh fun h => RwH h x) (hlen : A.length ≤ 7) {K : V → Heap → Prop}
    (kk : ∀ v' h', Gs h' L 9 v' ((A ++ [x]).flatMap Rw.cells) → Stab (fun y => C y ∧ y ∉ vb v') h' (fun h => ∀ r ∈ A ++ [x], RwH h r) → vb v' = [hh.next + 1] → Fr (vb v) hh h' → K v' h') :
    OQ (aapp (halloc hh x.cells) 9 128 v (.slice hh.next 0 1 1)) K := by
  have F1 := Fr.halloc w x.cells
  have o1 := Own.new w x.cells
  have cl := flat_len Rw.len A
  refine Gs.append1 (n := 1) F1.wf (g.fr F1) (Sl.lit o1 rfl) (by omega) (by omega) (sx.now w).one (by have := F1.next; omega) (by omega) ?_
  intro v' h' g' e' f
  have F : Fr (vb v) hh h' := F1.trans f w (by simp) (fun x m => .inl m)
  refine kk v' h' (by rw [List.flatMap_append]; simpa using g') ?_ e' F
  have S : Stab (fun y => C y ∧ y ∉ vb v) hh fun h => ∀ r ∈ A ++ [x], RwH h r := (st.and sx).imp fun h q r m => (List.mem_append.1 m).elim (q.1 r) fun m => by rw [List.mem_singleton.1 m]; exact q.2
  have S1 : Stab (fun y => (C y ∧ y ∉ vb v) ∧ y ≠ hh.next + 1) hh fun h => ∀ r ∈ A ++ [x], RwH h r := S.wk fun b hb p => ⟨p, by omega⟩
  refine (S1.fr w F fun x m => .inl fun p => p.1.2 m).wk fun b hb p => ⟨p.1.1, ?_⟩
  rw [e']
  have : (halloc hh x.cells).next = hh.next + 1 := rfl
  rw [this]
  simpa using p.2
def RD (h : Heap) (v : V) (R : List Dw) : Prop := Stab (fun _ => False) h (fun h => ARecs Dw.cells 6 h v R) ∧ (∀ x ∈ R, DwH h x) ∧ R.length < 70368744177664
theorem RD.fr {h h' : Heap} {v : V} {R : List Dw} {X : List Nat} (a : RD h v R) (w : WF h) (f : Fr X h h') : RD h' v R := ⟨a.1.fr w f fun _ _ => .inl id, fun x m => (a.2.1 x m).fr w f, a.2.2⟩
structure Dt where
  off : Int
  vr : V
  rows : List Dw
  vh : V
  heads : List Dw
def Dt.cells (x : Dt) : List V := [.int .i64 x.off, x.vr, x.vh]
def DtH (h : Heap) (x : Dt) : Prop := RD h x.vr x.rows ∧ RD h x.vh x.heads
theorem DtH.fr {h h' : Heap} {x : Dt} {X : List Nat} (a : DtH h x) (w : WF h) (f : Fr X h h') : DtH h' x := ⟨a.1.fr w f, a.2.fr w f⟩
def zR : Rw := ⟨0, 0, 0, ⟨0, [], [], [], [], .nils, .nils, .nil⟩⟩
theorem zR_ok (h : Heap) : RwH h zR := ⟨by decide, ⟨rfl, rfl⟩, by decide, ⟨rfl, rfl⟩, by decide, trivial, trivial⟩
def hdC : List Dw → CR
  | [] => zR.c
  | y :: _ => y.c
def Dt.c (x : Dt) : CS := ⟨x.off, (x.rows.take 6).map Dw.c, decide (0 < x.heads.length), hdC x.heads⟩
def TO (h0 : Heap) (x : Dt) (u : V) (h' : Heap) : Prop := ∃ s : Sc, u = .agg s.cells ∧ s.c = x.c ∧ s.rows.length ≤ 6 ∧ Gs h' h0.next 9 s.vr (s.rows.flatMap Rw.cells) ∧
    Stab (fun y => h0.next ≤ y ∧ y ∉ vb s.vr) h' (fun h => (∀ r ∈ s.rows, RwH h r) ∧ RwH h s.hd) ∧ Fr [] h0 h'
theorem tT_ok {h0 hh : Heap} {env : T V} {b1 b2 b3 : Nat} {x : Dt} {v : V} {A : List Rw} {R : V → Heap → Prop} (w : WF h0) (F : Fr [] h0 hh) (n1 : h0.next ≤ b1) (n12 : b1 < b2) (n23 : b2 < b3) (n3 : b3 < hh.next)
    (ox : Own hh b1 x.cells) (oz : Own hh b2 z12) (os : Own hh b3 (⟨x.off, v, [], false, zR⟩ : Sc).cells) (G : Gs hh (b3 + 1) 9 v (A.flatMap Rw.cells)) (S : Stab (fun y => b3 + 1 ≤ y ∧ y ∉ vb v) hh fun h => ∀ r ∈ A, RwH h r)
    (eA : A.map Rw.c = (x.rows.take 6).map Dw.c) (a : DtH hh x) (g1 : env.get 1 = some (.ptr b1 0)) (g2 : env.get 2 = some (.ptr b2 0)) (g3 : env.get 3 = some (.ptr b3 0))
    (k : ∀ u h', TO h0 x u h' → R u h') : W go tT env hh (RetQ [.c 2 12 true] R) := by
  have lA : A.length ≤ 6 := by
    have := congrArg List.length eA
    simp at this; omega
  have onev : v.one = true := G.one
  have hr := a.2.1.now F.wf
  have x2 : hload1 hh b1 2 = some x.vh := ox.ld1 2
  have vlt := G.lt F.wf
  have vge := G.ge
  -- the end, for any head
  have fin : ∀ (p : Bool) (hd : Rw) (h7 : Heap) (env : T V), Fr [b3] hh h7 → Own h7 b3 (⟨x.off, v, A, p, hd⟩ : Sc).cells → Stab (fun y => b3 + 1 ≤ y ∧ y ∉ vb v) h7 (fun h => RwH h hd) → p = decide (0 < x.heads.length) → hd.c = hdC x.heads →
      hload h7 b3 0 12 = some (⟨x.off, v, A, p, hd⟩ : Sc).cells ∧ onesB (⟨x.off, v, A, p, hd⟩ : Sc).cells = true ∧ Own h7 b2 z12 ∧ ∀ h8, Own h8 b2 (⟨x.off, v, A, p, hd⟩ : Sc).cells → Fr [b2] h7 h8 → hload h8 b2 0 12 = some (⟨x.off, v, A, p, hd⟩ : Sc).cells ∧ R (.agg (⟨x.off, v, A, p, hd⟩ : Sc).cells) h8 := by
    intro p hd h7 env F7 o7 Sh ep eh
    have no : ∀ y ∈ [b2, b3], y ≤ b3 ∧ h0.next ≤ y := by simp; omega
    have one := (Sh.now F7.wf).one
    refine ⟨by rw [o7.ld]; rfl, ?_, F7.own _ _ (by simp; omega) oz, fun h8 o8 F8 => ⟨by rw [o8.ld]; rfl, k _ _ ⟨⟨x.off, v, A, p, hd⟩, rfl, ?_, lA, ?_, ?_, ?_⟩⟩⟩
    · have e : (⟨x.off, v, A, p, hd⟩ : Sc).cells = [.int .i64 x.off, v, .bool p] ++ hd.cells := rfl
      rw [e, onesB_append, one]; simp [onesB_cons, onesB_nil, onev]; exact ⟨rfl, rfl⟩
    · simp only [Sc.c, Dt.c, eA, ep, eh]
    · have F78 : Fr [b2, b3] hh h8 := F7.trans F8 F.wf (fun y m => .inl (by simp at m; simp [m])) (fun y m => .inl (by simp at m; simp [m]))
      exact ((Stab.gs F.wf G (P := fun y => b3 < y) fun y m => by have := vge y m; omega) _ _ (fun y m => .inl fun q => by have := (no y m).1; omega) F78).low (by omega)
    · have F78 : Fr [b2, b3] hh h8 := F7.trans F8 F.wf (fun y m => .inl (by simp at m; simp [m])) (fun y m => .inl (by simp at m; simp [m]))
      exact ((S.fr F.wf F78 fun y m => .inl fun q => by have := (no y m).1; omega).and (Sh.fr F7.wf F8 fun y m => .inl fun q => by rw [List.mem_singleton.1 m] at q; omega)).wk fun y _ q => ⟨by omega, q.2⟩
    · have F78 : Fr [b2, b3] hh h8 := F7.trans F8 F.wf (fun y m => .inl (by simp at m; simp [m])) (fun y m => .inl (by simp at m; simp [m]))
      exact F.trans F78 w (by simp) (fun y m => .inr (no y m).2)
  by_cases c : 0 < x.heads.length
  · obtain ⟨y, l, ey⟩ : ∃ y l, x.heads = y :: l := by cases q : x.heads with | nil => rw [q] at c; simp at c | cons y l => exact ⟨y, l, rfl⟩
    simp (maxSteps := 1000000) (disch := omega) only [evs, ↓reduceIte, Nat.reduceEqDiff, Nat.reduceAdd, Nat.reduceMul, Nat.reduceLeDiff, Nat.reduceLT, Int.reduceNeg, DF, eff, Nat.reduceSub, fwrap_i64, tT, g1, g2, g3, x2, hr.len, show (0 : Int) < x.heads.length by omega]
    refine store_step (c' := (⟨x.off, v, [], true, zR⟩ : Sc).cells) F.wf os rfl rfl rfl ?_
    intro h4 o4 F4 n4
    have ox4 := F4.own _ _ (by simp; omega) ox
    have x24 : hload1 h4 b1 2 = some x.vh := ox4.ld1 2
    have a4 := a.fr F.wf F4
    obtain ⟨b', o', y', p1, _, p3, p4⟩ := (a4.2.1.now F4.wf).ix Dw.len .i64 0 (by omega) (by omega)
    have : y' = y := by
      rw [ey] at p4; simpa using p4.symm
    subst this
    simp (maxSteps := 1000000) (disch := omega) only [evs, ↓reduceIte, Nat.reduceEqDiff, Nat.reduceAdd, Nat.reduceMul, Nat.reduceLeDiff, Nat.reduceLT, Int.reduceNeg, DF, eff, Nat.reduceSub, fwrap_i64, g1, g2, g3, x24, p1, p3]
    refine OQ_does (wOf_ok F4.wf (a4.2.2.1 y' (by rw [ey]; simp))) ?_
    rintro _ h5 ⟨r, rfl, er, Sr, F5⟩
    have hr5 := Sr.now F5.wf
    have nn := F5.next
    simp (maxSteps := 1000000) (disch := omega) only [evs, ↓reduceIte, Nat.reduceEqDiff, Nat.reduceAdd, Nat.reduceMul, Nat.reduceLeDiff, Nat.reduceLT, Int.reduceNeg, DF, eff, Nat.reduceSub, fwrap_i64, g1, g2, g3]
    refine store_step (c' := (⟨x.off, v, A, true, r⟩ : Sc).cells) F5.wf (F5.get o4) rfl hr5.one rfl ?_
    intro h6 o6 F6 n6
    have F06 : Fr [b3] hh h6 := (F4.trans F5 F.wf (T := [b3]) (fun y m => .inl m) (by simp)).trans F6 F.wf (fun y m => .inl m) (fun y m => .inl m)
    obtain ⟨f1, f2, f3, f4⟩ := fin true r h6 env F06 o6 ((Sr.fr F5.wf F6 (by intro y m; rw [List.mem_singleton.1 m]; exact .inl fun q => by omega)).wk fun y _ q => ⟨by omega, fun m => by have := vlt y m; omega⟩) (by simp [c]) (by rw [er, ey]; rfl)
    simp (maxSteps := 1000000) (disch := omega) only [evs, ↓reduceIte, Nat.reduceEqDiff, Nat.reduceAdd, Nat.reduceMul, Nat.reduceLeDiff, Nat.reduceLT, Int.reduceNeg, DF, eff, Nat.reduceSub, fwrap_i64, g1, g2, g3, f1]
    refine store_step (c' := (⟨x.off, v, A, true, r⟩ : Sc).cells) F6.wf f3 rfl f2 rfl ?_
    intro h7 o7 F7 n7
    obtain ⟨f5, f6⟩ := f4 h7 o7 F7
    simp (maxSteps := 1000000) (disch := omega) only [evs, ↓reduceIte, Nat.reduceEqDiff, Nat.reduceAdd, Nat.reduceMul, Nat.reduceLeDiff, Nat.reduceLT, Int.reduceNeg, DF, eff, Nat.reduceSub, fwrap_i64, g1, g2, g3, f5]
    exact f6
  · have e0 : x.heads = [] := List.length_eq_zero_iff.1 (by omega)
    obtain ⟨f1, f2, f3, f4⟩ := fin false zR hh env (Fr.refl F.wf) os (fun _ h' _ _ => zR_ok h') (by simp [e0]) (by rw [e0]; rfl)
    simp (maxSteps := 1000000) (disch := omega) only [evs, ↓reduceIte, Nat.reduceEqDiff, Nat.reduceAdd, Nat.reduceMul, Nat.reduceLeDiff, Nat.reduceLT, Int.reduceNeg, DF, eff, Nat.reduceSub, fwrap_i64, tT, g1, g2, g3, x2, hr.len, show ¬ (0 : Int) < x.heads.length by omega, f1]
    refine store_step (c' := (⟨x.off, v, A, false, zR⟩ : Sc).cells) F.wf f3 rfl f2 rfl ?_
    intro h7 o7 F7 n7
    obtain ⟨f5, f6⟩ := f4 h7 o7 F7
    simp (maxSteps := 1000000) (disch := omega) only [evs, ↓reduceIte, Nat.reduceEqDiff, Nat.reduceAdd, Nat.reduceMul, Nat.reduceLeDiff, Nat.reduceLT, Int.reduceNeg, DF, eff, Nat.reduceSub, fwrap_i64, g1, g2, g3, f5]
    exact f6
theorem tOf_ok {h : Heap} {x : Dt} (w : WF h) (a : DtH h x) : Does go 9 [.agg x.cells] h (TO h x) := by
  have oner : x.vr.one = true := (a.1.1.now w).one
  have oneh : x.vh.one = true := (a.2.1.now w).one
  obtain ⟨h1, e_h1⟩ : ∃ h1, h1 = halloc h x.cells := ⟨_, rfl⟩
  have F_h1 : Fr [] h h1 := e_h1 ▸ Fr.halloc w _
  have o_h1 : Own h1 h.next x.cells := e_h1 ▸ Own.new w _
  obtain ⟨h2, e_h2⟩ : ∃ h2, h2 = halloc h1 [.int .i64 0, .nils, .bool false, .int .u64 0, .int .i64 0, .int .i64 0, .int .u8 0, .str [], .str [], .nils, .str [], .nils] := ⟨_, rfl⟩
  have F_h2 : Fr [] h1 h2 := e_h2 ▸ Fr.halloc F_h1.wf _
  have o_h2 : Own h2 h1.next [.int .i64 0, .nils, .bool false, .int .u64 0, .int .i64 0, .int .i64 0, .int .u8 0, .str [], .str [], .nils, .str [], .nils] := e_h2 ▸ Own.new F_h1.wf _
  have n1 := hnx e_h1
  have n2 := hnx e_h2
  have F2 := F_h1.then F_h2
  have o1 := F_h2.get o_h1
  have a0 : hload1 h2 h.next 0 = some (.int .i64 x.off) := o1.ld1 0
  obtain ⟨h3, e_h3⟩ : ∃ h3, h3 = halloc h2 [.int .i64 0, .nils, .bool false, .int .u64 0, .int .i64 0, .int .i64 0, .int .u8 0, .str [], .str [], .nils, .str [], .nils] := ⟨_, rfl⟩
  have F_h3 : Fr [] h2 h3 := e_h3 ▸ Fr.halloc F2.wf _
  have o_h3 : Own h3 h2.next [.int .i64 0, .nils, .bool false, .int .u64 0, .int .i64 0, .int .i64 0, .int .u8 0, .str [], .str [], .nils, .str [], .nils] := e_h3 ▸ Own.new F2.wf _
  have n3 := hnx e_h3
  refine does_fn g9x rfl ?_
  simp (maxSteps := 1000000) (disch := omega) only [evs, ↓reduceIte, Nat.reduceEqDiff, Nat.reduceAdd, Nat.reduceMul, Nat.reduceLeDiff, Nat.reduceLT, Int.reduceNeg, DF, eff, Nat.reduceSub, fwrap_i64, fn9x, ← e_h1, ← e_h2, a0, ← e_h3]
  refine store_step (c' := (⟨x.off, .nils, [], false, zR⟩ : Sc).cells) F_h3.wf o_h3 rfl rfl rfl ?_
  intro h4 o4 F4 n4
  have F24 : Fr [] h2 h4 := F_h3.fresh F4 F2.wf (Nat.le_refl _)
  have F04 := F2.then F24
  simp (maxSteps := 1000000) (disch := omega) only [evs, ↓reduceIte, Nat.reduceEqDiff, Nat.reduceAdd, Nat.reduceMul, Nat.reduceLeDiff, Nat.reduceLT, Int.reduceNeg, DF, eff, Nat.reduceSub, fwrap_i64]
  refine W_loop (fun n env hh => Fr [] h hh ∧ h4.next ≤ hh.next ∧ Own hh h.next x.cells ∧ Own hh h1.next z12 ∧ ∃ (i : Nat) (v : V) (A : List Rw), env.get 4 = some (.int .i64 i) ∧ env.get 1 = some (.ptr h.next 0) ∧ env.get 2 = some (.ptr h1.next 0) ∧ env.get 3 = some (.ptr h2.next 0) ∧
      Own hh h2.next (⟨x.off, v, [], false, zR⟩ : Sc).cells ∧ i ≤ x.rows.length ∧ i ≤ 6 ∧ Gs hh h3.next 9 v (A.flatMap Rw.cells) ∧ Stab (fun y => h3.next ≤ y ∧ y ∉ vb v) hh (fun h => ∀ r ∈ A, RwH h r) ∧ A.map Rw.c = (x.rows.take i).map Dw.c ∧ n = 6 - i) 6 (by omega) ?_ ?_
  · exact ⟨F04, Nat.le_refl _, F24.get o1, F24.get o_h2, 0, .nils, [], (by simp [T.get_set]), (by simp [T.get_set]), (by simp [T.get_set]), (by simp [T.get_set]), o4, by omega, by omega, .inl ⟨rfl, rfl⟩, (fun _ _ _ _ => by simp), rfl, rfl⟩
  · rintro n env hh ⟨F, hn, ox, oz, i, v, A, g4, g1, g2, g3, os, hi, hi6, G, S, eA, rfl⟩
    have lA : A.length = i := by
      have := congrArg List.length eA
      simp at this; omega
    have onev : v.one = true := G.one
    have rr := (a.1.fr w F).1.now F.wf
    have x1 : hload1 hh h.next 1 = some x.vr := ox.ld1 1
    have s1 : hload1 hh h2.next 1 = some v := os.ld1 1
    by_cases c1 : i < x.rows.length
    · by_cases c2 : i < 6
      · obtain ⟨b1, o1', y, p1, _, p3, p4⟩ := rr.ix Dw.len .i64 (i : Int) (by omega) (by have := a.1.2.2; omega)
        rw [Int.toNat_natCast] at p4
        have hy := (a.1.fr w F).2.1 y (List.mem_of_getElem? p4)
        simp (maxSteps := 1000000) (disch := omega) only [evs, ↓reduceIte, Nat.reduceEqDiff, Nat.reduceAdd, Nat.reduceMul, Nat.reduceLeDiff, Nat.reduceLT, Int.reduceNeg, DF, eff, Nat.reduceSub, fwrap_i64, g4, g1, g2, g3, x1, s1, rr.len, show (i : Int) < x.rows.length by omega, show (i : Int) < 6 by omega, p1, p3]
        refine OQ_does (wOf_ok F.wf hy) ?_
        rintro _ h5 ⟨r, rfl, er, Sr, F5⟩
        have s15 : hload1 h5 h2.next 1 = some v := (F5.get os).ld1 1
        have x15 : hload1 h5 h.next 1 = some x.vr := (F5.get ox).ld1 1
        have hnn := F5.next
        have vlt := G.lt F.wf
        have hr := Sr.now F5.wf
        have F6 := Fr.halloc F5.wf r.cells
        have s16 : hload1 (halloc h5 r.cells) h2.next 1 = some v := (F6.get (F5.get os)).ld1 1
        have x16 : hload1 (halloc h5 r.cells) h.next 1 = some x.vr := (F6.get (F5.get ox)).ld1 1
        simp (maxSteps := 1000000) (disch := omega) only [evs, ↓reduceIte, Nat.reduceEqDiff, Nat.reduceAdd, Nat.reduceMul, Nat.reduceLeDiff, Nat.reduceLT, Int.reduceNeg, DF, eff, Nat.reduceSub, fwrap_i64, g4, g1, g2, g3, x1, s1, p1, p3, s15, x15, show r.cells.length = 9 from rfl, show updO [.int .u64 0, .int .i64 0, .int .i64 0, .int .u8 0, .str [], .str [], .nils, .str [], .nils] 0 r.cells = some r.cells from rfl]
        refine rpush_ok (C := fun y => h3.next ≤ y) (x := r) F5.wf (G.fr F5) (by omega) (S.fr0 F.wf F5) (Sr.wk fun y _ p => ⟨by omega, fun m => by have := vlt y m; omega⟩) (by omega) ?_
        intro v' h7 G7 S7 _ F7
        have onev' : v'.one = true := G7.one
        have ge := G.ge
        have F07 : Fr (vb v) hh h7 := F5.trans F7 F.wf (by simp) (fun x m => .inl m)
        have os7 := F07.own _ _ (fun m => by have := ge _ m; omega) os
        have ox7 := F07.own _ _ (fun m => by have := ge _ m; omega) ox
        have oz7 := F07.own _ _ (fun m => by have := ge _ m; omega) oz
        have s17 : hload1 h7 h2.next 1 = some v := os7.ld1 1
        have x17 : hload1 h7 h.next 1 = some x.vr := ox7.ld1 1
        simp (maxSteps := 1000000) (disch := omega) only [evs, ↓reduceIte, Nat.reduceEqDiff, Nat.reduceAdd, Nat.reduceMul, Nat.reduceLeDiff, Nat.reduceLT, Int.reduceNeg, DF, eff, Nat.reduceSub, fwrap_i64, g4, g1, g2, g3, x1, s1, p1, p3, s15, x15, s16, x16, s17, x17]
        refine store_step (c' := (⟨x.off, v', [], false, zR⟩ : Sc).cells) F7.wf os7 (by rw [cells_one onev']; rfl) (by rw [cells_one onev']; simp [onesB_cons, onesB_nil, onev']) (by rw [cells_one onev']; rfl) ?_
        intro h8 o8 F8 n8
        have s18 : hload1 h8 h2.next 1 = some v' := o8.ld1 1
        have nn7 := F07.next
        have F08 : Fr [] h h8 := (F.trans F07 w (T := []) (by simp) (fun x m => .inr (by have := ge x m; have := F04.next; omega))).fresh F8 w (by omega)
        simp (maxSteps := 1000000) (disch := omega) only [evs, ↓reduceIte, Nat.reduceEqDiff, Nat.reduceAdd, Nat.reduceMul, Nat.reduceLeDiff, Nat.reduceLT, Int.reduceNeg, DF, eff, Nat.reduceSub, fwrap_i64, g4, g1, g2, g3, x1, s1, p1, p3, s15, x15, s16, x16, s17, x17]
        refine (roundQ_norm _ _ _).2 ⟨6 - (i + 1), by omega, F08, by omega, F8.own _ _ (by simp; omega) ox7, F8.own _ _ (by simp; omega) oz7, i + 1, v', A ++ [r], (by simp [T.get_set]), (by simp [T.get_set, g1]), (by simp [T.get_set, g2]), (by simp [T.get_set, g3]), o8, by omega, by omega, ?_, ?_, ?_, rfl⟩
        · exact (Stab.gs F7.wf G7 (P := fun y => h3.next ≤ y) fun y m => G7.ge y m) _ _ (by intro y m; rw [List.mem_singleton.1 m]; exact .inl fun p => by omega) F8
        · exact S7.fr F7.wf F8 (by intro y m; rw [List.mem_singleton.1 m]; exact .inl fun p => by omega)
        · rw [List.map_append, eA, List.take_add_one, p4, List.map_append]
          simp [er]
      · simp (maxSteps := 1000000) (disch := omega) only [evs, ↓reduceIte, Nat.reduceEqDiff, Nat.reduceAdd, Nat.reduceMul, Nat.reduceLeDiff, Nat.reduceLT, Int.reduceNeg, DF, eff, Nat.reduceSub, fwrap_i64, g4, g1, g2, g3, x1, s1, rr.len, show (i : Int) < x.rows.length by omega, show ¬ (i : Int) < 6 by omega]
        have : i = 6 := by omega
        subst this
        exact tT_ok w F (Nat.le_refl _) (by omega : h.next < h1.next) (by omega : h1.next < h2.next) (by omega) ox oz os (by rw [← n3]; exact G) (by rw [← n3]; exact S) (by rw [eA]) (a.fr w F) (by simp [T.get_set, g1]) (by simp [T.get_set, g2]) (by simp [T.get_set, g3]) (fun _ _ q => q)
    · simp (maxSteps := 1000000) (disch := omega) only [evs, ↓reduceIte, Nat.reduceEqDiff, Nat.reduceAdd, Nat.reduceMul, Nat.reduceLeDiff, Nat.reduceLT, Int.reduceNeg, DF, eff, Nat.reduceSub, fwrap_i64, g4, g1, g2, g3, x1, s1, rr.len, show ¬ (i : Int) < x.rows.length by omega]
      exact tT_ok w F (Nat.le_refl _) (by omega : h.next < h1.next) (by omega : h1.next < h2.next) (by omega) ox oz os (by rw [← n3]; exact G) (by rw [← n3]; exact S) (by rw [eA]; rw [List.take_of_length_le (by omega), List.take_of_length_le (by omega)]) (a.fr w F) (by simp [T.get_set, g1]) (by simp [T.get_set, g2]) (by simp [T.get_set, g3]) (fun _ _ q => q)
def x1 (t : Int) : Int := fwrap .i64 (BitVec.toNat (BitVec.ofInt IntKind.i64.bits t ^^^ BitVec.ofInt IntKind.i64.bits 1))
theorem aP_xor1 (t : Int) : aP (.ib .xor) [.int .i64 t, .int .i64 1] = some (.int .i64 (x1 t)) := by
  simp only [aP, kbeq_self, cond_true, ibin]; rfl
theorem x1_ne {t : Int} (h : R64 t) : x1 t ≠ t := by
  intro e
  have e1 : (BitVec.ofInt 64 t ^^^ BitVec.ofInt 64 1).toNat % 2 = ((BitVec.ofInt 64 t).toNat + 1) % 2 := by
    rw [BitVec.toNat_xor]
    have q := Nat.testBit_xor (BitVec.ofInt 64 t).toNat (BitVec.ofInt 64 1).toNat 0
    rw [show (BitVec.ofInt 64 1).toNat = 1 from rfl] at q ⊢
    simp only [Nat.testBit_zero] at q
    generalize (BitVec.ofInt 64 t).toNat = A at q ⊢
    generalize A ^^^ 1 = X at q ⊢
    rcases Nat.mod_two_eq_zero_or_one A with z | z <;> rcases Nat.mod_two_eq_zero_or_one X with y | y
    · rw [z, y] at q; exact absurd q (by decide)
    · omega
    · omega
    · rw [z, y] at q; exact absurd q (by decide)
  have e2 : (BitVec.ofInt 64 t).toNat = (t % 18446744073709551616).toNat := by rw [BitVec.toNat_ofInt]; rfl
  rw [e2] at e1
  have lt : (BitVec.ofInt 64 t ^^^ BitVec.ofInt 64 1).toNat < 18446744073709551616 := BitVec.isLt _
  unfold x1 at e
  have e3 : IntKind.i64.bits = 64 := rfl
  rw [e3] at e
  generalize (BitVec.ofInt 64 t ^^^ BitVec.ofInt 64 1).toNat = m at *
  obtain ⟨h1, h2⟩ := h
  rw [fwrap_eq] at e
  simp only [IntKind.wrap, IntKind.bits, IntKind.signed] at e
  simp at e
  omega
theorem u1_ne {t : Int} (h0 : 0 ≤ t) (h1 : t ≤ 18446744073709551615) : fwrap .u64 (t + 1) ≠ t := by
  rw [fwrap_eq]
  simp only [IntKind.wrap, IntKind.bits, IntKind.signed]
  simp
  omega
theorem rowD_self (z : CR) : rowD z z = [] := by simp [rowD, (sameB_eq z z).2 rfl]
theorem rowsD_self : ∀ l : List CR, rowsD l l = []
  | [] => rfl
  | x :: l => by simp [rowsD, rowD_self, rowsD_self l]
theorem rowsD_set : ∀ (l : List CR) (k : Nat) (x y : CR), l[k]? = some x → rowsD l (l.set k y) = rowD x y ∧ rowsD (l.set k y) l = rowD y x
  | [], _, _, _, h => by simp at h
  | z :: l, 0, x, y, h => by
    simp at h; subst h
    simp only [List.set_cons_zero, rowsD, rowsD_self]
    constructor
    · split
      · rename_i q; exact q.symm
      · rfl
    · split
      · rename_i q; exact q.symm
      · rfl
  | z :: l, k + 1, x, y, h => by
    have := rowsD_set l k x y (by simpa using h)
    simpa [rowsD, rowD_self] using this
theorem diffD_self (C : CS) : diffD C C = [] := by simp [diffD, (SameB_eq C C).2 rfl]
theorem diffD_ne {a b : CS} (h : a ≠ b) : diffD a b = if a.off ≠ b.off then wOff else if a.rows.length ≠ b.rows.length then wRows else if rowsD a.rows b.rows ≠ [] then rowsD a.rows b.rows else if a.pin ≠ b.pin then wPin else wHead := by
  unfold diffD
  rw [if_neg (fun q => h ((SameB_eq a b).1 q))]
def Both (a b : CS) (z : Str) : Prop := diffD a b = z ∧ diffD b a = z
theorem Both.self (C : CS) : Both C C [] := ⟨diffD_self C, diffD_self C⟩
theorem Both.off {C : CS} {o : Int} (h : o ≠ C.off) : Both C { C with off := o } wOff := by
  have n1 : C ≠ { C with off := o } := fun e => h (congrArg CS.off e).symm
  exact ⟨by rw [diffD_ne n1, if_pos (fun e => h e.symm)], by rw [diffD_ne n1.symm, if_pos h]⟩
theorem Both.rows {C : CS} {y : CR} : Both C { C with rows := C.rows ++ [y] } wRows := by
  have n1 : C ≠ { C with rows := C.rows ++ [y] } := fun e => by
    have := congrArg (fun c => c.rows.length) e
    simp at this
  exact ⟨by rw [diffD_ne n1]; simp, by rw [diffD_ne n1.symm]; simp⟩
theorem Both.set {C : CS} {k : Nat} {x y : CR} {z : Str} (e : C.rows[k]? = some x) (h1 : rowD x y = z) (h2 : rowD y x = z) (hz : z ≠ []) : Both C { C with rows := C.rows.set k y } z := by
  have n1 : C ≠ { C with rows := C.rows.set k y } := fun q => by
    have q' : C.rows = C.rows.set k y := congrArg CS.rows q
    have := (rowsD_set C.rows k x y e).1
    rw [← q', rowsD_self, h1] at this
    exact hz this.symm
  obtain ⟨r1, r2⟩ := rowsD_set C.rows k x y e
  exact ⟨by rw [diffD_ne n1]; simp [r1, h1, hz], by rw [diffD_ne n1.symm]; simp [r2, h2, hz]⟩
theorem Both.pin {C : CS} : Both C { C with pin := !C.pin } wPin := by
  have n1 : C ≠ { C with pin := !C.pin } := fun e => by
    have := congrArg CS.pin e
    simp at this
  exact ⟨by rw [diffD_ne n1]; simp [rowsD_self], by rw [diffD_ne n1.symm]; simp [rowsD_self]⟩
theorem Both.head {C : CS} {d : CR} (h : d ≠ C.hd) : Both C { C with hd := d } wHead := by
  have n1 : C ≠ { C with hd := d } := fun e => h (congrArg CS.hd e).symm
  exact ⟨by rw [diffD_ne n1]; simp [rowsD_self], by rw [diffD_ne n1.symm]; simp [rowsD_self]⟩
theorem updO_flat {α : Type} {f : α → List V} {m : Nat} (hf : ∀ x, (f x).length = m) {L : List α} {i j : Nat} {x x' : α} {vs : List V} (e : L[i]? = some x) (h : j + vs.length ≤ m) (u : updO (f x) j vs = some (f x')) :
    updO (L.flatMap f) (i * m + j) vs = some ((L.set i x').flatMap f) := by
  have hi : i < L.length := (List.getElem?_eq_some_iff.1 e).1
  have eL : L = L.take i ++ x :: L.drop (i + 1) := by rw [← drop_cons e, List.take_append_drop]
  have eS : L.set i x' = L.take i ++ x' :: L.drop (i + 1) := by rw [List.set_eq_take_append_cons_drop, if_pos hi]
  have lA : ((L.take i).flatMap f).length = i * m := by rw [flat_len hf, List.length_take, Nat.min_eq_left (by omega)]
  rw [updO_at _ _ _ (by rw [hf]; exact h)] at u
  have u' := Option.some.inj u
  have eF : L.flatMap f = (L.take i).flatMap f ++ (f x ++ (L.drop (i + 1)).flatMap f) := by
    conv => lhs; rw [eL]
    rw [List.flatMap_append, List.flatMap_cons]
  rw [eS, List.flatMap_append, List.flatMap_cons, eF, updO_at _ _ _ (by simp [lA, hf]; omega), ← u']
  congr 1
  have lx := hf x
  rw [← lA, List.take_length_add_append, Nat.add_assoc, List.drop_length_add_append, List.take_append_of_le_length (by omega), List.drop_append_of_le_length (by omega)]
  simp [List.append_assoc]
def fz : IC := (.seq (.ops [⟨none, .ld 12 true (.v 7), none⟩, ⟨none, .ld 12 true (.v 8), none⟩, ⟨none, .cf 16 [.l 1, .l 0], none⟩, ⟨none, .p (.sb .eql) [.l 0, .v 9], none⟩, ⟨(some (.l 0, true)), .ld 12 true (.v 8), none⟩, ⟨(some (.l 1, true)), .ld 12 true (.v 7), none⟩, ⟨(some (.l 2, true)), .cf 16 [.l 1, .l 0], none⟩, ⟨(some (.l 3, true)), .p .mv [.v 9], none⟩, ⟨(some (.l 4, true)), .p (.sb .eql) [.l 1, .l 0], none⟩, ⟨none, .p .pick [.l 5, .l 0, .c (.bool false)], none⟩, ⟨(some (.l 0, true)), .cf 8 [], none⟩, ⟨none, .p .pick [.l 1, .l 0, .c (.bool false)], none⟩, ⟨none, .p .mv [.l 0], some 6⟩]) (.ret))
def sw : IC := (.block 0 (.seq (.ops [⟨none, .p (.ib .eql) [.v 13, .c (.int .u8 0)], none⟩, ⟨none, .p .mv [.l 0], some 33⟩]) (.cond (.v 33) (.seq (.ops [⟨none, .p (.faddr 0) [.v 8], none⟩, ⟨none, .ld 1 false (.l 0), none⟩, ⟨none, .p (.ib .xor) [.l 0, .c (.int .i64 1)], none⟩, ⟨none, .p (.faddr 0) [.v 8], none⟩, ⟨none, .st 1 (.l 0) (.l 1), none⟩]) (.ops [⟨none, .p .mv [.c (.str [111, 102, 102, 115, 101, 116])], some 9⟩])) (.seq (.ops [⟨none, .p (.ib .eql) [.v 13, .c (.int .u8 1)], none⟩, ⟨none, .p .mv [.l 0], some 40⟩]) (.cond (.v 40) (.seq (.ops [⟨none, .p (.faddr 1) [.v 8], none⟩, ⟨none, .ld 1 false (.l 0), none⟩, ⟨none, .ld 9 true (.v 10), none⟩, ⟨none, .bs [(.int .u64 0), (.int .i64 0), (.int .i64 0), (.int .u8 0), (.str []), (.str []), .nils, (.str []), .nils] [(0, 9)] 1 [.l 0], none⟩, ⟨none, .ap 9 128 (.l 2) (.l 0), none⟩, ⟨none, .p (.faddr 1) [.v 8], none⟩, ⟨none, .st 1 (.l 0) (.l 1), none⟩]) (.ops [⟨none, .p .mv [.c (.str [114, 111, 119, 115])], some 9⟩])) (.seq (.ops [⟨none, .p (.ib .eql) [.v 13, .c (.int .u8 2)], none⟩, ⟨(some (.l 0, true)), .p .mv [.v 11], none⟩, ⟨(some (.l 1, true)), .p (.ib .gtr) [.l 0, .c (.int .i64 0)], none⟩, ⟨none, .p .pick [.l 2, .l 0, .c (.bool false)], none⟩, ⟨none, .p .mv [.l 0], some 49⟩]) (.cond (.v 49) (.seq (.dops [⟨none, .p (.faddr 1) [.v 8], none⟩, ⟨none, .ld 1 false (.l 0), none⟩, ⟨none, .p .mv [.v 12], none⟩, ⟨none, .p (.faddr 1) [.v 8], none⟩, ⟨none, .ld 1 false (.l 0), none⟩, ⟨none, .p .mv [.v 12], none⟩, ⟨none, .p (.ixs 9) [.l 1, .l 0], none⟩, ⟨none, .p (.faddr 0) [.l 0], none⟩, ⟨none, .ld 1 false (.l 0), none⟩, ⟨none, .p (.ib .add) [.l 0, .c (.int .u64 1)], none⟩, ⟨none, .p (.ixs 9) [.l 8, .l 7], none⟩, ⟨none, .p (.faddr 0) [.l 0], none⟩, ⟨none, .st 1 (.l 0) (.l 2), none⟩] [] [0, 1, 0, 0, 8, 0, 56, 120, 248, 504, 1023, 2047, 4095] [0, 1, 2, 3, 4, 5, 6, 7, 8, 9, 10, 11, 12] [(1, 0, 0), (4, 0, 0), (8, 0, 0)] []) (.seq (.dops [⟨none, .p (.faddr 1) [.v 8], none⟩, ⟨none, .ld 1 false (.l 0), none⟩, ⟨none, .p .mv [.v 12], none⟩, ⟨none, .p (.faddr 1) [.v 8], none⟩, ⟨none, .ld 1 false (.l 0), none⟩, ⟨none, .p .mv [.v 12], none⟩, ⟨none, .p (.ixs 9) [.l 1, .l 0], none⟩, ⟨none, .p (.faddr 1) [.l 0], none⟩, ⟨none, .ld 1 false (.l 0), none⟩, ⟨none, .p (.ib .xor) [.l 0, .c (.int .i64 1)], none⟩, ⟨none, .p (.ixs 9) [.l 8, .l 7], none⟩, ⟨none, .p (.faddr 1) [.l 0], none⟩, ⟨none, .st 1 (.l 0) (.l 2), none⟩] [] [0, 1, 0, 0, 8, 0, 56, 120, 248, 504, 1023, 2047, 4095] [0, 1, 2, 3, 4, 5, 6, 7, 8, 9, 10, 11, 12] [(1, 0, 0), (4, 0, 0), (8, 0, 0)] []) (.ops [⟨none, .p .mv [.c (.str [107, 101, 121])], some 9⟩]))) (.seq (.ops [⟨none, .p (.ib .eql) [.v 13, .c (.int .u8 3)], none⟩, ⟨(some (.l 0, true)), .p .mv [.v 11], none⟩, ⟨(some (.l 1, true)), .p (.ib .gtr) [.l 0, .c (.int .i64 0)], none⟩, ⟨none, .p .pick [.l 2, .l 0, .c (.bool false)], none⟩, ⟨none, .p .mv [.l 0], some 80⟩]) (.cond (.v 80) (.seq (.dops [⟨none, .p (.faddr 1) [.v 8], none⟩, ⟨none, .ld 1 false (.l 0), none⟩, ⟨none, .p .mv [.v 12], none⟩, ⟨none, .p (.faddr 1) [.v 8], none⟩, ⟨none, .ld 1 false (.l 0), none⟩, ⟨none, .p .mv [.v 12], none⟩, ⟨none, .p (.ixs 9) [.l 1, .l 0], none⟩, ⟨none, .p (.faddr 1) [.l 0], none⟩, ⟨none, .ld 1 false (.l 0), none⟩, ⟨none, .p (.ib .xor) [.l 0, .c (.int .i64 1)], none⟩, ⟨none, .p (.ixs 9) [.l 8, .l 7], none⟩, ⟨none, .p (.faddr 1) [.l 0], none⟩, ⟨none, .st 1 (.l 0) (.l 2), none⟩] [] [0, 1, 0, 0, 8, 0, 56, 120, 248, 504, 1023, 2047, 4095] [0, 1, 2, 3, 4, 5, 6, 7, 8, 9, 10, 11, 12] [(1, 0, 0), (4, 0, 0), (8, 0, 0)] []) (.seq (.ops [⟨none, .p (.faddr 1) [.v 8], none⟩, ⟨none, .ld 1 false (.l 0), none⟩, ⟨none, .p (.faddr 3) [.v 10], none⟩, ⟨none, .ld 6 true (.l 0), none⟩, ⟨none, .p (.ixs 9) [.l 2, .v 12], none⟩, ⟨none, .p (.faddr 3) [.l 0], none⟩, ⟨none, .st 6 (.l 0) (.l 2), none⟩]) (.ops [⟨none, .p .mv [.c (.str [116, 111, 112])], some 9⟩]))) (.seq (.ops [⟨none, .p (.ib .eql) [.v 13, .c (.int .u8 4)], none⟩, ⟨(some (.l 0, true)), .p .mv [.v 11], none⟩, ⟨(some (.l 1, true)), .p (.ib .gtr) [.l 0, .c (.int .i64 0)], none⟩, ⟨none, .p .pick [.l 2, .l 0, .c (.bool false)], none⟩, ⟨none, .p .mv [.l 0], some 106⟩]) (.cond (.v 106) (.seq (.dops [⟨none, .p (.faddr 1) [.v 8], none⟩, ⟨none, .ld 1 false (.l 0), none⟩, ⟨none, .p .mv [.v 12], none⟩, ⟨none, .p (.faddr 1) [.v 8], none⟩, ⟨none, .ld 1 false (.l 0), none⟩, ⟨none, .p .mv [.v 12], none⟩, ⟨none, .p (.ixs 9) [.l 1, .l 0], none⟩, ⟨none, .p (.faddr 2) [.l 0], none⟩, ⟨none, .ld 1 false (.l 0), none⟩, ⟨none, .p (.ib .xor) [.l 0, .c (.int .i64 1)], none⟩, ⟨none, .p (.ixs 9) [.l 8, .l 7], none⟩, ⟨none, .p (.faddr 2) [.l 0], none⟩, ⟨none, .st 1 (.l 0) (.l 2), none⟩] [] [0, 1, 0, 0, 8, 0, 56, 120, 248, 504, 1023, 2047, 4095] [0, 1, 2, 3, 4, 5, 6, 7, 8, 9, 10, 11, 12] [(1, 0, 0), (4, 0, 0), (8, 0, 0)] []) (.ops [⟨none, .p .mv [.c (.str [115, 105, 122, 101])], some 9⟩])) (.seq (.ops [⟨none, .p (.ib .eql) [.v 13, .c (.int .u8 5)], none⟩, ⟨(some (.l 0, true)), .p .mv [.v 11], none⟩, ⟨(some (.l 1, true)), .p (.ib .gtr) [.l 0, .c (.int .i64 0)], none⟩, ⟨none, .p .pick [.l 2, .l 0, .c (.bool false)], none⟩, ⟨none, .p .mv [.l 0], some 125⟩]) (.cond (.v 125) (.seq (.seq (.dops [⟨none, .p (.faddr 1) [.v 7], none⟩, ⟨none, .ld 1 false (.l 0), none⟩, ⟨none, .p .mv [.v 12], none⟩, ⟨none, .p (.ixs 9) [.l 1, .l 0], none⟩, ⟨none, .p (.faddr 3) [.l 0], none⟩, ⟨none, .ld 6 true (.l 0), none⟩, ⟨none, .p (.faddr 3) [.v 10], none⟩, ⟨none, .ld 6 true (.l 0), none⟩, ⟨none, .cf 15 [.l 2, .l 0], none⟩, ⟨none, .p .not [.l 0], none⟩] [] [0, 1, 0, 7, 15, 31, 0, 64, 255, 511] [0, 1, 2, 3, 4, 5, 6, 7, 8, 9] [(1, 0, 0), (5, 0, 0), (7, 0, 0)] [(141, 9)]) (.cond (.v 141) (.ops [⟨none, .p .mv [.c (.str [116, 114, 101, 101])], some 9⟩]) (.skip))) (.ops [⟨none, .p (.faddr 1) [.v 8], none⟩, ⟨none, .ld 1 false (.l 0), none⟩, ⟨none, .p (.faddr 3) [.v 10], none⟩, ⟨none, .ld 6 true (.l 0), none⟩, ⟨none, .p (.ixs 9) [.l 2, .v 12], none⟩, ⟨none, .p (.faddr 3) [.l 0], none⟩, ⟨none, .st 6 (.l 0) (.l 2), none⟩])) (.seq (.ops [⟨none, .p (.ib .eql) [.v 13, .c (.int .u8 6)], none⟩, ⟨none, .p .mv [.l 0], some 149⟩]) (.cond (.v 149) (.seq (.ops [⟨none, .p (.faddr 2) [.v 8], none⟩, ⟨none, .ld 1 false (.l 0), none⟩, ⟨none, .p .not [.l 0], none⟩, ⟨none, .p (.faddr 2) [.v 8], none⟩, ⟨none, .st 1 (.l 0) (.l 1), none⟩]) (.ops [⟨none, .p .mv [.c (.str [112, 105, 110, 110, 101, 100])], some 9⟩])) (.seq (.ops [⟨none, .p (.ib .eql) [.v 13, .c (.int .u8 7)], none⟩, ⟨none, .p .mv [.l 0], some 156⟩]) (.cond (.v 156) (.seq (.ops [⟨none, .p (.faddr 3) [.v 8], none⟩, ⟨none, .p (.faddr 1) [.l 0], none⟩, ⟨none, .ld 1 false (.l 0), none⟩, ⟨none, .p (.ib .xor) [.l 0, .c (.int .i64 1)], none⟩, ⟨none, .p (.faddr 3) [.v 8], none⟩, ⟨none, .p (.faddr 1) [.l 0], none⟩, ⟨none, .st 1 (.l 0) (.l 2), none⟩]) (.ops [⟨none, .p .mv [.c (.str [104, 101, 97, 100])], some 9⟩])) (.skip))))))))))))))))))
def mz : IC := (.seq (.ops [⟨none, .p (.ixa 3 1) [.v 4, .c (.int .i64 0)], none⟩, ⟨none, .ld 1 false (.l 0), none⟩, ⟨none, .p (.ib .rem) [.l 0, .c (.int .u8 9)], none⟩, ⟨none, .p .mv [.l 0], some 13⟩]) (.seq sw fz))
def fn5x : IFn := ⟨3, .seq (.ops [⟨none, .bx (.v 0), some 3⟩, ⟨none, .bx (.v 1), some 4⟩, ⟨none, .bx (.v 2), some 5⟩, ⟨none, .p .mv [.c (.bool false)], some 6⟩]) (.seq (.dops [⟨none, .ld 3 true (.v 3), none⟩, ⟨none, .cf 9 [.l 0], none⟩, ⟨none, .ld 3 true (.v 3), none⟩, ⟨none, .cf 9 [.l 0], none⟩, ⟨none, .al [(.int .i64 0), .nils, (.bool false), (.int .u64 0), (.int .i64 0), (.int .i64 0), (.int .u8 0), (.str []), (.str []), .nils, (.str []), .nils], none⟩, ⟨none, .al [(.int .i64 0), .nils, (.bool false), (.int .u64 0), (.int .i64 0), (.int .i64 0), (.int .u8 0), (.str []), (.str []), .nils, (.str []), .nils], none⟩, ⟨none, .st 12 (.l 1) (.l 4), none⟩, ⟨none, .st 12 (.l 1) (.l 3), none⟩] [4, 5] [0, 1, 0, 7, 0, 0, 63, 127] [0, 1, 2, 3, 4, 5, 6, 7] [(0, 0, 0), (2, 0, 1)] [(7, 4), (8, 5)]) (.seq (.ops [⟨none, .p .mv [.c (.str [])], some 9⟩]) (.seq (.ops [⟨none, .ld 6 true (.v 5), none⟩, ⟨none, .cf 14 [.l 0], none⟩, ⟨none, .al [(.int .u64 0), (.int .i64 0), (.int .i64 0), (.int .u8 0), (.str []), (.str []), .nils, (.str []), .nils], some 10⟩, ⟨none, .st 9 (.v 10) (.l 0), none⟩]) (.seq (.ops [⟨none, .p (.faddr 1) [.v 8], none⟩, ⟨none, .ld 1 false (.l 0), none⟩, ⟨none, .p .lenS [.l 0], none⟩, ⟨none, .p .mv [.l 0], some 11⟩]) (.seq (.ops [⟨none, .p .mv [.c (.int .i64 0)], some 12⟩]) (.seq (.seq (.ops [⟨none, .p (.ib .gtr) [.v 11, .c (.int .i64 0)], some 24⟩]) (.cond (.v 24) (.ops [⟨none, .p (.ixa 3 1) [.v 4, .c (.int .i64 1)], none⟩, ⟨none, .ld 1 false (.l 0), none⟩, ⟨none, .p (.conv .i64) [.l 0], none⟩, ⟨none, .p (.ib .rem) [.l 0, .v 11], none⟩, ⟨none, .p .mv [.l 0], some 12⟩]) (.skip))) mz)))))), [.t 6], [0, 1, 2, 3, 4, 5, 6, 7, 8, 9, 10, 11, 12, 13, 24, 33, 40, 49, 80, 106, 125, 141, 149, 156]⟩
theorem g5x : F.get 5 = some fn5x := rfl
set_option maxRecDepth 4000
def Wn (pa pb pr : Nat) (v : V) (y : Nat) : Prop := y ≠ pa ∧ y ≠ pb ∧ y ≠ pr ∧ y ∉ vb v
structure SwS (h0 hh : Heap) (env : T V) (pa pb pr : Nat) (a b : Sc) (r : Rw) (k j : Nat) : Prop where
  w0 : WF h0
  F : Fr [] h0 hh
  g7 : env.get 7 = some (.ptr pa 0)
  g8 : env.get 8 = some (.ptr pb 0)
  g9 : env.get 9 = some (.str [])
  g10 : env.get 10 = some (.ptr pr 0)
  g11 : env.get 11 = some (.int .i64 (b.rows.length : Int))
  g12 : env.get 12 = some (.int .i64 (k : Int))
  g13 : env.get 13 = some (.int .u8 (j : Int))
  oa : Own hh pa a.cells
  ob : Own hh pb b.cells
  or : Own hh pr r.cells
  na : h0.next ≤ pa
  nb : h0.next ≤ pb
  nr : h0.next ≤ pr
  dab : pa ≠ pb
  dar : pa ≠ pr
  dbr : pb ≠ pr
  va : pa ∉ vb b.vr
  vbb : pb ∉ vb b.vr
  vr : pr ∉ vb b.vr
  Gb : Gs hh h0.next 9 b.vr (b.rows.flatMap Rw.cells)
  Sa : Stab (Wn pa pb pr b.vr) hh fun h => ScH h a
  Sb : Stab (Wn pa pb pr b.vr) hh fun h => (∀ x ∈ b.rows, RwH h x) ∧ RwH h b.hd
  Sr : Stab (Wn pa pb pr b.vr) hh fun h => RwH h r
  ec : a.c = b.c
  lb : b.rows.length ≤ 6
  kn : 0 < b.rows.length → k < b.rows.length
  ok : ∀ x ∈ b.rows, x.c.ok
  okr : r.c.ok
  off : R64 b.off
  okh : R64 b.hd.top
def SwK (h0 : Heap) (pa pb : Nat) (a : Sc) (Q : Ex → T V → Heap → Prop) : Prop := ∀ (env : T V) (h' : Heap) (b' : Sc) (z : Str), env.get 7 = some (.ptr pa 0) → env.get 8 = some (.ptr pb 0) → env.get 9 = some (.str z) → Own h' pa a.cells → Own h' pb b'.cells → ScH h' a → ScH h' b' →
  Both a.c b'.c z → Fr [] h0 h' → Q .norm env h'
section
variable {h0 hh : Heap} {env : T V} {pa pb pr k j : Nat} {a b : Sc} {r : Rw} {Q : Ex → T V → Heap → Prop}
theorem SwS.one (s : SwS h0 hh env pa pb pr a b r k j) : b.vr.one = true := s.Gb.one
theorem SwS.sl (s : SwS h0 hh env pa pb pr a b r k j) : Recs Rw.cells 9 hh b.vr b.rows := Gs.sl s.Gb (flat_len Rw.len _) (by omega)
theorem SwS.ends (s : SwS h0 hh env pa pb pr a b r k j) {b' : Sc} {h' : Heap} {z : Str} {env' : T V} (K : SwK h0 pa pb a Q) (F' : Fr [pb] hh h') (o' : Own h' pb b'.cells) (ev : b'.vr = b.vr) (er : b'.rows = b.rows) (eh : RwH h' b.hd → RwH h' b'.hd)
    (c : Both b.c b'.c z) (e7 : env'.get 7 = some (.ptr pa 0)) (e8 : env'.get 8 = some (.ptr pb 0)) (e9 : env'.get 9 = some (.str z)) : Q .norm env' h' := by
  have hx : ∀ x ∈ [pb], ¬ Wn pa pb pr b.vr x ∨ hh.next ≤ x := by intro x m; rw [List.mem_singleton.1 m]; exact .inl fun p => p.2.1 rfl
  have sb := s.Sb [pb] h' hx F'
  have G : Gs h' h0.next 9 b.vr (b.rows.flatMap Rw.cells) := (Stab.gs s.F.wf s.Gb (P := fun y => y ∈ vb b.vr) fun y m => m) [pb] h' (by intro x m; rw [List.mem_singleton.1 m]; exact .inl s.vbb) F'
  refine K env' h' b' z e7 e8 e9 (F'.own _ _ (by simpa using s.dab) s.oa) o' (s.Sa [pb] h' hx F') ⟨⟨?_, ?_, ?_⟩, eh sb.2⟩ (by rw [s.ec]; exact c) (s.F.trans F' s.w0 (by simp) (fun x m => .inr (by rw [List.mem_singleton.1 m]; exact s.nb)))
  · rw [ev, er]; exact Gs.sl G (flat_len Rw.len _) (by omega)
  · rw [er]; exact sb.1
  · rw [er]; have := s.lb; omega
theorem SwS.arr (s : SwS h0 hh env pa pb pr a b r k j) (hb : 0 < b.rows.length) : ∃ y x m, b.vr = .sliceU y 0 m 9 ∧ vb b.vr = [y] ∧ m = b.rows.length ∧ Own hh y (b.rows.flatMap Rw.cells) ∧ b.rows[k]? = some x ∧ aP (.ixs 9) [b.vr, .int .i64 (k : Int)] = some (.ptr y (k * 9)) := by
  have kn := s.kn hb
  have fl := flat_len Rw.len b.rows
  rcases s.Gb with ⟨_, e⟩ | ⟨y, m, e, hl, _, _, o⟩
  · rw [e] at fl; simp at fl; omega
  · have hm : m = b.rows.length := by omega
    refine ⟨y, b.rows[k], m, e, by rw [e]; rfl, hm, o, List.getElem?_eq_getElem kn, ?_⟩
    rw [e, aP_ixU _ _ _ _ _ _ _ (by omega) (by omega)]
    simp
theorem SwS.endr (s : SwS h0 hh env pa pb pr a b r k j) {y : Nat} {x x' : Rw} {h' : Heap} {z : Str} {env' : T V} (K : SwK h0 pa pb a Q) (hy : vb b.vr = [y]) (F' : Fr [y] hh h') (o' : Own h' y ((b.rows.set k x').flatMap Rw.cells)) (hx : b.rows[k]? = some x) (eh : RwH h' x → RwH h' r → RwH h' x')
    (cB : Both b.c { b.c with rows := b.c.rows.set k x'.c } z) (e7 : env'.get 7 = some (.ptr pa 0)) (e8 : env'.get 8 = some (.ptr pb 0)) (e9 : env'.get 9 = some (.str z)) : Q .norm env' h' := by
  have hX : ∀ q ∈ [y], ¬ Wn pa pb pr b.vr q ∨ hh.next ≤ q := by intro q m; rw [List.mem_singleton.1 m]; exact .inl fun p => p.2.2.2 (by rw [hy]; simp)
  have sb := s.Sb [y] h' hX F'
  have sr := s.Sr [y] h' hX F'
  have ge := s.Gb.ge y (by rw [hy]; simp)
  have va := s.va
  have vbb := s.vbb
  rw [hy] at va vbb
  have fl := flat_len Rw.len b.rows
  obtain ⟨m, em, ml⟩ : ∃ m, b.vr = .sliceU y 0 m 9 ∧ m = b.rows.length := by
    rcases s.Gb with ⟨e, _⟩ | ⟨b', m, e, hl, _, _, _⟩
    · rw [e] at hy; simp [vb] at hy
    · rw [e] at hy; simp only [vb, List.cons.injEq, and_true] at hy; subst hy; exact ⟨m, e, by omega⟩
  refine K env' h' { b with rows := b.rows.set k x' } z e7 e8 e9 (F'.own _ _ va s.oa) (F'.own _ _ vbb s.ob) (s.Sa [y] h' hX F') ⟨⟨?_, ?_, by simp; have := s.lb; omega⟩, sb.2⟩ ?_ (s.F.trans F' s.w0 (by simp) (fun q m => .inr (by rw [List.mem_singleton.1 m]; exact ge)))
  · show Sl h' 9 b.vr _ _
    rw [em]
    refine ⟨flat_len Rw.len _, by simp [ml], rfl, _, o', by rw [flat_len Rw.len]; show 0 + (b.rows.set k x').length * 9 ≤ (b.rows.set k x').length * 9; omega, ?_⟩
    rw [List.drop_zero, List.take_of_length_le (by rw [flat_len Rw.len]; exact Nat.le_refl _)]
  · intro q m
    rcases List.mem_or_eq_of_mem_set m with m | rfl
    · exact sb.1 q m
    · exact eh (sb.1 x (List.mem_of_getElem? hx)) sr
  · rw [s.ec]
    have e : (⟨b.off, b.vr, b.rows.set k x', b.pin, b.hd⟩ : Sc).c = { b.c with rows := b.c.rows.set k x'.c } := by simp only [Sc.c, List.map_set]
    show Both b.c (⟨b.off, b.vr, b.rows.set k x', b.pin, b.hd⟩ : Sc).c z
    rw [e]
    exact cB
theorem ld_row {h : Heap} {y : Nat} {L : List Rw} {x : Rw} (o : Own h y (L.flatMap Rw.cells)) (e : L[k]? = some x) {i : Nat} (hi : i < 9) : hload1 h y (k * 9 + i) = x.cells[i]? := by
  rw [o.ld1, nth_eq, ← List.getElem?_drop, flat_drop Rw.len, drop_cons e, List.flatMap_cons, List.getElem?_append_left (by rw [Rw.len]; exact hi)]
theorem rowD_key {a b : CR} (h : a.key ≠ b.key) : rowD a b = wKey := by unfold rowD; rw [if_pos h]
theorem rowD_top {a b : CR} (e : a.key = b.key) (h : a.top ≠ b.top) : rowD a b = wTop := by unfold rowD; rw [if_neg (by simpa using e), if_pos h]
theorem rowD_size {a b : CR} (e : a.key = b.key) (e2 : a.top = b.top) (h : a.sz ≠ b.sz) : rowD a b = wSize := by unfold rowD; rw [if_neg (by simpa using e), if_neg (by simpa using e2), if_pos h]
theorem rowD_tree {a b : CR} (e : a.key = b.key) (e2 : a.top = b.top) (e3 : a.sz = b.sz) (h : a.t ≠ b.t) : rowD a b = wTree := by
  unfold rowD; rw [if_neg (by simpa using e), if_neg (by simpa using e2), if_neg (by simpa using e3), if_neg (fun q => h (congrArg CR.t ((sameB_eq a b).1 q)))]
theorem Both.row {C : CS} {x y : CR} {z : Str} (e : C.rows[k]? = some x) (h1 : rowD x y = z) (h2 : rowD y x = z) (hz : z ≠ []) : Both C { C with rows := C.rows.set k y } z := Both.set e h1 h2 hz
theorem sw_off (s : SwS h0 hh env pa pb pr a b r k 0) (K : SwK h0 pa pb a Q) : W go sw env hh Q := by
  obtain ⟨w0, F, g7, g8, g9, g10, g11, g12, g13, oa, ob, or, na, nb, nr, dab, dar, dbr, va, vbb, vr, Gb, Sa, Sb, Sr, ec, lb, kn, ok, okr, off, okh⟩ := id s
  have l0 : hload1 hh pb 0 = some (.int .i64 b.off) := ob.ld1 0
  simp (maxSteps := 1000000) (disch := omega) only [evs, ↓reduceIte, Nat.reduceEqDiff, Nat.reduceAdd, Nat.reduceMul, Nat.reduceLeDiff, Nat.reduceLT, Int.reduceNeg, DF, eff, Nat.reduceSub, fwrap_i64, sw, g7, g8, g9, g10, g11, g12, g13, eq_true (show ((0 : Nat) : Int) = 0 by omega), l0, aP_xor1]
  refine store_step (c' := { b with off := x1 b.off : Sc }.cells) F.wf ob rfl rfl rfl ?_
  intro h2 o2 F2 n2
  simp (maxSteps := 1000000) (disch := omega) only [evs, ↓reduceIte, Nat.reduceEqDiff, Nat.reduceAdd, Nat.reduceMul, Nat.reduceLeDiff, Nat.reduceLT, Int.reduceNeg, DF, eff, Nat.reduceSub, fwrap_i64, g7, g8]
  exact s.ends K F2 o2 rfl rfl id (Both.off (x1_ne off)) (by simp [T.get_set, g7]) (by simp [T.get_set, g8]) (by simp [T.get_set, wOff, wRows, wPin, wHead, wKey, wTop, wSize, wTree])
theorem sw_skip (s : SwS h0 hh env pa pb pr a b r k j) (K : SwK h0 pa pb a Q) (hj : j = 8 ∨ (b.rows.length = 0 ∧ 2 ≤ j ∧ j ≤ 5)) : W go sw env hh Q := by
  obtain ⟨w0, F, g7, g8, g9, g10, g11, g12, g13, oa, ob, or, na, nb, nr, dab, dar, dbr, va, vbb, vr, Gb, Sa, Sb, Sr, ec, lb, kn, ok, okr, off, okh⟩ := id s
  have fin : ∀ env' : T V, env'.get 7 = some (.ptr pa 0) → env'.get 8 = some (.ptr pb 0) → env'.get 9 = some (.str []) → Q .norm env' hh := fun env' e7 e8 e9 =>
    s.ends (b' := b) K (Fr.refl F.wf) ob rfl rfl id (Both.self _) e7 e8 e9
  rcases hj with rfl | ⟨hb, h2, h5⟩
  · simp (maxSteps := 1000000) (disch := omega) only [evs, ↓reduceIte, Nat.reduceEqDiff, Nat.reduceAdd, Nat.reduceMul, Nat.reduceLeDiff, Nat.reduceLT, Int.reduceNeg, DF, eff, Nat.reduceSub, fwrap_i64, sw, g7, g8, g9, g10, g11, g12, g13, show ¬ ((8 : Nat) : Int) = 0 by omega, show ¬ ((8 : Nat) : Int) = 1 by omega, show ¬ ((8 : Nat) : Int) = 2 by omega, show ¬ ((8 : Nat) : Int) = 3 by omega, show ¬ ((8 : Nat) : Int) = 4 by omega, show ¬ ((8 : Nat) : Int) = 5 by omega, show ¬ ((8 : Nat) : Int) = 6 by omega, show ¬ ((8 : Nat) : Int) = 7 by omega]
    exact fin _ (by simp [T.get_set, g7]) (by simp [T.get_set, g8]) (by simp [T.get_set, g9])
  · have hn : ¬ (0 : Int) < (b.rows.length : Int) := by omega
    rcases (by omega : j = 2 ∨ j = 3 ∨ j = 4 ∨ j = 5) with rfl | rfl | rfl | rfl
    · simp (maxSteps := 1000000) (disch := omega) only [evs, ↓reduceIte, Nat.reduceEqDiff, Nat.reduceAdd, Nat.reduceMul, Nat.reduceLeDiff, Nat.reduceLT, Int.reduceNeg, DF, eff, Nat.reduceSub, fwrap_i64, sw, g7, g8, g9, g10, g11, g12, g13, hn, show ¬ ((2 : Nat) : Int) = 0 by omega, show ¬ ((2 : Nat) : Int) = 1 by omega, eq_true (show ((2 : Nat) : Int) = 2 by omega), show ¬ ((2 : Nat) : Int) = 3 by omega, show ¬ ((2 : Nat) : Int) = 4 by omega, show ¬ ((2 : Nat) : Int) = 5 by omega, show ¬ ((2 : Nat) : Int) = 6 by omega, show ¬ ((2 : Nat) : Int) = 7 by omega]
      exact fin _ (by simp [T.get_set, g7]) (by simp [T.get_set, g8]) (by simp [T.get_set, g9])
    · simp (maxSteps := 1000000) (disch := omega) only [evs, ↓reduceIte, Nat.reduceEqDiff, Nat.reduceAdd, Nat.reduceMul, Nat.reduceLeDiff, Nat.reduceLT, Int.reduceNeg, DF, eff, Nat.reduceSub, fwrap_i64, sw, g7, g8, g9, g10, g11, g12, g13, hn, show ¬ ((3 : Nat) : Int) = 0 by omega, show ¬ ((3 : Nat) : Int) = 1 by omega, show ¬ ((3 : Nat) : Int) = 2 by omega, eq_true (show ((3 : Nat) : Int) = 3 by omega), show ¬ ((3 : Nat) : Int) = 4 by omega, show ¬ ((3 : Nat) : Int) = 5 by omega, show ¬ ((3 : Nat) : Int) = 6 by omega, show ¬ ((3 : Nat) : Int) = 7 by omega]
      exact fin _ (by simp [T.get_set, g7]) (by simp [T.get_set, g8]) (by simp [T.get_set, g9])
    · simp (maxSteps := 1000000) (disch := omega) only [evs, ↓reduceIte, Nat.reduceEqDiff, Nat.reduceAdd, Nat.reduceMul, Nat.reduceLeDiff, Nat.reduceLT, Int.reduceNeg, DF, eff, Nat.reduceSub, fwrap_i64, sw, g7, g8, g9, g10, g11, g12, g13, hn, show ¬ ((4 : Nat) : Int) = 0 by omega, show ¬ ((4 : Nat) : Int) = 1 by omega, show ¬ ((4 : Nat) : Int) = 2 by omega, show ¬ ((4 : Nat) : Int) = 3 by omega, eq_true (show ((4 : Nat) : Int) = 4 by omega), show ¬ ((4 : Nat) : Int) = 5 by omega, show ¬ ((4 : Nat) : Int) = 6 by omega, show ¬ ((4 : Nat) : Int) = 7 by omega]
      exact fin _ (by simp [T.get_set, g7]) (by simp [T.get_set, g8]) (by simp [T.get_set, g9])
    · simp (maxSteps := 1000000) (disch := omega) only [evs, ↓reduceIte, Nat.reduceEqDiff, Nat.reduceAdd, Nat.reduceMul, Nat.reduceLeDiff, Nat.reduceLT, Int.reduceNeg, DF, eff, Nat.reduceSub, fwrap_i64, sw, g7, g8, g9, g10, g11, g12, g13, hn, show ¬ ((5 : Nat) : Int) = 0 by omega, show ¬ ((5 : Nat) : Int) = 1 by omega, show ¬ ((5 : Nat) : Int) = 2 by omega, show ¬ ((5 : Nat) : Int) = 3 by omega, show ¬ ((5 : Nat) : Int) = 4 by omega, eq_true (show ((5 : Nat) : Int) = 5 by omega), show ¬ ((5 : Nat) : Int) = 6 by omega, show ¬ ((5 : Nat) : Int) = 7 by omega]
      exact fin _ (by simp [T.get_set, g7]) (by simp [T.get_set, g8]) (by simp [T.get_set, g9])
theorem sw_rows (s : SwS h0 hh env pa pb pr a b r k 1) (K : SwK h0 pa pb a Q) : W go sw env hh Q := by
  obtain ⟨w0, F, g7, g8, g9, g10, g11, g12, g13, oa, ob, or, na, nb, nr, dab, dar, dbr, va, vbb, vr, Gb, Sa, Sb, Sr, ec, lb, kn, ok, okr, off, okh⟩ := id s
  have l1 : hload1 hh pb 1 = some b.vr := ob.ld1 1
  have l9 : hload hh pr 0 9 = some r.cells := by rw [or.ld]; rfl
  have nh := F.next
  have lts : ∀ y ∈ [pa, pb, pr], y < hh.next := by
    have := oa.lt F.wf
    have := ob.lt F.wf
    have := or.lt F.wf
    simp; omega
  simp (maxSteps := 1000000) (disch := omega) only [evs, ↓reduceIte, Nat.reduceEqDiff, Nat.reduceAdd, Nat.reduceMul, Nat.reduceLeDiff, Nat.reduceLT, Int.reduceNeg, DF, eff, Nat.reduceSub, fwrap_i64, sw, g7, g8, g9, g10, g11, g12, g13, show ¬ ((1 : Nat) : Int) = 0 by omega, eq_true (show ((1 : Nat) : Int) = 1 by omega), l1, l9, show r.cells.length = 9 from rfl, show updO [.int .u64 0, .int .i64 0, .int .i64 0, .int .u8 0, .str [], .str [], .nils, .str [], .nils] 0 r.cells = some r.cells from rfl]
  refine rpush_ok (C := fun y => y ≠ pa ∧ y ≠ pb ∧ y ≠ pr) (L := h0.next) (A := b.rows) (x := r) F.wf Gb nh ((Sb.imp fun h q => q.1).wk fun y _ p => ⟨⟨p.1, p.2.1, p.2.2.1⟩, p.2.2.2⟩) (Sr.wk fun y _ p => ⟨⟨p.1, p.2.1, p.2.2.1⟩, p.2.2.2⟩) (by omega) ?_
  intro v' h3 G3 S3 e3 F3
  have onev : v'.one = true := G3.one
  have la := oa.lt F.wf
  have lb' := ob.lt F.wf
  have ob3 := F3.own _ _ vbb ob
  simp (maxSteps := 1000000) (disch := omega) only [evs, ↓reduceIte, Nat.reduceEqDiff, Nat.reduceAdd, Nat.reduceMul, Nat.reduceLeDiff, Nat.reduceLT, Int.reduceNeg, DF, eff, Nat.reduceSub, fwrap_i64, g7, g8, g10]
  refine store_step (c' := { b with vr := v', rows := b.rows ++ [r] : Sc }.cells) F3.wf ob3 (by rw [cells_one onev]; rfl) (by rw [cells_one onev]; simp [onesB_cons, onesB_nil, onev]) (by rw [cells_one onev]; rfl) ?_
  intro h4 o4 F4 n4
  simp (maxSteps := 1000000) (disch := omega) only [evs, ↓reduceIte, Nat.reduceEqDiff, Nat.reduceAdd, Nat.reduceMul, Nat.reduceLeDiff, Nat.reduceLT, Int.reduceNeg, DF, eff, Nat.reduceSub, fwrap_i64, g7, g8, g10]
  have F34 : Fr (pb :: vb b.vr) hh h4 := F3.trans F4 F.wf (fun y m => .inl (List.mem_cons_of_mem _ m)) (fun y m => .inl (by simp at m; simp [m]))
  have hX : ∀ y ∈ pb :: vb b.vr, ¬ Wn pa pb pr b.vr y ∨ hh.next ≤ y := by
    intro y m
    rcases List.mem_cons.1 m with rfl | m
    · exact .inl fun p => p.2.1 rfl
    · exact .inl fun p => p.2.2.2 m
  have G4 : Gs h4 h0.next 9 v' ((b.rows ++ [r]).flatMap Rw.cells) := (Stab.gs F3.wf G3 (P := fun y => y ∈ vb v') fun y m => m) [pb] h4 (by intro y m; rw [List.mem_singleton.1 m, e3]; exact .inl (by simp; omega)) F4
  have S4 := S3 [pb] h4 (by intro y m; rw [List.mem_singleton.1 m]; exact .inl fun p => p.1.2.1 rfl) F4
  refine K _ h4 { b with vr := v', rows := b.rows ++ [r] } wRows (by simp [T.get_set, g7]) (by simp [T.get_set, g8]) (by simp [T.get_set, wRows]) (F34.own _ _ (by simp [dab, va]) oa) o4 (Sa _ h4 hX F34) ⟨⟨Gs.sl G4 (flat_len Rw.len _) (by omega), S4, by simp; omega⟩, (Sb _ h4 hX F34).2⟩ ?_ (F.trans F34 w0 (by simp) (fun y m => .inr (by
    rcases List.mem_cons.1 m with rfl | m
    · exact nb
    · exact Gb.ge y m)))
  rw [ec]
  have e : (⟨b.off, v', b.rows ++ [r], b.pin, b.hd⟩ : Sc).c = { b.c with rows := b.c.rows ++ [r.c] } := by simp [Sc.c]
  show Both b.c (⟨b.off, v', b.rows ++ [r], b.pin, b.hd⟩ : Sc).c wRows
  rw [e]
  exact Both.rows
theorem sw_pin (s : SwS h0 hh env pa pb pr a b r k 6) (K : SwK h0 pa pb a Q) : W go sw env hh Q := by
  obtain ⟨w0, F, g7, g8, g9, g10, g11, g12, g13, oa, ob, or, na, nb, nr, dab, dar, dbr, va, vbb, vr, Gb, Sa, Sb, Sr, ec, lb, kn, ok, okr, off, okh⟩ := id s
  have l2 : hload1 hh pb 2 = some (.bool b.pin) := ob.ld1 2
  simp (maxSteps := 1000000) (disch := omega) only [evs, ↓reduceIte, Nat.reduceEqDiff, Nat.reduceAdd, Nat.reduceMul, Nat.reduceLeDiff, Nat.reduceLT, Int.reduceNeg, DF, eff, Nat.reduceSub, fwrap_i64, sw, g7, g8, g9, g10, g11, g12, g13, show ¬ ((6 : Nat) : Int) = 0 by omega, show ¬ ((6 : Nat) : Int) = 1 by omega, show ¬ ((6 : Nat) : Int) = 2 by omega, show ¬ ((6 : Nat) : Int) = 3 by omega, show ¬ ((6 : Nat) : Int) = 4 by omega, show ¬ ((6 : Nat) : Int) = 5 by omega, eq_true (show ((6 : Nat) : Int) = 6 by omega), l2]
  refine store_step (c' := { b with pin := !b.pin : Sc }.cells) F.wf ob rfl rfl rfl ?_
  intro h2 o2 F2 n2
  simp (maxSteps := 1000000) (disch := omega) only [evs, ↓reduceIte, Nat.reduceEqDiff, Nat.reduceAdd, Nat.reduceMul, Nat.reduceLeDiff, Nat.reduceLT, Int.reduceNeg, DF, eff, Nat.reduceSub, fwrap_i64, g7, g8]
  exact s.ends K F2 o2 rfl rfl id Both.pin (by simp [T.get_set, g7]) (by simp [T.get_set, g8]) (by simp [T.get_set, wOff, wRows, wPin, wHead, wKey, wTop, wSize, wTree])
theorem sw_head (s : SwS h0 hh env pa pb pr a b r k 7) (K : SwK h0 pa pb a Q) : W go sw env hh Q := by
  obtain ⟨w0, F, g7, g8, g9, g10, g11, g12, g13, oa, ob, or, na, nb, nr, dab, dar, dbr, va, vbb, vr, Gb, Sa, Sb, Sr, ec, lb, kn, ok, okr, off, okh⟩ := id s
  have l4 : hload1 hh pb 4 = some (.int .i64 b.hd.top) := ob.ld1 4
  simp (maxSteps := 1000000) (disch := omega) only [evs, ↓reduceIte, Nat.reduceEqDiff, Nat.reduceAdd, Nat.reduceMul, Nat.reduceLeDiff, Nat.reduceLT, Int.reduceNeg, DF, eff, Nat.reduceSub, fwrap_i64, sw, g7, g8, g9, g10, g11, g12, g13, show ¬ ((7 : Nat) : Int) = 0 by omega, show ¬ ((7 : Nat) : Int) = 1 by omega, show ¬ ((7 : Nat) : Int) = 2 by omega, show ¬ ((7 : Nat) : Int) = 3 by omega, show ¬ ((7 : Nat) : Int) = 4 by omega, show ¬ ((7 : Nat) : Int) = 5 by omega, show ¬ ((7 : Nat) : Int) = 6 by omega, eq_true (show ((7 : Nat) : Int) = 7 by omega), l4, aP_xor1]
  refine store_step (c' := { b with hd := { b.hd with top := x1 b.hd.top } : Sc }.cells) F.wf ob rfl rfl rfl ?_
  intro h2 o2 F2 n2
  simp (maxSteps := 1000000) (disch := omega) only [evs, ↓reduceIte, Nat.reduceEqDiff, Nat.reduceAdd, Nat.reduceMul, Nat.reduceLeDiff, Nat.reduceLT, Int.reduceNeg, DF, eff, Nat.reduceSub, fwrap_i64, g7, g8]
  exact s.ends (b' := { b with hd := { b.hd with top := x1 b.hd.top } }) K F2 o2 rfl rfl id (Both.head (C := b.c) (d := { b.hd with top := x1 b.hd.top : Rw }.c) fun e => x1_ne okh (congrArg CR.top e)) (by simp [T.get_set, g7]) (by simp [T.get_set, g8]) (by simp [T.get_set, wOff, wRows, wPin, wHead, wKey, wTop, wSize, wTree])
theorem map_at {L : List Rw} {x : Rw} (e : L[k]? = some x) : (L.map Rw.c)[k]? = some x.c := by rw [List.getElem?_map, e]; rfl
theorem sw_key (s : SwS h0 hh env pa pb pr a b r k 2) (K : SwK h0 pa pb a Q) (hb : 0 < b.rows.length) : W go sw env hh Q := by
  obtain ⟨w0, F, g7, g8, g9, g10, g11, g12, g13, oa, ob, or, na, nb, nr, dab, dar, dbr, va, vbb, vr, Gb, Sa, Sb, Sr, ec, lb, kn, ok, okr, off, okh⟩ := id s
  obtain ⟨y, x, m, em, hy, hm, oy, hx, ix⟩ := s.arr hb
  have okx := ok x (List.mem_of_getElem? hx)
  have l1 : hload1 hh pb 1 = some b.vr := ob.ld1 1
  have k0 : hload1 hh y (k * 9) = some (.int .u64 x.key) := ld_row oy hx (i := 0) (by omega)
  have pby : pb ≠ y := fun e => vbb (by rw [hy, e]; simp)
  simp (maxSteps := 1000000) (disch := omega) only [evs, ↓reduceIte, Nat.reduceEqDiff, Nat.reduceAdd, Nat.reduceMul, Nat.reduceLeDiff, Nat.reduceLT, Int.reduceNeg, DF, eff, Nat.reduceSub, fwrap_i64, sw, g7, g8, g9, g10, g11, g12, g13, show ¬ ((2 : Nat) : Int) = 0 by omega, show ¬ ((2 : Nat) : Int) = 1 by omega, eq_true (show ((2 : Nat) : Int) = 2 by omega), show (0 : Int) < (b.rows.length : Int) by omega, l1, ix, k0]
  refine store_step (c' := (b.rows.set k { x with key := fwrap .u64 (x.key + 1) }).flatMap Rw.cells) F.wf oy rfl rfl (updO_flat (j := 0) Rw.len hx (by simp [V.cells]) rfl) ?_
  intro h2 o2 F2 n2
  have hx2 : (b.rows.set k { x with key := fwrap .u64 (x.key + 1) })[k]? = some { x with key := fwrap .u64 (x.key + 1) } := by rw [List.getElem?_set_self (kn hb)]
  have l12 : hload1 h2 pb 1 = some b.vr := (F2.own _ _ (by simpa using pby) ob).ld1 1
  have k1 : hload1 h2 y (k * 9 + 1) = some (.int .i64 x.top) := ld_row o2 hx2 (i := 1) (by omega)
  simp (maxSteps := 1000000) (disch := omega) only [evs, ↓reduceIte, Nat.reduceEqDiff, Nat.reduceAdd, Nat.reduceMul, Nat.reduceLeDiff, Nat.reduceLT, Int.reduceNeg, DF, eff, Nat.reduceSub, fwrap_i64, g7, g8, g9, g10, g11, g12, g13, l1, l12, ix, k0, k1, aP_xor1]
  refine store_step (c' := ((b.rows.set k { x with key := fwrap .u64 (x.key + 1) }).set k { x with key := fwrap .u64 (x.key + 1), top := x1 x.top }).flatMap Rw.cells) F2.wf o2 rfl rfl (updO_flat (j := 1) Rw.len hx2 (by simp [V.cells]) rfl) ?_
  intro h3 o3 F3 n3
  rw [List.set_set] at o3
  simp (maxSteps := 1000000) (disch := omega) only [evs, ↓reduceIte, Nat.reduceEqDiff, Nat.reduceAdd, Nat.reduceMul, Nat.reduceLeDiff, Nat.reduceLT, Int.reduceNeg, DF, eff, Nat.reduceSub, fwrap_i64, g7, g8, g9, l12, ix, k1]
  have kne : fwrap .u64 (x.key + 1) ≠ x.key := u1_ne okx.1.1 okx.1.2
  exact s.endr (x' := { x with key := fwrap .u64 (x.key + 1), top := x1 x.top }) K hy (F2.trans F3 F.wf (fun q m => .inl m) (fun q m => .inl m)) o3 hx (fun p _ => p) (Both.row (map_at hx) (rowD_key fun e => kne e.symm) (rowD_key kne) (by decide)) (by simp [T.get_set, g7]) (by simp [T.get_set, g8]) (by simp [T.get_set, wOff, wRows, wPin, wHead, wKey, wTop, wSize, wTree])
theorem sw_top (s : SwS h0 hh env pa pb pr a b r k 3) (K : SwK h0 pa pb a Q) (hb : 0 < b.rows.length) : W go sw env hh Q := by
  obtain ⟨w0, F, g7, g8, g9, g10, g11, g12, g13, oa, ob, or, na, nb, nr, dab, dar, dbr, va, vbb, vr, Gb, Sa, Sb, Sr, ec, lb, kn, ok, okr, off, okh⟩ := id s
  obtain ⟨y, x, m, em, hy, hm, oy, hx, ix⟩ := s.arr hb
  have okx := ok x (List.mem_of_getElem? hx)
  have l1 : hload1 hh pb 1 = some b.vr := ob.ld1 1
  have k1 : hload1 hh y (k * 9 + 1) = some (.int .i64 x.top) := ld_row oy hx (i := 1) (by omega)
  have pby : pb ≠ y := fun e => vbb (by rw [hy, e]; simp)
  have pry : pr ≠ y := fun e => vr (by rw [hy, e]; simp)
  simp (maxSteps := 1000000) (disch := omega) only [evs, ↓reduceIte, Nat.reduceEqDiff, Nat.reduceAdd, Nat.reduceMul, Nat.reduceLeDiff, Nat.reduceLT, Int.reduceNeg, DF, eff, Nat.reduceSub, fwrap_i64, sw, g7, g8, g9, g10, g11, g12, g13, show ¬ ((3 : Nat) : Int) = 0 by omega, show ¬ ((3 : Nat) : Int) = 1 by omega, show ¬ ((3 : Nat) : Int) = 2 by omega, eq_true (show ((3 : Nat) : Int) = 3 by omega), show (0 : Int) < (b.rows.length : Int) by omega, l1, ix, k1, aP_xor1]
  refine store_step (c' := (b.rows.set k { x with top := x1 x.top }).flatMap Rw.cells) F.wf oy rfl rfl (updO_flat (j := 1) Rw.len hx (by simp [V.cells]) rfl) ?_
  intro h2 o2 F2 n2
  have hx2 : (b.rows.set k { x with top := x1 x.top })[k]? = some { x with top := x1 x.top } := by rw [List.getElem?_set_self (kn hb)]
  have l12 : hload1 h2 pb 1 = some b.vr := (F2.own _ _ (by simpa using pby) ob).ld1 1
  have lr : hload h2 pr 3 6 = some r.nd.cells := by rw [(F2.own _ _ (by simpa using pry) or).ld]; rfl
  have hr := (Sr [y] h2 (by intro q m; rw [List.mem_singleton.1 m]; exact .inl fun p => p.2.2.2 (by rw [hy]; simp)) F2).one
  have hrn : onesB r.nd.cells = true := NdH.one (Sr.now F.wf)
  simp (maxSteps := 1000000) (disch := omega) only [evs, ↓reduceIte, Nat.reduceEqDiff, Nat.reduceAdd, Nat.reduceMul, Nat.reduceLeDiff, Nat.reduceLT, Int.reduceNeg, DF, eff, Nat.reduceSub, fwrap_i64, g7, g8, g9, g10, g11, g12, g13, l1, l12, ix, k1, lr]
  refine store_step (v := .agg r.nd.cells) (c' := ((b.rows.set k { x with top := x1 x.top }).set k { x with top := x1 x.top, nd := r.nd }).flatMap Rw.cells) F2.wf o2 rfl hrn (updO_flat (j := 3) Rw.len hx2 (by show 3 + 6 ≤ 9; decide) rfl) ?_
  intro h3 o3 F3 n3
  rw [List.set_set] at o3
  simp (maxSteps := 1000000) (disch := omega) only [evs, ↓reduceIte, Nat.reduceEqDiff, Nat.reduceAdd, Nat.reduceMul, Nat.reduceLeDiff, Nat.reduceLT, Int.reduceNeg, DF, eff, Nat.reduceSub, fwrap_i64, g7, g8, g9]
  have kne : x1 x.top ≠ x.top := x1_ne okx.2.1
  exact s.endr (x' := { x with top := x1 x.top, nd := r.nd }) K hy (F2.trans F3 F.wf (fun q m => .inl m) (fun q m => .inl m)) o3 hx (fun _ p => p) (Both.row (map_at hx) (rowD_top rfl fun e => kne e.symm) (rowD_top rfl kne) (by decide)) (by simp [T.get_set, g7]) (by simp [T.get_set, g8]) (by simp [T.get_set, wOff, wRows, wPin, wHead, wKey, wTop, wSize, wTree])
theorem sw_size (s : SwS h0 hh env pa pb pr a b r k 4) (K : SwK h0 pa pb a Q) (hb : 0 < b.rows.length) : W go sw env hh Q := by
  obtain ⟨w0, F, g7, g8, g9, g10, g11, g12, g13, oa, ob, or, na, nb, nr, dab, dar, dbr, va, vbb, vr, Gb, Sa, Sb, Sr, ec, lb, kn, ok, okr, off, okh⟩ := id s
  obtain ⟨y, x, m, em, hy, hm, oy, hx, ix⟩ := s.arr hb
  have okx := ok x (List.mem_of_getElem? hx)
  have l1 : hload1 hh pb 1 = some b.vr := ob.ld1 1
  have k1 : hload1 hh y (k * 9 + 2) = some (.int .i64 x.sz) := ld_row oy hx (i := 2) (by omega)
  simp (maxSteps := 1000000) (disch := omega) only [evs, ↓reduceIte, Nat.reduceEqDiff, Nat.reduceAdd, Nat.reduceMul, Nat.reduceLeDiff, Nat.reduceLT, Int.reduceNeg, DF, eff, Nat.reduceSub, fwrap_i64, sw, g7, g8, g9, g10, g11, g12, g13, show ¬ ((4 : Nat) : Int) = 0 by omega, show ¬ ((4 : Nat) : Int) = 1 by omega, show ¬ ((4 : Nat) : Int) = 2 by omega, show ¬ ((4 : Nat) : Int) = 3 by omega, eq_true (show ((4 : Nat) : Int) = 4 by omega), show (0 : Int) < (b.rows.length : Int) by omega, l1, ix, k1, aP_xor1]
  refine store_step (c' := (b.rows.set k { x with sz := x1 x.sz }).flatMap Rw.cells) F.wf oy rfl rfl (updO_flat (j := 2) Rw.len hx (by simp [V.cells]) rfl) ?_
  intro h2 o2 F2 n2
  simp (maxSteps := 1000000) (disch := omega) only [evs, ↓reduceIte, Nat.reduceEqDiff, Nat.reduceAdd, Nat.reduceMul, Nat.reduceLeDiff, Nat.reduceLT, Int.reduceNeg, DF, eff, Nat.reduceSub, fwrap_i64, g7, g8, g9, l1, ix, k1]
  have kne : x1 x.sz ≠ x.sz := x1_ne okx.2.2.1
  exact s.endr (x' := { x with sz := x1 x.sz }) K hy F2 o2 hx (fun p _ => p) (Both.row (map_at hx) (rowD_size rfl rfl fun e => kne e.symm) (rowD_size rfl rfl kne) (by decide)) (by simp [T.get_set, g7]) (by simp [T.get_set, g8]) (by simp [T.get_set, wOff, wRows, wPin, wHead, wKey, wTop, wSize, wTree])
theorem takeL_inv : ∀ (n : Nat) (l q : List V), takeL n l = some q → l.take n = q ∧ n ≤ l.length
  | 0, l, q, h => by rw [takeL_zero] at h; cases h; exact ⟨rfl, by omega⟩
  | n + 1, [], q, h => by cases h
  | n + 1, v :: l, q, h => by
    rw [takeL_cons] at h
    cases e : takeL n l with
    | none => rw [e] at h; cases h
    | some q' =>
      rw [e] at h; cases h
      obtain ⟨h1, h2⟩ := takeL_inv n l q' e
      exact ⟨by simp [h1], by simp; omega⟩
theorem ld_tree {h : Heap} {y o : Nat} {x : Rw} (e : hload h y o 9 = some x.cells) : hload h y (o + 3) 6 = some x.nd.cells := by
  unfold hload at e ⊢
  cases c : cellsAt h y with
  | none => rw [c] at e; cases e
  | some l =>
    rw [c] at e
    simp only [dropL_eq] at e ⊢
    obtain ⟨e1, e2⟩ := takeL_inv _ _ _ e
    simp only [List.length_drop] at e2
    rw [takeL_at _ _ (by simp; omega), ← List.drop_drop]
    congr 1
    have : ((l.drop o).take 9).drop 3 = ((l.drop o).drop 3).take 6 := by rw [List.drop_take]
    rw [← this, e1]
    rfl
theorem sw_tree (s : SwS h0 hh env pa pb pr a b r k 5) (K : SwK h0 pa pb a Q) (hb : 0 < b.rows.length) : W go sw env hh Q := by
  obtain ⟨w0, F, g7, g8, g9, g10, g11, g12, g13, oa, ob, or, na, nb, nr, dab, dar, dbr, va, vbb, vr, Gb, Sa, Sb, Sr, ec, lb, kn, ok, okr, off, okh⟩ := id s
  obtain ⟨y, x, m, em, hy, hm, oy, hx, ix⟩ := s.arr hb
  have okx := ok x (List.mem_of_getElem? hx)
  have er : a.rows.map Rw.c = b.rows.map Rw.c := congrArg CS.rows ec
  have el : a.rows.length = b.rows.length := by simpa using congrArg List.length er
  have ha := Sa.now F.wf
  have kb := kn hb
  obtain ⟨ba, oa', xa, p1, _, p3, p4⟩ := ha.1.1.ix Rw.len .i64 (k : Int) (by omega) (by omega)
  rw [Int.toNat_natCast] at p4
  have exa : xa.c = x.c := by
    have h1 := map_at p4
    rw [er, map_at hx] at h1
    exact (Option.some.inj h1).symm
  have hxa := ha.1.2.1 xa (List.mem_of_getElem? p4)
  have l7 : hload1 hh pa 1 = some a.vr := oa.ld1 1
  have lt := ld_tree p3
  have lr : hload hh pr 3 6 = some r.nd.cells := by rw [or.ld]; rfl
  have gx : Good xa.nd.ct := by have := okx.2.2.2; rw [← exa] at this; exact this
  have pby : pb ≠ y := fun e => vbb (by rw [hy, e]; simp)
  have pay : pa ≠ y := fun e => va (by rw [hy, e]; simp)
  have pry : pr ≠ y := fun e => vr (by rw [hy, e]; simp)
  simp (maxSteps := 1000000) (disch := omega) only [evs, ↓reduceIte, Nat.reduceEqDiff, Nat.reduceAdd, Nat.reduceMul, Nat.reduceLeDiff, Nat.reduceLT, Int.reduceNeg, DF, eff, Nat.reduceSub, fwrap_i64, sw, g7, g8, g9, g10, g11, g12, g13, show ¬ ((5 : Nat) : Int) = 0 by omega, show ¬ ((5 : Nat) : Int) = 1 by omega, show ¬ ((5 : Nat) : Int) = 2 by omega, show ¬ ((5 : Nat) : Int) = 3 by omega, show ¬ ((5 : Nat) : Int) = 4 by omega, eq_true (show ((5 : Nat) : Int) = 5 by omega), show (0 : Int) < (b.rows.length : Int) by omega, l7, p1, lt, lr]
  refine OQ_does (nSame_ok F.wf hxa (Sr.now F.wf) gx okr.2.2.2) ?_
  rintro _ h2 ⟨rfl, F2⟩
  have l12 : hload1 h2 pb 1 = some b.vr := (F2.get ob).ld1 1
  have lr2 : hload h2 pr 3 6 = some r.nd.cells := by rw [(F2.get or).ld]; rfl
  have hrn : onesB r.nd.cells = true := NdH.one (Sr.now F.wf)
  have uf : updO (b.rows.flatMap Rw.cells) (k * 9 + 3) (V.agg r.nd.cells).cells = some ((b.rows.set k { x with nd := r.nd }).flatMap Rw.cells) := updO_flat (j := 3) Rw.len hx (by show 3 + 6 ≤ 9; decide) rfl
  have xt : xa.nd.ct = x.nd.ct := congrArg CR.t exa
  cases d : xa.nd.ct.eqb r.nd.ct
  · simp (maxSteps := 1000000) (disch := omega) only [evs, ↓reduceIte, Nat.reduceEqDiff, Nat.reduceAdd, Nat.reduceMul, Nat.reduceLeDiff, Nat.reduceLT, Int.reduceNeg, DF, eff, Nat.reduceSub, fwrap_i64, g7, g8, g9, g10, g11, g12, g13, l12, ix, lr2, l7, lt, lr]
    refine store_step (v := .agg r.nd.cells) (c' := (b.rows.set k { x with nd := r.nd }).flatMap Rw.cells) F2.wf (F2.get oy) rfl hrn uf ?_
    intro h3 o3 F3 n3
    simp (maxSteps := 1000000) (disch := omega) only [evs, ↓reduceIte, Nat.reduceEqDiff, Nat.reduceAdd, Nat.reduceMul, Nat.reduceLeDiff, Nat.reduceLT, Int.reduceNeg, DF, eff, Nat.reduceSub, fwrap_i64, g7, g8, g9]
    have ne : x.nd.ct ≠ r.nd.ct := fun e => by rw [xt, e, CT.eqb_self] at d; cases d
    exact s.endr (x' := { x with nd := r.nd }) K hy (F2.trans F3 F.wf (by simp) (fun q m => .inl m)) o3 hx (fun _ p => p) (Both.row (map_at hx) (rowD_tree rfl rfl rfl ne) (rowD_tree rfl rfl rfl ne.symm) (by decide)) (by simp [T.get_set, g7]) (by simp [T.get_set, g8]) (by simp [T.get_set, wOff, wRows, wPin, wHead, wKey, wTop, wSize, wTree])
  · simp (maxSteps := 1000000) (disch := omega) only [evs, ↓reduceIte, Nat.reduceEqDiff, Nat.reduceAdd, Nat.reduceMul, Nat.reduceLeDiff, Nat.reduceLT, Int.reduceNeg, DF, eff, Nat.reduceSub, fwrap_i64, g7, g8, g9, g10, g11, g12, g13, l12, ix, lr2, l7, lt, lr]
    refine store_step (v := .agg r.nd.cells) (c' := (b.rows.set k { x with nd := r.nd }).flatMap Rw.cells) F2.wf (F2.get oy) rfl hrn uf ?_
    intro h3 o3 F3 n3
    simp (maxSteps := 1000000) (disch := omega) only [evs, ↓reduceIte, Nat.reduceEqDiff, Nat.reduceAdd, Nat.reduceMul, Nat.reduceLeDiff, Nat.reduceLT, Int.reduceNeg, DF, eff, Nat.reduceSub, fwrap_i64, g7, g8, g9]
    have eq : x.nd.ct = r.nd.ct := by rw [← xt]; exact (CT.eqb_eq _ _).1 d
    have ex : ({ x with nd := r.nd } : Rw).c = x.c := by simp only [Rw.c, eq]
    refine s.endr (z := []) (x' := { x with nd := r.nd }) K hy (F2.trans F3 F.wf (by simp) (fun q m => .inl m)) o3 hx (fun _ p => p) ?_ (by simp [T.get_set, g7]) (by simp [T.get_set, g8]) (by simp [T.get_set, g9])
    have es : b.c.rows.set k ({ x with nd := r.nd } : Rw).c = b.c.rows := by
      rw [ex]
      have h1 := map_at hx
      have h2 : b.c.rows = b.rows.map Rw.c := rfl
      rw [h2]
      obtain ⟨q1, q2⟩ := List.getElem?_eq_some_iff.1 h1
      rw [← q2, List.set_getElem_self]
    rw [es]
    exact Both.self _
theorem sw_ok (s : SwS h0 hh env pa pb pr a b r k j) (hj : j < 9) (K : SwK h0 pa pb a Q) : W go sw env hh Q := by
  by_cases hb : 0 < b.rows.length
  · rcases (by omega : j = 0 ∨ j = 1 ∨ j = 2 ∨ j = 3 ∨ j = 4 ∨ j = 5 ∨ j = 6 ∨ j = 7 ∨ j = 8) with rfl | rfl | rfl | rfl | rfl | rfl | rfl | rfl | rfl
    · exact sw_off s K
    · exact sw_rows s K
    · exact sw_key s K hb
    · exact sw_top s K hb
    · exact sw_size s K hb
    · exact sw_tree s K hb
    · exact sw_pin s K
    · exact sw_head s K
    · exact sw_skip s K (.inl rfl)
  · rcases (by omega : j = 0 ∨ j = 1 ∨ (2 ≤ j ∧ j ≤ 5) ∨ j = 6 ∨ j = 7 ∨ j = 8) with rfl | rfl | q | rfl | rfl | rfl
    · exact sw_off s K
    · exact sw_rows s K
    · exact sw_skip s K (.inr ⟨by omega, q.1, q.2⟩)
    · exact sw_pin s K
    · exact sw_head s K
    · exact sw_skip s K (.inl rfl)
end
set_option maxRecDepth 4000
theorem mz_ok {h0 hh : Heap} {env : T V} {pa pb pr k z0 b4 : Nat} {a b : Sc} {r : Rw} {R : V → Heap → Prop} (g4 : env.get 4 = some (.ptr b4 0)) (l0 : hload1 hh b4 0 = some (.int .u8 (z0 : Int))) (T0 : Tb h0)
    (S : ∀ env' : T V, env'.get 7 = env.get 7 → env'.get 8 = env.get 8 → env'.get 9 = env.get 9 → env'.get 10 = env.get 10 → env'.get 11 = env.get 11 → env'.get 12 = env.get 12 → env'.get 13 = some (.int .u8 ((z0 % 9 : Nat) : Int)) → SwS h0 hh env' pa pb pr a b r k (z0 % 9))
    (kk : ∀ h', Fr [] h0 h' → R (.bool true) h') : W go mz env hh (RetQ [.t 6] R) := by
  have ix : aP (.ixa 3 1) [.ptr b4 0, .int .i64 0] = some (.ptr b4 0) := by rw [aP_ixa _ _ _ _ _ _ (by omega) (by omega)]; rfl
  simp (maxSteps := 1000000) (disch := omega) only [evs, ↓reduceIte, Nat.reduceEqDiff, Nat.reduceAdd, Nat.reduceMul, Nat.reduceLeDiff, Nat.reduceLT, Int.reduceNeg, DF, eff, Nat.reduceSub, fwrap_i64, mz, g4, ix, l0, rem_u8 z0 9 9 rfl (by omega)]
  refine sw_ok (S _ (by simp [T.get_set]) (by simp [T.get_set]) (by simp [T.get_set]) (by simp [T.get_set]) (by simp [T.get_set]) (by simp [T.get_set]) (by simp [T.get_set])) (Nat.mod_lt _ (by omega)) ?_
  intro env1 h1 b1 z e7 e8 e9 oa ob ha hb B F
  have la : hload h1 pa 0 12 = some a.cells := by rw [oa.ld]; rfl
  have lb : hload h1 pb 0 12 = some b1.cells := by rw [ob.ld]; rfl
  simp (maxSteps := 1000000) (disch := omega) only [evs, ↓reduceIte, Nat.reduceEqDiff, Nat.reduceAdd, Nat.reduceMul, Nat.reduceLeDiff, Nat.reduceLT, Int.reduceNeg, DF, eff, Nat.reduceSub, fwrap_i64, fz, e7, e8, e9, la, lb]
  refine OQ_does (differ_ok F.wf ha hb) ?_
  rintro _ h2 ⟨rfl, F2⟩
  have la2 : hload h2 pa 0 12 = some a.cells := by rw [(F2.get oa).ld]; rfl
  have lb2 : hload h2 pb 0 12 = some b1.cells := by rw [(F2.get ob).ld]; rfl
  simp (maxSteps := 1000000) (disch := omega) only [evs, ↓reduceIte, Nat.reduceEqDiff, Nat.reduceAdd, Nat.reduceMul, Nat.reduceLeDiff, Nat.reduceLT, Int.reduceNeg, DF, eff, Nat.reduceSub, fwrap_i64, aP_sbe, B.1, beq_self_eq_true, e7, e8, e9, la2, lb2]
  refine OQ_does (differ_ok F2.wf (hb.fr F2) (ha.fr F2)) ?_
  rintro _ h3 ⟨rfl, F3⟩
  have F03 := (F.then F2).then F3
  have T3 : Tb h3 := F03.pl 0 tab10 (by simp) T0
  simp (maxSteps := 1000000) (disch := omega) only [evs, ↓reduceIte, Nat.reduceEqDiff, Nat.reduceAdd, Nat.reduceMul, Nat.reduceLeDiff, Nat.reduceLT, Int.reduceNeg, DF, eff, Nat.reduceSub, fwrap_i64, aP_sbe, B.2, beq_self_eq_true, e9]
  refine OQ_does (lives_ok T3) ?_
  rintro _ _ ⟨rfl, rfl⟩
  simp (maxSteps := 1000000) (disch := omega) only [evs, ↓reduceIte, Nat.reduceEqDiff, Nat.reduceAdd, Nat.reduceMul, Nat.reduceLeDiff, Nat.reduceLT, Int.reduceNeg, DF, eff, Nat.reduceSub, fwrap_i64]
  exact kk h3 F03
theorem hdC_top {h : Heap} : ∀ {l : List Dw}, (∀ x ∈ l, DwH h x) → R64 (hdC l).top
  | [], _ => ⟨by decide, by decide⟩
  | y :: _, a => (a y (by simp)).2.2.1
theorem snapshotsDiffer_ok {h : Heap} {x : Dt} {z0 z1 z2 : Nat} {o : Dw} (w : WF h) (T0 : Tb h) (dx : DtH h x) (dw : DwH h o) (hz1 : z1 < 256) (ho : R64 x.off) :
    Does go 5 [.agg x.cells, .agg [.int .u8 (z0 : Int), .int .u8 (z1 : Int), .int .u8 (z2 : Int)], .agg o.cells] h fun u h' => u = .bool true ∧ Fr [] h h' := by
  obtain ⟨h1, e_h1⟩ : ∃ h1, h1 = halloc h x.cells := ⟨_, rfl⟩
  have F_h1 : Fr [] h h1 := e_h1 ▸ Fr.halloc w _
  have o_h1 : Own h1 h.next x.cells := e_h1 ▸ Own.new w _
  obtain ⟨h2, e_h2⟩ : ∃ h2, h2 = halloc h1 [.int .u8 (z0 : Int), .int .u8 (z1 : Int), .int .u8 (z2 : Int)] := ⟨_, rfl⟩
  have F_h2 : Fr [] h1 h2 := e_h2 ▸ Fr.halloc F_h1.wf _
  have o_h2 : Own h2 h1.next [.int .u8 (z0 : Int), .int .u8 (z1 : Int), .int .u8 (z2 : Int)] := e_h2 ▸ Own.new F_h1.wf _
  obtain ⟨h3, e_h3⟩ : ∃ h3, h3 = halloc h2 o.cells := ⟨_, rfl⟩
  have F_h3 : Fr [] h2 h3 := e_h3 ▸ Fr.halloc F_h2.wf _
  have o_h3 : Own h3 h2.next o.cells := e_h3 ▸ Own.new F_h2.wf _
  have n1 := hnx e_h1
  have n2 := hnx e_h2
  have n3 := hnx e_h3
  have F03 := (F_h1.then F_h2).then F_h3
  refine does_fn g5x rfl ?_
  simp (maxSteps := 1000000) (disch := omega) only [evs, ↓reduceIte, Nat.reduceEqDiff, Nat.reduceAdd, Nat.reduceMul, Nat.reduceLeDiff, Nat.reduceLT, Int.reduceNeg, DF, eff, Nat.reduceSub, fwrap_i64, fn5x, ← e_h1, ← e_h2, ← e_h3]
  refine W_dal2 [⟨none, .ld 3 true (.v 3), none⟩, ⟨none, .cf 9 [.l 0], none⟩, ⟨none, .ld 3 true (.v 3), none⟩, ⟨none, .cf 9 [.l 0], none⟩] _ rfl ?_
  have F4 := Fr.halloc F_h3.wf z12
  have o4 := Own.new F_h3.wf z12
  have F5 := Fr.halloc F4.wf z12
  have o5 := Own.new F4.wf z12
  have o45 := F5.get o4
  have F35 := F4.then F5
  have n5 : (halloc (halloc h3 z12) z12).next = h3.next + 2 := rfl
  have n4 : (halloc h3 z12).next = h3.next + 1 := rfl
  rw [n4] at o5
  clear F4 F5 o4 n4
  generalize halloc (halloc h3 z12) z12 = h5 at F35 o5 o45 n5 ⊢
  have F05 := F03.then F35
  have ox := F35.get (F_h3.get (F_h2.get o_h1))
  have lx : hload h5 h.next 0 3 = some x.cells := by rw [ox.ld]; rfl
  simp (maxSteps := 1000000) (disch := omega) only [evs, ↓reduceIte, Nat.reduceEqDiff, Nat.reduceAdd, Nat.reduceMul, Nat.reduceLeDiff, Nat.reduceLT, Int.reduceNeg, DF, eff, Nat.reduceSub, fwrap_i64, lx]
  refine OQ_does (tOf_ok F05.wf (dx.fr w F05)) ?_
  rintro _ h6 ⟨a, rfl, ea, la, Ga, Sa, F6⟩
  have F06 := F05.then F6
  have lx6 : hload h6 h.next 0 3 = some x.cells := by rw [(F6.get ox).ld]; rfl
  simp (maxSteps := 1000000) (disch := omega) only [evs, ↓reduceIte, Nat.reduceEqDiff, Nat.reduceAdd, Nat.reduceMul, Nat.reduceLeDiff, Nat.reduceLT, Int.reduceNeg, DF, eff, Nat.reduceSub, fwrap_i64, lx, lx6]
  refine OQ_does (tOf_ok F06.wf (dx.fr w F06)) ?_
  rintro _ h7 ⟨b, rfl, eb, lb, Gb, Sb, F7⟩
  have F67 := F6.then F7
  have F07 := F06.then F7
  have nn6 := F6.next
  have nn7 := F7.next
  -- what stands of the two slices
  have SaA : Stab (fun y => h5.next ≤ y ∧ y < h6.next) h6 fun h => ScH h a := by
    have g1 := (Stab.gs F6.wf Ga (P := fun y => y ∈ vb a.vr) fun y m => m).wk (Q := fun y => h5.next ≤ y ∧ y < h6.next) fun y l m => ⟨Ga.ge y m, l⟩
    have g2 := Sa.wk (Q := fun y => h5.next ≤ y ∧ y < h6.next) fun y l p => ⟨p.1, l⟩
    exact (g1.and g2).imp fun h q => ⟨⟨Gs.sl q.1 (flat_len Rw.len _) (by omega), q.2.1, by omega⟩, q.2.2⟩
  have Sa7 := SaA.fr0 F6.wf F7
  have ha7 := Sa7.now F7.wf
  have hb7 : ScH h7 b := ⟨⟨Gs.sl Gb (flat_len Rw.len _) (by omega), (Sb.now F7.wf).1, by omega⟩, (Sb.now F7.wf).2⟩
  simp (maxSteps := 1000000) (disch := omega) only [evs, ↓reduceIte, Nat.reduceEqDiff, Nat.reduceAdd, Nat.reduceMul, Nat.reduceLeDiff, Nat.reduceLT, Int.reduceNeg, DF, eff, Nat.reduceSub, fwrap_i64, lx, lx6, WD_late, late_al]
  refine store_step (c' := a.cells) F7.wf (F67.get o45) rfl ha7.one rfl ?_
  intro h8 o8 F8 n8
  simp (maxSteps := 1000000) (disch := omega) only [evs, ↓reduceIte, Nat.reduceEqDiff, Nat.reduceAdd, Nat.reduceMul, Nat.reduceLeDiff, Nat.reduceLT, Int.reduceNeg, DF, eff, Nat.reduceSub, fwrap_i64, lx, lx6, WD_late, late_al]
  refine store_step (c' := b.cells) F8.wf (F8.own _ _ (by simp) (F67.get o5)) rfl hb7.one rfl ?_
  intro h9 o9 F9 n9
  have F79 : Fr [h3.next, h3.next + 1] h7 h9 := F8.trans F9 F7.wf (fun y m => .inl (by simp at m; simp [m])) (fun y m => .inl (by simp at m; simp [m]))
  have o89 := F9.own _ _ (by simp) o8
  have no : ∀ y ∈ [h3.next, h3.next + 1], y < h5.next ∧ h.next ≤ y := by simp; omega
  have nh3 := F03.next
  have F09 : Fr [] h h9 := F07.trans F79 w (by simp) (fun y m => .inr (no y m).2)
  have F59 : Fr [h3.next, h3.next + 1] h5 h9 := F67.trans F79 F05.wf (by simp) (fun y m => .inl m)
  have oo9 : Own h9 h2.next o.cells := F59.own _ _ (by simp; omega) (F35.get o_h3)
  have oz9 : Own h9 h1.next [.int .u8 (z0 : Int), .int .u8 (z1 : Int), .int .u8 (z2 : Int)] := F59.own _ _ (by simp; omega) (F35.get (F_h3.get o_h2))
  have Sa9 := Sa7.fr F7.wf F79 fun y m => .inl fun p => by have := (no y m).1; omega
  have Sb9 := Sb.fr F7.wf F79 fun y m => .inl fun p => by have := (no y m).1; have := p.1; omega
  have Gb9 : Gs h9 h6.next 9 b.vr (b.rows.flatMap Rw.cells) := (Stab.gs F7.wf Gb (P := fun y => h6.next ≤ y) fun y m => Gb.ge y m) _ _ (fun y m => .inl fun p => by have := (no y m).1; omega) F79
  have lo : hload h9 h2.next 0 6 = some o.cells := by rw [oo9.ld]; rfl
  simp (maxSteps := 1000000) (disch := omega) only [evs, ↓reduceIte, Nat.reduceEqDiff, Nat.reduceAdd, Nat.reduceMul, Nat.reduceLeDiff, Nat.reduceLT, Int.reduceNeg, DF, eff, Nat.reduceSub, fwrap_i64, lx, lx6, lo]
  refine OQ_does (wOf_ok F09.wf (dw.fr w F09)) ?_
  rintro _ h10 ⟨r, rfl, er, Sr, F10⟩
  have nn10 := F10.next
  obtain ⟨h11, e_h11⟩ : ∃ h11, h11 = halloc h10 [.int .u64 0, .int .i64 0, .int .i64 0, .int .u8 0, .str [], .str [], .nils, .str [], .nils] := ⟨_, rfl⟩
  have F_h11 : Fr [] h10 h11 := e_h11 ▸ Fr.halloc F10.wf _
  have o_h11 : Own h11 h10.next [.int .u64 0, .int .i64 0, .int .i64 0, .int .u8 0, .str [], .str [], .nils, .str [], .nils] := e_h11 ▸ Own.new F10.wf _
  simp (maxSteps := 1000000) (disch := omega) only [evs, ↓reduceIte, Nat.reduceEqDiff, Nat.reduceAdd, Nat.reduceMul, Nat.reduceLeDiff, Nat.reduceLT, Int.reduceNeg, DF, eff, Nat.reduceSub, fwrap_i64, ← e_h11]
  refine store_step (c' := r.cells) F_h11.wf o_h11 rfl (Sr.now F10.wf).one rfl ?_
  intro h12 o12 F12 n12
  have n11 := hnx e_h11
  have F1012 : Fr [] h10 h12 := F_h11.fresh F12 F10.wf (Nat.le_refl _)
  have F912 := F10.then F1012
  have F012 := F09.then F912
  have oa := F912.get o89
  have ob := F912.get o9
  have oz := F912.get oz9
  have blt : ∀ y ∈ vb b.vr, h6.next ≤ y ∧ y < h9.next := fun y m => ⟨Gb9.ge y m, Gb9.lt F09.wf y m⟩
  have Gb12 : Gs h12 h.next 9 b.vr (b.rows.flatMap Rw.cells) := (Gb9.fr F912).low (by have := F06.next; omega)
  have l1 : hload1 h12 (h3.next + 1) 1 = some b.vr := ob.ld1 1
  have lz0 : hload1 h12 h1.next 0 = some (.int .u8 (z0 : Int)) := oz.ld1 0
  have lz1 : hload1 h12 h1.next 1 = some (.int .u8 (z1 : Int)) := oz.ld1 1
  have ix : aP (.ixa 3 1) [.ptr h1.next 0, .int .i64 1] = some (.ptr h1.next 1) := by rw [aP_ixa _ _ _ _ _ _ (by omega) (by omega)]; simp
  have slb : Recs Rw.cells 9 h12 b.vr b.rows := Gs.sl Gb12 (flat_len Rw.len _) (by omega)
  have goods : ∀ y ∈ b.rows, y.c.ok := by
    intro y m
    have : y.c ∈ b.c.rows := List.mem_map.2 ⟨y, m, rfl⟩
    rw [eb] at this
    obtain ⟨q, m1, e1⟩ := List.mem_map.1 this
    rw [← e1]
    exact DwH.ok (dx.1.2.1 q (List.mem_of_mem_take m1))
  have offb : R64 b.off := by have : b.off = x.off := congrArg CS.off eb; rw [this]; exact ho
  have hdb : R64 b.hd.top := by
    have : b.hd.top = (hdC x.heads).top := congrArg (fun c => c.hd.top) eb
    rw [this]; exact hdC_top dx.2.2.1
  have okr : r.c.ok := by rw [er]; exact DwH.ok dw
  have main : ∀ (k : Nat) (env' : T V), (0 < b.rows.length → k < b.rows.length) → env'.get 7 = some (.ptr h3.next 0) → env'.get 8 = some (.ptr (h3.next + 1) 0) → env'.get 9 = some (.str []) → env'.get 10 = some (.ptr h10.next 0) → env'.get 11 = some (.int .i64 (b.rows.length : Int)) → env'.get 12 = some (.int .i64 (k : Int)) →
      env'.get 13 = some (.int .u8 ((z0 % 9 : Nat) : Int)) → SwS h h12 env' h3.next (h3.next + 1) h10.next a b r k (z0 % 9) := by
    intro k env' kn e7 e8 e9 e10 e11 e12 e13
    refine ⟨w, F012, e7, e8, e9, e10, e11, e12, e13, oa, ob, o12, by omega, by omega, by have := F09.next; omega, by omega, by omega, by omega, fun m => by have := blt _ m; omega, fun m => by have := blt _ m; omega, fun m => by have := blt _ m; omega, Gb12, ?_, ?_, ?_, ea.trans eb.symm, lb, kn, goods, okr, offb, hdb⟩
    · exact (Sa9.fr0 F09.wf F912).wk fun y _ p => ⟨by omega, by omega, by omega, fun m => by have := blt y m; omega⟩
    · exact (Sb9.wk (Q := fun y => h6.next ≤ y ∧ y ∉ vb b.vr ∧ y < h9.next) fun y l p => ⟨p.1, p.2, l⟩).fr0 F09.wf F912 |>.wk fun y _ p => ⟨by have := p.1; omega, by have := p.1; omega, by have := p.2.2; omega, p.2.1⟩
    · exact (Sr.wk (Q := fun y => h9.next ≤ y ∧ y < h10.next) fun y l p => ⟨p, l⟩).fr0 F10.wf F1012 |>.wk fun y _ p => ⟨by omega, by omega, by omega, fun m => by have := blt y m; omega⟩
  by_cases c : 0 < b.rows.length
  · have rm := rem_i64 z1 b.rows.length (b.rows.length : Int) rfl (by omega)
    simp (maxSteps := 1000000) (disch := omega) only [evs, ↓reduceIte, Nat.reduceEqDiff, Nat.reduceAdd, Nat.reduceMul, Nat.reduceLeDiff, Nat.reduceLT, Int.reduceNeg, DF, eff, Nat.reduceSub, fwrap_i64, l1, slb.len, show (0 : Int) < (b.rows.length : Int) by omega, ix, lz1, rm]
    exact mz_ok (k := z1 % b.rows.length) (by simp [T.get_set]) lz0 T0 (fun env' e7 e8 e9 e10 e11 e12 e13 => main (z1 % b.rows.length) env' (fun q => Nat.mod_lt _ q) (e7.trans (by simp [T.get_set])) (e8.trans (by simp [T.get_set])) (e9.trans (by simp [T.get_set])) (e10.trans (by simp [T.get_set])) (e11.trans (by simp [T.get_set])) (e12.trans (by simp [T.get_set])) e13) fun h' f => ⟨rfl, f⟩
  · simp (maxSteps := 1000000) (disch := omega) only [evs, ↓reduceIte, Nat.reduceEqDiff, Nat.reduceAdd, Nat.reduceMul, Nat.reduceLeDiff, Nat.reduceLT, Int.reduceNeg, DF, eff, Nat.reduceSub, fwrap_i64, l1, slb.len, show ¬ (0 : Int) < (b.rows.length : Int) by omega]
    exact mz_ok (k := 0) (by simp [T.get_set]) lz0 T0 (fun env' e7 e8 e9 e10 e11 e12 e13 => main 0 env' (fun q => q) (e7.trans (by simp [T.get_set])) (e8.trans (by simp [T.get_set])) (e9.trans (by simp [T.get_set])) (e10.trans (by simp [T.get_set])) (e11.trans (by simp [T.get_set])) (e12.trans (by simp [T.get_set])) e13) fun h' f => ⟨rfl, f⟩
end Go.Ev.Lay
open Go.RowKit
namespace Go.Ev
def Has (m : M) (p : Nat) (Ms : List (Option Loc)) : Prop := ∀ (i : Nat) loc, Ms[i]? = some (some loc) → m (p + i) = some loc
def HasR (h : Heap) (p : Nat) (Cs : List (List V)) : Prop := ∀ (i : Nat) c, Cs[i]? = some c → Rs h (p + i) c
theorem Has.left {m : M} {p : Nat} {A B : List (Option Loc)} (a : Has m p (A ++ B)) : Has m p A := fun i loc h => a i loc (by rw [List.getElem?_append_left (List.getElem?_eq_some_iff.1 h).1]; exact h)
theorem Has.right {m : M} {p : Nat} {A B : List (Option Loc)} (a : Has m p (A ++ B)) : Has m (p + A.length) B := fun i loc h => by
  have := a (A.length + i) loc (by rw [List.getElem?_append_right (by omega), show A.length + i - A.length = i by omega]; exact h)
  rwa [← Nat.add_assoc] at this
theorem HasR.left {h : Heap} {p : Nat} {A B : List (List V)} (a : HasR h p (A ++ B)) : HasR h p A := fun i c e => a i c (by rw [List.getElem?_append_left (List.getElem?_eq_some_iff.1 e).1]; exact e)
theorem HasR.right {h : Heap} {p : Nat} {A B : List (List V)} (a : HasR h p (A ++ B)) : HasR h (p + A.length) B := fun i c e => by
  have := a (A.length + i) c (by rw [List.getElem?_append_right (by omega), show A.length + i - A.length = i by omega]; exact e)
  rwa [← Nat.add_assoc] at this
theorem HasR.tail {h : Heap} {p : Nat} {c : List V} {B : List (List V)} (a : HasR h p (c :: B)) : HasR h (p + 1) B := HasR.right (A := [c]) a
theorem Has.tail {m : M} {p : Nat} {l : Option Loc} {B : List (Option Loc)} (a : Has m p (l :: B)) : Has m (p + 1) B := Has.right (A := [l]) a
def ArrM (W : World) (m : M) (loc : Loc) (c : List V) : Prop := loc.lp = none ∧ c.length = loc.room ∧ ∃ C ty fz, W.heap[loc.block]? = some (.cells C ty fz) ∧ loc.base + loc.room ≤ C.size ∧
  (∀ (i : Nat) v, c[i]? = some v → ∃ x, C[loc.base + i]? = some x ∧ VRel m v x) ∧ ∀ i : Nat, i < loc.room → ¬ (fz.1 ≤ loc.base + i ∧ loc.base + i < fz.2)
def VEx (v : V) : Prop := ∀ (m : M) x x', VRel m v x → VRel m v x' → x = x'
theorem VEx.int (k : IntKind) (n : Int) : VEx (.int k n) := fun m x x' h h' => by simp only [VRel] at h h'; rw [h, h']
theorem VEx.str (s : List UInt8) : VEx (.str s) := fun m x x' h h' => by simp only [VRel] at h h'; rw [h, h']
theorem VEx.nils : VEx .nils := fun m x x' h h' => by simp only [VRel] at h h'; rw [h, h']
theorem VEx.sliceZ (a : Addr) (c : Nat) : VEx (.sliceZ a c) := fun m x x' h h' => by simp only [VRel] at h h'; rw [h, h']
theorem VEx.slice (b o l c : Nat) : VEx (.slice b o l c) := fun m x x' h h' => by
  simp only [VRel] at h h'
  obtain ⟨p, e, _, r⟩ := h
  obtain ⟨p', e', _, r'⟩ := h'
  rw [e] at e'; cases e'
  rw [r, r']
theorem VsRel.app {m : M} : ∀ {a b : List V} {x y : List Value}, VsRel m a x → VsRel m b y → VsRel m (a ++ b) (x ++ y)
  | [], _, x, _, h, g => by have : x = [] := h; subst this; exact g
  | v :: vs, _, _, _, h, g => by
    obtain ⟨v', vs', rfl, h1, h2⟩ := h
    exact ⟨v', vs' ++ _, rfl, h1, h2.app g⟩
theorem VsRel.at {m : M} : ∀ {a : List V} {x : List Value}, VsRel m a x → ∀ (i : Nat) v, a[i]? = some v → ∃ u, x[i]? = some u ∧ VRel m v u
  | [], _, _, i, v, e => by simp at e
  | v :: vs, _, h, i, u, e => by
    obtain ⟨v', vs', rfl, h1, h2⟩ := h
    cases i with
    | zero => simp at e; subst e; exact ⟨v', rfl, h1⟩
    | succ i => exact h2.at i u (by simpa using e)
structure Tell (W : World) (p : Nat) (vs : List V) (xs : List Value) (Ms : List (Option Loc)) (Cs : List (List V)) : Prop where
  l : Ms.length = Cs.length
  v : ∀ m, Has m p Ms → VsRel m vs xs
  a : ∀ m, Has m p Ms → ∀ (i : Nat) loc c, Ms[i]? = some (some loc) → Cs[i]? = some c → ArrM W m loc c
  e : ∀ c ∈ Cs, ∀ u ∈ c, VEx u
  x : ∀ u ∈ vs, VEx u
section
variable {W : World} {p : Nat} {vs vs' : List V} {xs xs' : List Value} {Ms Ms' : List (Option Loc)} {Cs Cs' : List (List V)}
theorem Tell.app (s : Tell W p vs xs Ms Cs) (t : Tell W (p + Ms.length) vs' xs' Ms' Cs') : Tell W p (vs ++ vs') (xs ++ xs') (Ms ++ Ms') (Cs ++ Cs') := by
  refine ⟨by simp [s.l, t.l], fun m hm => (s.v m hm.left).app (t.v m hm.right), fun m hm i loc c h1 h2 => ?_, fun c hc => ?_, fun u hu => ?_⟩
  · by_cases hi : i < Ms.length
    · rw [List.getElem?_append_left hi] at h1
      rw [List.getElem?_append_left (by rw [← s.l]; exact hi)] at h2
      exact s.a m hm.left i loc c h1 h2
    · rw [List.getElem?_append_right (by omega)] at h1
      rw [List.getElem?_append_right (by rw [← s.l]; omega), ← s.l] at h2
      exact t.a m hm.right _ loc c h1 h2
  · exact (List.mem_append.1 hc).elim (s.e c) (t.e c)
  · exact (List.mem_append.1 hu).elim (s.x u) (t.x u)
theorem Tell.flat (h : ∀ m, VsRel m vs xs) (x : ∀ u ∈ vs, VEx u) : Tell W p vs xs [] [] := ⟨rfl, fun m _ => h m, fun m _ i loc c e => by simp at e, by simp, x⟩
theorem Tell.arr {b off n k cap : Nat} {C : Array Value} {ty : TypeId} {fz : Nat × Nat} (hC : W.heap[b]? = some (.cells C ty fz)) (hsz : off + n * k ≤ C.size) (hfz : ∀ i : Nat, i < n * k → ¬ (fz.1 ≤ off + i ∧ off + i < fz.2))
    (hx : ∀ (i : Nat) x, xs[i]? = some x → C[off + i]? = some x) (lx : vs.length = n * k) (hcap : n ≤ cap) (t : Tell W (p + 1) vs xs Ms Cs) :
    Tell W p [.slice p 0 n cap] [.slice (some ⟨b, off, none⟩) n cap] (some ⟨b, off, n * k, none⟩ :: Ms) (vs :: Cs) := by
  refine ⟨by simp [t.l], fun m hm => ⟨_, [], rfl, ⟨_, hm 0 _ rfl, hcap, by simp⟩, rfl⟩, fun m hm i loc c h1 h2 => ?_, fun c hc => ?_, fun u hu => ?_⟩
  · cases i with
    | zero =>
      simp at h1 h2; subst h1 h2
      refine ⟨rfl, lx, C, ty, fz, hC, hsz, fun i v hv => ?_, hfz⟩
      obtain ⟨u, e, r⟩ := (t.v m hm.tail).at i v hv
      exact ⟨u, hx i u e, r⟩
    | succ i => exact t.a m hm.tail i loc c (by simpa using h1) (by simpa using h2)
  · rcases List.mem_cons.1 hc with rfl | hc
    · exact t.x
    · exact t.e c hc
  · have : u = _ := List.mem_singleton.1 hu
    subst this; exact VEx.slice _ _ _ _
end
theorem below_ex {m m' : M} {h h' : Heap} {w w' : World} (H : HRel m h w) (H' : HRel m' h' w') (E : Ext m h w m' h' w')
    (flat : ∀ p loc, m p = some loc → ∃ c, Rdb h p c ∧ Rdb h' p c ∧ c.length = loc.room ∧ ∀ v ∈ c, VEx v) : Below w.heap.size w w' := by
  refine ⟨E.os, E.tape, E.output, E.size, fun b hb => ?_⟩
  by_cases cc : ∃ p loc, m p = some loc ∧ loc.block = b
  · obtain ⟨p, loc, hp, rfl⟩ := cc
    obtain ⟨cs, o, o', len, ints⟩ := flat p loc hp
    obtain ⟨C, el, fz, hC, hsz, hcell⟩ := H.cellsR hp o
    obtain ⟨x', hx', k⟩ := E.out loc.block hb _ hC
    cases x' with
    | cells C' el' fz' =>
      obtain ⟨rfl, kfz, ksz, kout⟩ := k
      have hfz : fz' = fz := by
        rcases kfz with q | ⟨j, j1, j2, q, lq, hq, hbq, j3, j4⟩
        · exact q
        · exfalso
          obtain ⟨cq, oq, oq', lenq, _⟩ := flat q lq hq
          obtain ⟨f, k, e, r⟩ := oq'.rd
          obtain ⟨b, hb, rel⟩ := H'.blk q lq (E.le _ _ hq)
          rw [e] at hb; cases hb
          obtain ⟨C2, el2, fz2, hC2, _, _, _, a5⟩ := rel r
          rw [hbq, hx'] at hC2; cases hC2
          exact a5 (j - lq.base) (by omega) ⟨by omega, by omega⟩
      subst hfz
      rw [hx', hC]
      have : C' = C := by
        apply Array.ext_getElem?
        intro j
        by_cases cv : Cov m loc.block j
        · obtain ⟨q, lq, hq, hbq, j1, j2⟩ := cv
          obtain ⟨cq, oq, oq', lenq, intq⟩ := flat q lq hq
          obtain ⟨C1, el1, fz1, hC1, _, hc1⟩ := H.cellsR hq oq
          obtain ⟨C2, el2, fz2, hC2, _, hc2⟩ := H'.cellsR (E.le _ _ hq) oq'
          rw [hbq] at hC1 hC2
          rw [hC] at hC1; cases hC1
          rw [hx'] at hC2; cases hC2
          have hlt : j - lq.base < cq.length := by omega
          have ex := intq cq[j - lq.base] (List.getElem_mem hlt)
          have ec : cq[j - lq.base]? = some cq[j - lq.base] := List.getElem?_eq_getElem hlt
          obtain ⟨x1, e1, r1⟩ := hc1 (j - lq.base) _ ec
          obtain ⟨x2, e2, r2⟩ := hc2 (j - lq.base) _ ec
          rw [show lq.base + (j - lq.base) = j by omega] at e1 e2
          rw [e1, e2, ex m' x1 x2 (VRel.mono E.le _ _ r1) r2]
        · exact kout j cv
      rw [this]
    | _ => simp at k
  · exact E.keep b (fun p loc hp e => cc ⟨p, loc, hp, e⟩) hb
end Go.Ev
