/- An evaluator of the program, and contracts over it: SdC to SdH0. -/
import Derived.Test.YthhhghfnhbocnaaGreatDoorP09
set_option linter.unusedSimpArgs false
set_option linter.unusedVariables false
set_option linter.constructorNameAsVariable false
set_option linter.unnecessarySimpa false
namespace Go.Ev.Lay
set_option maxRecDepth 4000
def u8C (c : Nat) : List V := [.int .u8 (c : Int)]
theorem u8C_len (c : Nat) : (u8C c).length = 1 := rfl
def rs (code : List Nat) (a : Nat) : List Nat := (code.take 19).drop a
theorem rs_cons {code : List Nat} {a : Nat} (h1 : a < code.length) (h2 : a < 19) : ∃ c, code[a]? = some c ∧ rs code a = c :: rs code (a + 1) := by
  have e : (code.take 19)[a]? = some code[a] := by rw [List.getElem?_take, if_pos h2]; exact List.getElem?_eq_getElem h1
  exact ⟨code[a], List.getElem?_eq_getElem h1, drop_cons e⟩
theorem rs_nil {code : List Nat} {a : Nat} (h : ¬ (a < code.length ∧ a < 19)) : rs code a = [] := List.drop_of_length_le (by simp; omega)
theorem bld_nil (f lv n : Nat) (ks : List Str) : bld f [] lv n ks = (.nil, []) := by cases f <;> rfl
section
variable {f c lv n : Nat} {r : List Nat} {ks : List Str}
theorem bld_0 (h : c % 8 = 0) : bld (f + 1) (c :: r) lv n ks = (.nil, r) := by rw [bld, if_pos h]
theorem bld_16 (h : ¬ c % 8 = 0) (h1 : n = 16) : bld (f + 1) (c :: r) lv n ks = bld f r lv n ks := by rw [bld, if_neg h, if_pos h1]
theorem bld_w (h : ¬ c % 8 = 0) (h1 : ¬ n = 16) (h2 : c % 8 < 3) : bld (f + 1) (c :: r) lv n ks = (.cons 2 [] [] [] (wordL (c / 8)) .nil (bld f r lv (n + 1) (ks ++ [[]])).1, (bld f r lv (n + 1) (ks ++ [[]])).2) := by rw [bld, if_neg h, if_neg h1, if_pos h2]
theorem bld_e (h : ¬ c % 8 = 0) (h1 : ¬ n = 16) (h2 : ¬ c % 8 < 3) : bld (f + 1) (c :: r) lv n ks =
    (.cons 1 (tagL (c / 8)) (keyB c ks) (attU (c / 2) 3) [] (if lv < 5 then bld f r (lv + 1) 0 [] else (.nil, r)).1 (bld f (if lv < 5 then bld f r (lv + 1) 0 [] else (.nil, r)).2 lv (n + 1) (ks ++ [keyB c ks])).1,
      (bld f (if lv < 5 then bld f r (lv + 1) 0 [] else (.nil, r)).2 lv (n + 1) (ks ++ [keyB c ks])).2) := by rw [bld, if_neg h, if_neg h1, if_neg h2]
end
def RO (h : Heap) (v : V) (code : List Nat) : Prop := Stab (fun _ => False) h fun h => ARecs u8C 1 h v code
theorem RO.fr {h h' : Heap} {v : V} {code : List Nat} {X : List Nat} (r : RO h v code) (w : WF h) (f : Fr X h h') : RO h' v code := Stab.fr r w f fun _ _ => .inl id
def BR (h h' : Heap) (u : V) (p : CT × List Nat) (code : List Nat) : Prop := ∃ (t : NT) (v' : V) (a2 : Nat), u = .tup [v', .int .i64 (a2 : Int)] ∧ Gs h' h.next 6 v' t.cells ∧ Stab (fun x => h.next ≤ x) h' (fun h => NH h t) ∧
  t.len ≤ 16 ∧ t.ct = p.1 ∧ p.2 = rs code a2 ∧ a2 ≤ 19 ∧ Fr [] h h'
structure El (hh : Heap) (env : T V) (L N b : Nat) (v v8 : V) (t : NT) (code : List Nat) (a lv : Nat) (tg ky : Str) (at' : List (Str × Str)) (va : V) : Prop where
  w : WF hh
  g0 : env.get 0 = some v
  g1 : env.get 1 = some (.int .i64 (a : Int))
  g2 : env.get 2 = some (.int .i64 (lv : Int))
  g8 : env.get 8 = some v8
  g10 : env.get 10 = some (.ptr b 0)
  cd : RO hh v code
  gt : Gs hh L 6 v8 t.cells
  st : Stab (fun x => L ≤ x ∧ x < N ∧ x ∉ vb v8) hh fun h => NH h t
  lt : ∀ x ∈ vb v8, x < N
  ln : t.len < 16
  LN : L ≤ N
  Nb : N ≤ b
  bn : b < hh.next
  ob : Own hh b [.int .u8 1, .str tg, .str ky, va, .str [], .nils]
  ra : Stab (fun x => N ≤ x ∧ x ≠ b) hh fun h => Recs attC 2 h va at'
  la : at'.length ≤ 4096
theorem NH.one1 {h : Heap} {k : Nat} {tg ky tx : Str} {at' : List (Str × Str)} {va vc : V} {sub : NT} (x : NH h (.cons k tg ky at' tx va vc sub .nil)) : onesB [.int .u8 (k : Int), .str tg, .str ky, va, .str tx, vc] = true := by
  simpa [NT.cells] using x.ones
theorem el_push {hh : Heap} {env : T V} {L N b a lv : Nat} {v v8 vc : V} {t sub : NT} {code : List Nat} {tg ky : Str} {at' : List (Str × Str)} {va : V} {K : V → Heap → Prop}
    (w : WF hh) (gt : Gs hh L 6 v8 t.cells) (st : Stab (fun x => L ≤ x ∧ x < N ∧ x ∉ vb v8) hh fun h => NH h t) (lt : ∀ x ∈ vb v8, x < N) (ln : t.len < 16) (LN : L ≤ N) (hN : N ≤ hh.next)
    (ra : Stab (fun x => N ≤ x ∧ x ≠ b) hh fun h => Recs attC 2 h va at') (la : at'.length ≤ 4096) (sc : Stab (fun x => N ≤ x ∧ x ≠ b) hh fun h => Sl h 6 vc sub.len sub.cells ∧ NH h sub) (ls : sub.len ≤ 4096)
    (k : ∀ v' h', Gs h' L 6 v' (t.app (.cons 1 tg ky at' [] va vc sub .nil)).cells → Stab (fun x => L ≤ x ∧ x ∉ vb v') h' (fun h => NH h (t.app (.cons 1 tg ky at' [] va vc sub .nil))) → Fr (vb v8) hh h' → K v' h') :
    OQ (aapp (halloc hh [.int .u8 1, .str tg, .str ky, va, .str [], vc]) 6 104 v8 (.slice hh.next 0 1 1)) K := by
  refine push_ok (k := 1) (tx := []) (at' := at') (sub := sub) w gt (by omega) (st.wk fun x _ p => ⟨p.1, p.2.2⟩) ?_ (by omega) k
  refine ((ra.and sc).wk (Q := fun x => L ≤ x ∧ x ∉ vb v8) fun x _ p => ⟨by omega, fun m => by have := lt x m; omega⟩).imp ?_
  rintro h ⟨a, c, d⟩
  exact ⟨by omega, a, la, c, ls, d, trivial⟩
theorem bT_ok {hh : Heap} {env : T V} {L N b a lv : Nat} {v v8 va : V} {t : NT} {code : List Nat} {tg ky : Str} {at' : List (Str × Str)} {f : Nat} {Q : Ex → T V → Heap → Prop} (E : El hh env L N b v v8 t code a lv tg ky at' va) (hl : lv ≤ 5) (ha : a ≤ 19)
    (rec : ∀ {h : Heap}, WF h → RO h v code → lv < 5 → Does go 53 [v, .int .i64 (a : Int), .int .i64 ((lv + 1 : Nat) : Int)] h fun u h' => BR h h' u (bld f (rs code a) (lv + 1) 0 []) code)
    (k : ∀ env' h' v' t' va' vc' sub a', t' = t.app (.cons 1 tg ky at' [] va' vc' sub .nil) → sub.ct = (if lv < 5 then bld f (rs code a) (lv + 1) 0 [] else (.nil, rs code a)).1 → (if lv < 5 then bld f (rs code a) (lv + 1) 0 [] else (.nil, rs code a)).2 = rs code a' → a' ≤ 19 →
      env'.get 0 = some v → env'.get 1 = some (.int .i64 (a' : Int)) → env'.get 2 = some (.int .i64 (lv : Int)) → env'.get 8 = some v' → Gs h' L 6 v' t'.cells → Stab (fun x => L ≤ x ∧ x ∉ vb v') h' (fun h => NH h t') → Fr (b :: vb v8) hh h' → Q .norm env' h') :
    W go bT env hh Q := by
  obtain ⟨w, g0, g1, g2, g8, g10, cd, gt, st, lt, ln, LN, Nb, bn, ob, ra, la⟩ := E
  by_cases c : lv < 5
  · simp only [if_pos c] at k
    simp (maxSteps := 1000000) (disch := omega) only [evs, ↓reduceIte, Nat.reduceEqDiff, Nat.reduceAdd, Nat.reduceMul, Nat.reduceLeDiff, Nat.reduceLT, Int.reduceNeg, DF, eff, Nat.reduceSub, fwrap_i64, bT, g0, g1, g2, g8, g10, show (lv : Int) < 5 by omega]
    refine OQ_does (rec w cd c) ?_
    rintro _ h1 ⟨sub, v1, a1, rfl, G1, S1, L1, e1, e2, ha1, F1⟩
    have ob1 := F1.get ob
    have one1 : v1.one = true := G1.one
    simp (maxSteps := 1000000) (disch := omega) only [evs, ↓reduceIte, Nat.reduceEqDiff, Nat.reduceAdd, Nat.reduceMul, Nat.reduceLeDiff, Nat.reduceLT, Int.reduceNeg, DF, eff, Nat.reduceSub, fwrap_i64, g0, g1, g2, g8, g10]
    refine store_step (c' := [.int .u8 1, .str tg, .str ky, va, .str [], v1]) F1.wf ob1 (by rw [cells_one one1]; rfl) (by rw [cells_one one1]; simp [onesB_cons, onesB_nil, one1]) (by rw [cells_one one1]; rfl) ?_
    intro h2 o2 F2 n2
    have nn := F1.next
    have F02 : Fr [b] hh h2 := F1.trans F2 w (by simp) (fun x m => .inl m)
    have ld : hload h2 b 0 6 = some [.int .u8 1, .str tg, .str ky, va, .str [], v1] := by rw [o2.ld]; rfl
    have bv8 : b ∉ vb v8 := fun m => by have := lt b m; omega
    have gt2 : Gs h2 L 6 v8 t.cells := (Stab.gs w gt (P := fun x => x ∈ vb v8) fun x m => m) [b] h2 (fun x m => .inl (by simp at m; subst m; exact bv8)) F02
    have st2 := st.fr w F02 (by intro x m; rw [List.mem_singleton.1 m]; exact .inl fun p => by omega)
    have ra2 := ra.fr w F02 (by intro x m; rw [List.mem_singleton.1 m]; exact .inl fun p => p.2 rfl)
    have Sg : Stab (fun x => hh.next ≤ x) h1 fun h => Sl h 6 v1 sub.len sub.cells := (Stab.gs F1.wf G1 fun x m => G1.ge x m).imp fun h q => q.sl sub.cells_len (by omega)
    have sc : Stab (fun x => N ≤ x ∧ x ≠ b) h2 fun h => Sl h 6 v1 sub.len sub.cells ∧ NH h sub :=
      ((Sg.and S1).fr F1.wf F2 (by intro x m; rw [List.mem_singleton.1 m]; exact .inl fun p => by omega)).wk fun x _ p => ⟨by omega, by omega⟩
    simp (maxSteps := 1000000) (disch := omega) only [evs, ↓reduceIte, Nat.reduceEqDiff, Nat.reduceAdd, Nat.reduceMul, Nat.reduceLeDiff, Nat.reduceLT, Int.reduceNeg, DF, eff, Nat.reduceSub, fwrap_i64, g0, g1, g2, g8, g10, ld]
    refine el_push (b := b) (a := a) (lv := lv) (v := v) (env := env) (code := code) (at' := at') F2.wf gt2 st2 lt ln LN (by omega) ra2 la sc (by omega) ?_
    intro v' h3 G3 S3 F3
    simp (maxSteps := 1000000) (disch := omega) only [evs, ↓reduceIte, Nat.reduceEqDiff, Nat.reduceAdd, Nat.reduceMul, Nat.reduceLeDiff, Nat.reduceLT, Int.reduceNeg, DF, eff, Nat.reduceSub, fwrap_i64, g0, g1, g2, g8, g10]
    refine k _ _ v' _ va v1 sub a1 rfl e1 e2 ha1 (by simp [T.get_set, g0]) (by simp [T.get_set]) (by simp [T.get_set, g2]) (by simp [T.get_set]) G3 S3 ?_
    exact F02.trans F3 w (fun x m => .inl (by simp at m; simp [m])) (fun x m => .inl (List.mem_cons_of_mem _ m))
  · simp only [if_neg c] at k
    have ld : hload hh b 0 6 = some [.int .u8 1, .str tg, .str ky, va, .str [], .nils] := by rw [ob.ld]; rfl
    simp (maxSteps := 1000000) (disch := omega) only [evs, ↓reduceIte, Nat.reduceEqDiff, Nat.reduceAdd, Nat.reduceMul, Nat.reduceLeDiff, Nat.reduceLT, Int.reduceNeg, DF, eff, Nat.reduceSub, fwrap_i64, bT, g0, g1, g2, g8, g10, show ¬ (lv : Int) < 5 by omega, ld]
    refine el_push (b := b) (a := a) (lv := lv) (v := v) (env := env) (code := code) (at' := at') (sub := .nil) w gt st lt ln LN (by omega) ra la (fun _ _ _ _ => ⟨⟨rfl, rfl⟩, trivial⟩) (by simp [NT.len]) ?_
    intro v' h3 G3 S3 F3
    simp (maxSteps := 1000000) (disch := omega) only [evs, ↓reduceIte, Nat.reduceEqDiff, Nat.reduceAdd, Nat.reduceMul, Nat.reduceLeDiff, Nat.reduceLT, Int.reduceNeg, DF, eff, Nat.reduceSub, fwrap_i64, g0, g1, g2, g8, g10]
    refine k _ _ v' _ va .nils .nil a rfl rfl rfl ha (by simp [T.get_set, g0]) (by simp [T.get_set, g1]) (by simp [T.get_set, g2]) (by simp [T.get_set]) G3 S3 ?_
    exact F3.trans (Fr.refl (S := []) F3.wf) w (fun x m => .inl (List.mem_cons_of_mem _ m)) (by simp)
def stk (ks : List Str) (ky : Str) : Nat → Str
  | 0 => ky
  | i + 1 => if ks[i]? = some (stk ks ky i) then [] else stk ks ky i
theorem stk_eq (ks : List Str) (ky : Str) (hk : ky ≠ []) : ∀ i, i ≤ ks.length → stk ks ky i = if (ks.take i).any (· == ky) = true then [] else ky
  | 0, _ => by simp [stk]
  | i + 1, hi => by
    have e : ks[i]? = some ks[i] := List.getElem?_eq_getElem (by omega)
    rw [stk, stk_eq ks ky hk i (by omega), List.take_add_one, e, List.any_append]
    by_cases c : (ks.take i).any (· == ky) = true
    · simp [c]
    · simp only [c]
      by_cases d : ks[i] = ky
      · simp [d]
      · simp [d]
theorem bK_ok {hh : Heap} {env : T V} {L N b a lv c : Nat} {v v8 va : V} {t : NT} {code : List Nat} {tg : Str} {at' : List (Str × Str)} {Q : Ex → T V → Heap → Prop} (E : El hh env L N b v v8 t code a lv tg [] at' va) (g9 : env.get 9 = some (.int .u8 (c : Int))) (hc : c < 256)
    (k : ∀ env' h', El h' env' L N b v v8 t code a lv tg (keyB c t.keys) at' va → Fr [b] hh h' → W go bT env' h' Q) : W go bK env hh Q := by
  have r8 := rem_u8 c 8 8 rfl (by omega)
  by_cases c3 : c % 8 = 3
  · obtain ⟨w, g0, g1, g2, g8, g10, cd, gt, st, lt, ln, LN, Nb, bn, ob, ra, la⟩ := E
    have q8 := quo_u8 c 8 8 rfl (by omega) hc
    have r4 := rem_u8 (c / 8) 4 4 rfl (by omega)
    obtain ⟨h1, e_h1⟩ : ∃ h1, h1 = halloc hh [.str [107, 48], .str [107, 49], .str [107, 50], .str [107, 51]] := ⟨_, rfl⟩
    have F_h1 : Fr [] hh h1 := e_h1 ▸ Fr.halloc w _
    have o_h1 : Own h1 hh.next [.str [107, 48], .str [107, 49], .str [107, 50], .str [107, 51]] := e_h1 ▸ Own.new w _
    have ld : hload1 h1 hh.next (c / 8 % 4) = some (.str (keyL (c / 8))) := by rw [o_h1.ld1]; exact keys4_at (c / 8)
    simp (maxSteps := 1000000) (disch := omega) only [evs, ↓reduceIte, Nat.reduceEqDiff, Nat.reduceAdd, Nat.reduceMul, Nat.reduceLeDiff, Nat.reduceLT, Int.reduceNeg, DF, eff, Nat.reduceSub, fwrap_i64, bK, g9, g10, r8, eq_true (show ((c % 8 : Nat) : Int) = 3 by omega), q8, r4, ← e_h1, ix_lit hh.next 4 .u8 (Nat.mod_lt (c / 8) (show 0 < 4 by omega)), ld]
    refine store_step (c' := [.int .u8 1, .str tg, .str (keyL (c / 8)), va, .str [], .nils]) F_h1.wf (F_h1.get ob) rfl rfl rfl ?_
    intro h2 o2 F2 n2
    have F02 : Fr [b] hh h2 := F_h1.trans F2 w (by simp) (fun x m => .inl m)
    have bv8 : b ∉ vb v8 := fun m => by have := lt b m; omega
    have sg := Stab.gs w gt (P := fun x => x ∈ vb v8) fun x m => m
    simp (maxSteps := 1000000) (disch := omega) only [evs, ↓reduceIte, Nat.reduceEqDiff, Nat.reduceAdd, Nat.reduceMul, Nat.reduceLeDiff, Nat.reduceLT, Int.reduceNeg, DF, eff, Nat.reduceSub, fwrap_i64, g0, g1, g2, g8, g9, g10]
    refine W_loop (fun n env hx => Fr [b] hh hx ∧ ∃ i : Nat, env.get 11 = some (.int .i64 i) ∧ env.get 0 = some v ∧ env.get 1 = some (.int .i64 (a : Int)) ∧ env.get 2 = some (.int .i64 (lv : Int)) ∧ env.get 8 = some v8 ∧ env.get 10 = some (.ptr b 0) ∧
      Own hx b [.int .u8 1, .str tg, .str (stk t.keys (keyL (c / 8)) i), va, .str [], .nils] ∧ i ≤ t.len ∧ n = t.len - i) t.len (by omega) ?_ ?_
    · exact ⟨F02, 0, (by simp [T.get_set]), (by simp [T.get_set, g0]), (by simp [T.get_set, g1]), (by simp [T.get_set, g2]), (by simp [T.get_set, g8]), (by simp [T.get_set, g10]), o2, by omega, rfl⟩
    · rintro n env hx ⟨F, i, e11, e0, e1, e2, e8, e10, o, hi, rfl⟩
      have G : Gs hx L 6 v8 t.cells := sg [b] hx (fun x m => .inl (by simp at m; subst m; exact bv8)) F
      have S : Sl hx 6 v8 t.len t.cells := G.sl t.cells_len (by omega)
      by_cases hlt : i < t.len
      · obtain ⟨kd, tg', ky', at2, tx, va', vc, sb, nx, p1, p2, p3, p4, p5, _⟩ := t.split i hlt
        obtain ⟨b', o', x1, x2⟩ := S.ix6 hlt p2
        have l2 : hload1 hx b' (o' + 2) = some (.str ky') := x2.2.2.1
        have lk : hload1 hx b 2 = some (.str (stk t.keys (keyL (c / 8)) i)) := o.ld1 2
        have est : stk t.keys (keyL (c / 8)) (i + 1) = if ky' = stk t.keys (keyL (c / 8)) i then [] else stk t.keys (keyL (c / 8)) i := by rw [stk, p5]; simp only [Option.some.injEq]
        cases d : ky' == stk t.keys (keyL (c / 8)) i
        · have ne : ¬ ky' = stk t.keys (keyL (c / 8)) i := by simpa using d
          rw [if_neg ne] at est
          simp (maxSteps := 1000000) (disch := omega) only [evs, ↓reduceIte, Nat.reduceEqDiff, Nat.reduceAdd, Nat.reduceMul, Nat.reduceLeDiff, Nat.reduceLT, Int.reduceNeg, DF, eff, Nat.reduceSub, fwrap_i64, e11, e0, e1, e2, e8, e10, S.len, show (i : Int) < t.len by omega, x1, l2, lk, aP_sbe, d]
          refine (roundQ_norm _ _ _).2 ⟨t.len - (i + 1), by omega, F, i + 1, (by simp [T.get_set]), (by simp [T.get_set, e0]), (by simp [T.get_set, e1]), (by simp [T.get_set, e2]), (by simp [T.get_set, e8]), (by simp [T.get_set, e10]), by rw [est]; exact o, by omega, rfl⟩
        · have eq : ky' = stk t.keys (keyL (c / 8)) i := by simpa using d
          rw [if_pos eq] at est
          simp (maxSteps := 1000000) (disch := omega) only [evs, ↓reduceIte, Nat.reduceEqDiff, Nat.reduceAdd, Nat.reduceMul, Nat.reduceLeDiff, Nat.reduceLT, Int.reduceNeg, DF, eff, Nat.reduceSub, fwrap_i64, e11, e0, e1, e2, e8, e10, S.len, show (i : Int) < t.len by omega, x1, l2, lk, aP_sbe, d]
          refine store_step (c' := [.int .u8 1, .str tg, .str [], va, .str [], .nils]) F.wf o rfl rfl rfl ?_
          intro h4 o4 F4 n4
          simp (maxSteps := 1000000) (disch := omega) only [evs, ↓reduceIte, Nat.reduceEqDiff, Nat.reduceAdd, Nat.reduceMul, Nat.reduceLeDiff, Nat.reduceLT, Int.reduceNeg, DF, eff, Nat.reduceSub, fwrap_i64, e11, e0, e1, e2, e8, e10]
          refine (roundQ_norm _ _ _).2 ⟨t.len - (i + 1), by omega, F.trans F4 w (fun x m => .inl m) (fun x m => .inl m), i + 1, (by simp [T.get_set]), (by simp [T.get_set, e0]), (by simp [T.get_set, e1]), (by simp [T.get_set, e2]), (by simp [T.get_set, e8]), (by simp [T.get_set, e10]), by rw [est]; exact o4, by omega, rfl⟩
      · simp (maxSteps := 1000000) (disch := omega) only [evs, ↓reduceIte, Nat.reduceEqDiff, Nat.reduceAdd, Nat.reduceMul, Nat.reduceLeDiff, Nat.reduceLT, Int.reduceNeg, DF, eff, Nat.reduceSub, fwrap_i64, e11, e0, e1, e2, e8, e10, S.len, show ¬ (i : Int) < t.len by omega]
        have ei : i = t.len := by omega
        subst ei
        have ek : stk t.keys (keyL (c / 8)) t.len = keyB c t.keys := by
          rw [stk_eq _ _ (by unfold keyL; split; simp; split; simp; split <;> simp) _ (by rw [NT.keys_len]; omega), List.take_of_length_le (by rw [NT.keys_len]; omega), keyB, if_pos c3]
        rw [ek] at o
        refine k _ _ ⟨F.wf, (by simp [T.get_set, e0]), (by simp [T.get_set, e1]), (by simp [T.get_set, e2]), (by simp [T.get_set, e8]), (by simp [T.get_set, e10]), cd.fr w F, G, ?_, lt, ln, LN, Nb, by have := F.next; omega, o, ?_, la⟩ F
        · exact st.fr w F (by intro x m; rw [List.mem_singleton.1 m]; exact .inl fun p => by omega)
        · exact ra.fr w F (by intro x m; rw [List.mem_singleton.1 m]; exact .inl fun p => p.2 rfl)
  · have ek : keyB c t.keys = [] := by rw [keyB, if_neg c3]
    simp (maxSteps := 1000000) (disch := omega) only [evs, ↓reduceIte, Nat.reduceEqDiff, Nat.reduceAdd, Nat.reduceMul, Nat.reduceLeDiff, Nat.reduceLT, Int.reduceNeg, DF, eff, Nat.reduceSub, fwrap_i64, bK, g9, E.g10, r8, show ¬ ((c % 8 : Nat) : Int) = 3 by omega]
    refine k _ _ ?_ (Fr.refl E.w)
    obtain ⟨w, g0, g1, g2, g8, g10, cd, gt, st, lt, ln, LN, Nb, bn, ob, ra, la⟩ := E
    exact ⟨w, (by simp [T.get_set, g0]), (by simp [T.get_set, g1]), (by simp [T.get_set, g2]), (by simp [T.get_set, g8]), (by simp [T.get_set, g10]), cd, gt, st, lt, ln, LN, Nb, bn, by rw [ek]; exact ob, ra, la⟩
theorem NT.app_one_len (t : NT) (k : Nat) (tg ky : Str) (at' : List (Str × Str)) (tx : Str) (va vc : V) (sub : NT) : (t.app (.cons k tg ky at' tx va vc sub .nil)).len = t.len + 1 := by rw [NT.app_len]; rfl
theorem NT.app_one_keys (t : NT) (k : Nat) (tg ky : Str) (at' : List (Str × Str)) (tx : Str) (va vc : V) (sub : NT) : (t.app (.cons k tg ky at' tx va vc sub .nil)).keys = t.keys ++ [ky] := by rw [NT.app_keys]; rfl
theorem NT.app_one_ct (t : NT) (k : Nat) (tg ky : Str) (at' : List (Str × Str)) (tx : Str) (va vc : V) (sub : NT) (r : CT) : (t.app (.cons k tg ky at' tx va vc sub .nil)).ct.app r = t.ct.app (.cons k tg ky at' tx sub.ct r) := by
  rw [NT.app_ct, CT.app_app]; rfl
theorem build_any (m : Nat) : ∀ {h : Heap} {v : V} {code : List Nat} {a lv : Nat} (f : Nat), (rs code a).length ≤ m → WF h → RO h v code → (∀ c ∈ code, c < 256) → code.length < 281474976710656 → (rs code a).length < f → lv ≤ 5 → a ≤ 19 →
    Does go 53 [v, .int .i64 (a : Int), .int .i64 (lv : Int)] h fun u h' => BR h h' u (bld f (rs code a) lv 0 []) code := by
  induction m using Nat.strongRecOn with
  | _ m ih =>
  intro h v code a lv f hm w cd hc hn hf hl ha
  refine does_fn g53x rfl ?_
  simp (maxSteps := 1000000) (disch := omega) only [evs, ↓reduceIte, Nat.reduceEqDiff, Nat.reduceAdd, Nat.reduceMul, Nat.reduceLeDiff, Nat.reduceLT, Int.reduceNeg, DF, eff, Nat.reduceSub, fwrap_i64, fn53x]
  refine W_loop (fun k env hh => Fr [] h hh ∧ ∃ (a1 f1 : Nat) (t : NT) (v8 : V), env.get 0 = some v ∧ env.get 1 = some (.int .i64 (a1 : Int)) ∧ env.get 2 = some (.int .i64 (lv : Int)) ∧ env.get 8 = some v8 ∧
      Gs hh h.next 6 v8 t.cells ∧ Stab (fun x => h.next ≤ x ∧ x ∉ vb v8) hh (fun h => NH h t) ∧ t.len ≤ 16 ∧ (rs code a1).length < f1 ∧ (rs code a1).length ≤ m ∧ a1 ≤ 19 ∧
      t.ct.app (bld f1 (rs code a1) lv t.len t.keys).1 = (bld f (rs code a) lv 0 []).1 ∧ (bld f1 (rs code a1) lv t.len t.keys).2 = (bld f (rs code a) lv 0 []).2 ∧ k = (rs code a1).length) (rs code a).length (by have : (rs code a).length ≤ 19 := (by simp [rs]; omega); omega) ?_ ?_
  · exact ⟨Fr.refl w, a, f, .nil, .nils, (by simp [T.get_set]), (by simp [T.get_set]), (by simp [T.get_set]), (by simp [T.get_set]), .inl ⟨rfl, rfl⟩, Stab.const trivial, by simp [NT.len], hf, hm, ha, rfl, rfl, rfl⟩
  · rintro k env hh ⟨F, a1, f1, t, v8, g0, g1, g2, g8, G, S, hlen, hf1, hm1, ha1, e1, e2, rfl⟩
    have cd1 := cd.fr w F
    have sl := cd1.now F.wf
    have done : bld f1 (rs code a1) lv t.len t.keys = (.nil, rs code a1) → BR h hh (.tup [v8, .int .i64 (a1 : Int)]) (bld f (rs code a) lv 0 []) code := fun e => by
      rw [e] at e1 e2
      exact ⟨t, v8, a1, rfl, G, S.wk fun x _ p => p.1, hlen, by rw [← e1, CT.app_nil], e2.symm, ha1, F⟩
    by_cases c1 : a1 < code.length
    · by_cases c2 : a1 < 19
      · obtain ⟨c, q1, q2⟩ := rs_cons c1 c2
        have hcc := hc c (List.mem_of_getElem? q1)
        obtain ⟨bi, oi, x, p1, p2, _, p4⟩ := sl.ix u8C_len .i64 (a1 : Int) (by omega) (by omega)
        rw [Int.toNat_natCast, q1] at p4; cases p4
        have ld : hload1 hh bi oi = some (.int .u8 (c : Int)) := p2 0 (by omega)
        have r8 := rem_u8 c 8 8 rfl (by omega)
        obtain ⟨f2, rfl⟩ : ∃ f2, f1 = f2 + 1 := ⟨f1 - 1, by omega⟩
        have lr : (rs code a1).length = (rs code (a1 + 1)).length + 1 := by rw [q2]; rfl
        rw [q2] at e1 e2
        by_cases d0 : c % 8 = 0
        · simp (maxSteps := 1000000) (disch := omega) only [evs, ↓reduceIte, Nat.reduceEqDiff, Nat.reduceAdd, Nat.reduceMul, Nat.reduceLeDiff, Nat.reduceLT, Int.reduceNeg, DF, eff, Nat.reduceSub, fwrap_i64, g0, g1, g2, g8, sl.len, show (a1 : Int) < code.length by omega, show (a1 : Int) < 19 by omega, p1, ld, r8, eq_true (show ((c % 8 : Nat) : Int) = 0 by omega)]
          rw [bld_0 d0] at e1 e2
          exact ⟨t, v8, a1 + 1, by simp, G, S.wk fun x _ p => p.1, hlen, by rw [← e1, CT.app_nil], e2.symm, by omega, F⟩
        by_cases d1 : t.len = 16
        · simp (maxSteps := 1000000) (disch := omega) only [evs, ↓reduceIte, Nat.reduceEqDiff, Nat.reduceAdd, Nat.reduceMul, Nat.reduceLeDiff, Nat.reduceLT, Int.reduceNeg, DF, eff, Nat.reduceSub, fwrap_i64, g0, g1, g2, g8, sl.len, show (a1 : Int) < code.length by omega, show (a1 : Int) < 19 by omega, p1, ld, r8, show ¬ ((c % 8 : Nat) : Int) = 0 by omega, (G.sl t.cells_len (by omega)).len, eq_true (show (t.len : Int) = 16 by omega)]
          rw [bld_16 d0 d1] at e1 e2
          refine (roundQ_norm _ _ _).2 ⟨(rs code (a1 + 1)).length, by omega, F, a1 + 1, f2, t, v8, (by simp [T.get_set, g0]), (by simp [T.get_set]), (by simp [T.get_set, g2]), (by simp [T.get_set, g8]), G, S, hlen, by omega, by omega, by omega, e1, e2, rfl⟩
          done
        have q8 := quo_u8 c 8 8 rfl (by omega) hcc
        have q2' := quo_u8 c 2 2 rfl (by omega) hcc
        by_cases d2 : c % 8 < 3
        · rw [bld_w d0 d1 d2] at e1 e2
          have r4 := rem_u8 (c / 8) 4 4 rfl (by omega)
          obtain ⟨h1, e_h1⟩ : ∃ h1, h1 = halloc hh [.str [], .str [120], .str [104, 105, 32, 34, 121, 111, 117, 92], .str [48]] := ⟨_, rfl⟩
          have F_h1 : Fr [] hh h1 := e_h1 ▸ Fr.halloc F.wf _
          have o_h1 : Own h1 hh.next [.str [], .str [120], .str [104, 105, 32, 34, 121, 111, 117, 92], .str [48]] := e_h1 ▸ Own.new F.wf _
          have lw : hload1 h1 hh.next (c / 8 % 4) = some (.str (wordL (c / 8))) := by rw [o_h1.ld1]; exact words4_at (c / 8)
          have n1 := hnx e_h1
          have hnn := F.next
          have vlt := G.lt F.wf
          simp (maxSteps := 1000000) (disch := omega) only [evs, ↓reduceIte, Nat.reduceEqDiff, Nat.reduceAdd, Nat.reduceMul, Nat.reduceLeDiff, Nat.reduceLT, Int.reduceNeg, DF, eff, Nat.reduceSub, fwrap_i64, g0, g1, g2, g8, sl.len, show (a1 : Int) < code.length by omega, show (a1 : Int) < 19 by omega, p1, ld, r8, show ¬ ((c % 8 : Nat) : Int) = 0 by omega, (G.sl t.cells_len (by omega)).len, show ¬ (t.len : Int) = 16 by omega, show ((c % 8 : Nat) : Int) < 3 by omega, q8, r4, ← e_h1, ix_lit hh.next 4 .u8 (Nat.mod_lt (c / 8) (show 0 < 4 by omega)), lw]
          refine push_ok (k := 2) (tg := []) (ky := []) (tx := wordL (c / 8)) (at' := []) (sub := .nil) F_h1.wf (G.fr F_h1) (by omega) (S.fr0 F.wf F_h1) (fun _ _ _ _ => ⟨by omega, ⟨rfl, rfl⟩, by simp, ⟨rfl, rfl⟩, by simp [NT.len], trivial, trivial⟩) (by omega) ?_
          intro v' h3 G3 S3 F3
          have F13 : Fr (vb v8) hh h3 := F_h1.trans F3 F.wf (by simp) (fun x m => .inl m)
          have F03 : Fr [] h h3 := F.trans F13 w (by simp) (fun x m => .inr (G.ge x m))
          simp (maxSteps := 1000000) (disch := omega) only [evs, ↓reduceIte, Nat.reduceEqDiff, Nat.reduceAdd, Nat.reduceMul, Nat.reduceLeDiff, Nat.reduceLT, Int.reduceNeg, DF, eff, Nat.reduceSub, fwrap_i64, g0, g1, g2, g8]
          refine (roundQ_norm _ _ _).2 ⟨(rs code (a1 + 1)).length, by omega, F03, a1 + 1, f2, _, v', (by simp [T.get_set, g0]), (by simp [T.get_set]), (by simp [T.get_set, g2]), (by simp [T.get_set]), G3, S3, by rw [NT.app_one_len]; omega, by omega, by omega, by omega, ?_, ?_, rfl⟩
          · rw [NT.app_one_len, NT.app_one_keys, NT.app_one_ct]; exact e1
          · rw [NT.app_one_len, NT.app_one_keys]; exact e2
        · rw [bld_e d0 d1 d2] at e1 e2
          simp (maxSteps := 1000000) (disch := omega) only [evs, ↓reduceIte, Nat.reduceEqDiff, Nat.reduceAdd, Nat.reduceMul, Nat.reduceLeDiff, Nat.reduceLT, Int.reduceNeg, DF, eff, Nat.reduceSub, fwrap_i64, g0, g1, g2, g8, sl.len, show (a1 : Int) < code.length by omega, show (a1 : Int) < 19 by omega, p1, ld, r8, show ¬ ((c % 8 : Nat) : Int) = 0 by omega, (G.sl t.cells_len (by omega)).len, show ¬ (t.len : Int) = 16 by omega, show ¬ ((c % 8 : Nat) : Int) < 3 by omega, q8]
          refine OQ_does (tag_ok F.wf) ?_
          rintro _ h1 ⟨rfl, F1⟩
          simp (maxSteps := 1000000) (disch := omega) only [evs, ↓reduceIte, Nat.reduceEqDiff, Nat.reduceAdd, Nat.reduceMul, Nat.reduceLeDiff, Nat.reduceLT, Int.reduceNeg, DF, eff, Nat.reduceSub, fwrap_i64, g0, g1, g2, g8, q2']
          refine OQ_does (attrs_ok F1.wf (by omega : c / 2 < 256)) ?_
          rintro va h2 ⟨Ga, F2⟩
          have one2 : va.one = true := Ga.one
          obtain ⟨h3, e_h3⟩ : ∃ h3, h3 = halloc h2 [.int .u8 0, .str [], .str [], .nils, .str [], .nils] := ⟨_, rfl⟩
          have F_h3 : Fr [] h2 h3 := e_h3 ▸ Fr.halloc F2.wf _
          have o_h3 : Own h3 h2.next [.int .u8 0, .str [], .str [], .nils, .str [], .nils] := e_h3 ▸ Own.new F2.wf _
          simp (maxSteps := 1000000) (disch := omega) only [evs, ↓reduceIte, Nat.reduceEqDiff, Nat.reduceAdd, Nat.reduceMul, Nat.reduceLeDiff, Nat.reduceLT, Int.reduceNeg, DF, eff, Nat.reduceSub, fwrap_i64, g0, g1, g2, g8, cells_one one2, ← e_h3]
          refine store_step (c' := [.int .u8 1, .str (tagL (c / 8)), .str [], va, .str [], .nils]) F_h3.wf o_h3 rfl (by simp only [V.cells, onesB_cons, onesB_nil, one2]; rfl) rfl ?_
          intro h4 o4 F4 n4
          have F12 := F1.then F2
          have F23 : Fr [] h2 h4 := F_h3.fresh F4 F2.wf (Nat.le_refl _)
          have F04 : Fr [] hh h4 := F12.then F23
          have n3 := hnx e_h3
          have nn1 := F1.next
          have nn2 := F2.next
          have hnn := F.next
          have vlt := G.lt F.wf
          have Sa : Stab (fun x => hh.next ≤ x ∧ x ≠ h2.next) h4 fun h => Recs attC 2 h va (attU (c / 2) 3) :=
            (((Stab.gs F2.wf Ga (P := fun x => hh.next ≤ x ∧ x ≠ h2.next) fun x m => ⟨by have := Ga.ge x m; omega, by have := Ga.lt F2.wf x m; omega⟩).imp fun h q => Gs.sl q (attC_flat _) (by omega)).fr0 F2.wf F23)
          have EL : El h4 ((((env.set 9 (.int .u8 (c : Int))).set 1 (.int .i64 ((a1 : Int) + 1))).set 10 (.ptr h2.next 0))) h.next hh.next h2.next v v8 t code (a1 + 1) lv (tagL (c / 8)) [] (attU (c / 2) 3) va :=
            ⟨F04.wf, (by simp [T.get_set, g0]), (by simp [T.get_set]), (by simp [T.get_set, g2]), (by simp [T.get_set, g8]), (by simp [T.get_set]), cd1.fr F.wf F04, G.fr F04, (S.wk fun x hx p => ⟨p.1, hx, p.2⟩).fr0 F.wf F04, vlt, by omega, hnn, by omega, by rw [n4]; omega, o4, Sa, by have := attU_len (c / 2) 3; omega⟩
          simp (maxSteps := 1000000) (disch := omega) only [evs, ↓reduceIte, Nat.reduceEqDiff, Nat.reduceAdd, Nat.reduceMul, Nat.reduceLeDiff, Nat.reduceLT, Int.reduceNeg, DF, eff, Nat.reduceSub, fwrap_i64, g0, g1, g2, g8]
          refine bK_ok (hh := h4) (c := c) (a := a1 + 1) (lv := lv) ⟨F04.wf, (by simp [T.get_set, g0]), (by simp [T.get_set]), (by simp [T.get_set, g2]), (by simp [T.get_set, g8]), (by simp [T.get_set]), EL.cd, EL.gt, EL.st, EL.lt, EL.ln, EL.LN, EL.Nb, EL.bn, EL.ob, EL.ra, EL.la⟩ (by simp [T.get_set]) hcc ?_
          intro env5 h5 E5 F5
          refine bT_ok (f := f2) E5 hl (by omega) (fun {h} w0 c0 l0 => ih (rs code (a1 + 1)).length (by omega) f2 (Nat.le_refl _) w0 c0 hc hn (by omega) (by omega) (by omega)) ?_
          intro env6 h6 v' t' va' vc' sub a' et es er ha' k0 k1 k2 k8 G6 S6 F6
          have lr' := bld_size f2 (rs code (a1 + 1)) (lv + 1) 0 []
          have la' : (rs code a').length ≤ (rs code (a1 + 1)).length := by
            rw [← er]; split
            · omega
            · exact Nat.le_refl _
          have F56 : Fr (h2.next :: vb v8) h4 h6 := F5.trans F6 F04.wf (fun x m => .inl (by simp at m; simp [m])) (fun x m => .inl m)
          have F06 : Fr [] h h6 := (F.then F04).trans F56 w (by simp) (fun x m => .inr (by
            rcases List.mem_cons.1 m with rfl | m
            · omega
            · exact G.ge x m))
          simp (maxSteps := 1000000) (disch := omega) only [evs, ↓reduceIte, Nat.reduceEqDiff, Nat.reduceAdd, Nat.reduceMul, Nat.reduceLeDiff, Nat.reduceLT, Int.reduceNeg, DF, eff, Nat.reduceSub, fwrap_i64, k0, k1, k2, k8]
          rw [← es, er] at e1
          rw [er] at e2
          subst et
          refine (roundQ_norm _ _ _).2 ⟨(rs code a').length, by omega, F06, a', f2, _, v', k0, k1, k2, k8, G6, S6, by rw [NT.app_one_len]; omega, by omega, by omega, ha', ?_, ?_, rfl⟩
          · rw [NT.app_one_len, NT.app_one_keys, NT.app_one_ct]; exact e1
          · rw [NT.app_one_len, NT.app_one_keys]; exact e2
      · simp (maxSteps := 1000000) (disch := omega) only [evs, ↓reduceIte, Nat.reduceEqDiff, Nat.reduceAdd, Nat.reduceMul, Nat.reduceLeDiff, Nat.reduceLT, Int.reduceNeg, DF, eff, Nat.reduceSub, fwrap_i64, g0, g1, g2, g8, sl.len, show (a1 : Int) < code.length by omega, show ¬ (a1 : Int) < 19 by omega]
        exact done (by rw [rs_nil (by omega), bld_nil])
    · simp (maxSteps := 1000000) (disch := omega) only [evs, ↓reduceIte, Nat.reduceEqDiff, Nat.reduceAdd, Nat.reduceMul, Nat.reduceLeDiff, Nat.reduceLT, Int.reduceNeg, DF, eff, Nat.reduceSub, fwrap_i64, g0, g1, g2, g8, sl.len, show ¬ (a1 : Int) < code.length by omega]
      exact done (by rw [rs_nil (by omega), bld_nil])
def eqFn (N : Nat) : IFn := ⟨2, .seq (.ops [⟨none, .bx (.v 0), some 2⟩, ⟨none, .bx (.v 1), some 3⟩, ⟨none, .p .mv [.c (.bool false)], some 4⟩]) (.seq (.ops [⟨none, .p (.faddr 0) [.v 2], none⟩, ⟨none, .ld 1 false (.l 0), none⟩, ⟨none, .p (.faddr 0) [.v 3], none⟩, ⟨none, .ld 1 false (.l 0), none⟩, ⟨none, .p (.ib .eql) [.l 2, .l 0], none⟩, ⟨(some (.l 0, true)), .p (.faddr 1) [.v 2], none⟩, ⟨(some (.l 1, true)), .ld 1 false (.l 0), none⟩, ⟨(some (.l 2, true)), .p (.faddr 1) [.v 3], none⟩, ⟨(some (.l 3, true)), .ld 1 false (.l 0), none⟩, ⟨(some (.l 4, true)), .p (.sb .eql) [.l 2, .l 0], none⟩, ⟨none, .p .pick [.l 5, .l 0, .c (.bool false)], none⟩, ⟨(some (.l 0, true)), .p (.faddr 2) [.v 2], none⟩, ⟨(some (.l 1, true)), .ld 1 false (.l 0), none⟩, ⟨(some (.l 2, true)), .p (.faddr 2) [.v 3], none⟩, ⟨(some (.l 3, true)), .ld 1 false (.l 0), none⟩, ⟨(some (.l 4, true)), .p (.sb .eql) [.l 2, .l 0], none⟩, ⟨none, .p .pick [.l 5, .l 0, .c (.bool false)], none⟩, ⟨(some (.l 0, true)), .p (.faddr 4) [.v 2], none⟩, ⟨(some (.l 1, true)), .ld 1 false (.l 0), none⟩, ⟨(some (.l 2, true)), .p (.faddr 4) [.v 3], none⟩, ⟨(some (.l 3, true)), .ld 1 false (.l 0), none⟩, ⟨(some (.l 4, true)), .p (.sb .eql) [.l 2, .l 0], none⟩, ⟨none, .p .pick [.l 5, .l 0, .c (.bool false)], none⟩, ⟨(some (.l 0, true)), .p (.faddr 3) [.v 2], none⟩, ⟨(some (.l 1, true)), .ld 1 false (.l 0), none⟩, ⟨(some (.l 2, true)), .p (.faddr 3) [.v 3], none⟩, ⟨(some (.l 3, true)), .ld 1 false (.l 0), none⟩, ⟨(some (.l 4, true)), .cf 54 [.l 2, .l 0], none⟩, ⟨none, .p .pick [.l 5, .l 0, .c (.bool false)], none⟩, ⟨(some (.l 0, true)), .p (.faddr 5) [.v 2], none⟩, ⟨(some (.l 1, true)), .ld 1 false (.l 0), none⟩, ⟨(some (.l 2, true)), .p (.faddr 5) [.v 3], none⟩, ⟨(some (.l 3, true)), .ld 1 false (.l 0), none⟩, ⟨(some (.l 4, true)), .cf 55 [.l 2, .l 0, .c (.func (.func N) [] [])], none⟩, ⟨none, .p .pick [.l 5, .l 0, .c (.bool false)], none⟩, ⟨none, .p .mv [.l 0], some 4⟩]) (.ret)), [.t 4], [0, 1, 2, 3, 4]⟩
theorem g81e : F.get 81 = some (eqFn 81) := rfl
theorem g33e : F.get 33 = some (eqFn 33) := rfl
set_option maxRecDepth 4000
theorem aP_seqA (a b : Str × Str) : aP (.seq true [2, 2]) [.agg (attC a), .agg (attC b)] = some (.bool (!(a == b))) := by
  obtain ⟨a1, a2⟩ := a
  obtain ⟨b1, b2⟩ := b
  have e : ((a1, a2) == (b1, b2)) = (a1 == b1 && a2 == b2) := rfl
  rw [e]
  show (bif a1 == b1 then (bif a2 == b2 then some true else some false) else some false).map (fun r => V.bool (!r)) = _
  cases a1 == b1 <;> cases a2 == b2 <;> rfl
theorem beq_cons (x y : Str × Str) (l m : List (Str × Str)) : (x :: l == y :: m) = (x == y && l == m) := rfl
theorem beq_len {l m : List (Str × Str)} (h : ¬ l.length = m.length) : (l == m) = false := by
  cases c : l == m
  · rfl
  · have : l = m := by simpa using c
    subst this; exact absurd rfl h
theorem eqA_ok {h : Heap} {va vb : V} {A B : List (Str × Str)} (a : Recs attC 2 h va A) (b : Recs attC 2 h vb B) (na : A.length ≤ 4096) (nb : B.length ≤ 4096) : Does go 54 [va, vb] h fun u h' => u = .bool (A == B) ∧ h = h' := by
  by_cases cl : A.length = B.length
  · refine does_fn g54 rfl ?_
    simp (maxSteps := 1000000) (disch := omega) only [fn54, evs, ↓reduceIte, Nat.reduceEqDiff, Nat.reduceAdd, Nat.reduceMul, Nat.reduceLeDiff, Nat.reduceLT, Int.reduceNeg, DF, eff, Nat.reduceSub, fwrap_i64, a.len, b.len, eq_true (show (A.length : Int) = B.length by omega)]
    refine W_loop (fun n env hh => h = hh ∧ ∃ i : Nat, env.get 13 = some (.int .i64 i) ∧ env.get 12 = some (.int .i64 A.length) ∧ env.get 0 = some va ∧ env.get 1 = some vb ∧ i ≤ A.length ∧ (A.drop i == B.drop i) = (A == B) ∧ n = A.length - i) A.length (by omega) ?_ ?_
    · exact ⟨rfl, 0, (by simp [T.get_set]), by simp [T.get_set, cl], (by simp [T.get_set]), (by simp [T.get_set]), by omega, rfl, rfl⟩
    · rintro n env hh ⟨rfl, i, g13, g12, g0, g1, hi, e, rfl⟩
      by_cases c : i < A.length
      · obtain ⟨b1, o1, s1, p1, _, p3, p4⟩ := a.ix attC_len .i64 (i : Int) (by omega) (by omega)
        obtain ⟨b2, o2, s2, q1, _, q3, q4⟩ := b.ix attC_len .i64 (i : Int) (by omega) (by omega)
        rw [Int.toNat_natCast] at p4 q4
        rw [drop_cons p4, drop_cons q4, beq_cons] at e
        cases d : s1 == s2
        · simp (maxSteps := 1000000) (disch := omega) only [evs, ↓reduceIte, Nat.reduceEqDiff, Nat.reduceAdd, Nat.reduceMul, Nat.reduceLeDiff, Nat.reduceLT, Int.reduceNeg, DF, eff, Nat.reduceSub, fwrap_i64, g13, g12, g0, g1, show (i : Int) < A.length by omega, p1, q1, p3, q3, aP_seqA, d]
          rw [← e, d]; rfl
        · simp (maxSteps := 1000000) (disch := omega) only [evs, ↓reduceIte, Nat.reduceEqDiff, Nat.reduceAdd, Nat.reduceMul, Nat.reduceLeDiff, Nat.reduceLT, Int.reduceNeg, DF, eff, Nat.reduceSub, fwrap_i64, g13, g12, g0, g1, show (i : Int) < A.length by omega, p1, q1, p3, q3, aP_seqA, d]
          rw [d, Bool.true_and] at e
          refine (roundQ_norm _ _ _).2 ⟨A.length - (i + 1), by omega, rfl, i + 1, (by simp [T.get_set]), (by simp [T.get_set, g12]), (by simp [T.get_set, g0]), (by simp [T.get_set, g1]), by omega, e, rfl⟩
      · simp (maxSteps := 1000000) (disch := omega) only [evs, ↓reduceIte, Nat.reduceEqDiff, Nat.reduceAdd, Nat.reduceMul, Nat.reduceLeDiff, Nat.reduceLT, Int.reduceNeg, DF, eff, Nat.reduceSub, fwrap_i64, g13, g12, g0, g1, show ¬ (i : Int) < A.length by omega]
        rw [List.drop_of_length_le (by omega), List.drop_of_length_le (by omega)] at e
        rw [← e]; rfl
  · refine does_fn g54 rfl ?_
    simp (maxSteps := 1000000) (disch := omega) only [fn54, evs, ↓reduceIte, Nat.reduceEqDiff, Nat.reduceAdd, Nat.reduceMul, Nat.reduceLeDiff, Nat.reduceLT, Int.reduceNeg, DF, eff, Nat.reduceSub, fwrap_i64, a.len, b.len, show ¬ (A.length : Int) = B.length by omega]
    exact congrArg V.bool (beq_len cl).symm
structure Nd where
  k : Nat
  tg : Str
  ky : Str
  at' : List (Str × Str)
  tx : Str
  va : V
  vc : V
  sub : NT
namespace Nd
def cells (a : Nd) : List V := [.int .u8 (a.k : Int), .str a.tg, .str a.ky, a.va, .str a.tx, a.vc]
def nt (a : Nd) : NT := .cons a.k a.tg a.ky a.at' a.tx a.va a.vc a.sub .nil
def ct (a : Nd) : CT := .cons a.k a.tg a.ky a.at' a.tx a.sub.ct .nil
end Nd
def NdH (h : Heap) (a : Nd) : Prop := NH h a.nt
theorem NdH.fr {h h' : Heap} {a : Nd} (x : NdH h a) (f : Fr [] h h') : NdH h' a := NH.fr f x
theorem NdH.one {h : Heap} {a : Nd} (x : NdH h a) : onesB a.cells = true := NH.one1 x
def EqN (N : Nat) (a : Nd) : Prop := ∀ {h : Heap} {b : Nd}, WF h → NdH h a → NdH h b → Does go N [.agg a.cells, .agg b.cells] h fun u h' => u = .bool (a.ct.eqb b.ct) ∧ Fr [] h h'
def EqL (N : Nat) : NT → Prop
  | .nil => True
  | .cons k tg ky at' tx va vc sub nx => EqN N ⟨k, tg, ky, at', tx, va, vc, sub⟩ ∧ EqL N nx
theorem EqL.at' {N : Nat} : ∀ {t : NT} (i : Nat), EqL N t → EqL N (t.at' i)
  | .nil, 0, _ => trivial
  | .nil, _ + 1, _ => trivial
  | .cons _ _ _ _ _ _ _ _ _, 0, a => a
  | .cons _ _ _ _ _ _ _ _ _, i + 1, ⟨_, g⟩ => EqL.at' i g
theorem NT.nd (t : NT) (i : Nat) (hi : i < t.len) : ∃ (a : Nd) (nx : NT), t.at' i = .cons a.k a.tg a.ky a.at' a.tx a.va a.vc a.sub nx ∧ t.cells.drop (i * 6) = a.cells ++ nx.cells ∧ t.at' (i + 1) = nx := by
  obtain ⟨k, tg, ky, at', tx, va, vc, sub, nx, e1, e2, e3, _⟩ := t.split i hi
  exact ⟨⟨k, tg, ky, at', tx, va, vc, sub⟩, nx, e1, e2, e3⟩
theorem NH.nd {h : Heap} {t nx : NT} {i : Nat} {a : Nd} (x : NH h t) (e : t.at' i = .cons a.k a.tg a.ky a.at' a.tx a.va a.vc a.sub nx) : NdH h a := by
  have := NH.at' i x
  rw [e] at this
  obtain ⟨h1, h2, h3, h4, h5, h6, _⟩ := this
  exact ⟨h1, h2, h3, h4, h5, h6, trivial⟩
theorem eqb_one (a b : Nd) (nx nx' : CT) : (CT.cons a.k a.tg a.ky a.at' a.tx a.sub.ct nx).eqb (CT.cons b.k b.tg b.ky b.at' b.tx b.sub.ct nx') = (a.ct.eqb b.ct && nx.eqb nx') := by
  simp [Nd.ct, CT.eqb]
theorem eqb_len {a b : NT} (h : ¬ a.len = b.len) : a.ct.eqb b.ct = false := by
  cases c : a.ct.eqb b.ct
  · rfl
  · have := (CT.eqb_eq _ _).1 c
    rw [← NT.ct_len, ← NT.ct_len, this] at h; exact absurd rfl h
theorem eqF_ok {N : Nat} (hN : N < 1099511627776) {h : Heap} {va vb : V} {a b : NT} (w : WF h) (sa : Sl h 6 va a.len a.cells) (na : NH h a) (la : a.len ≤ 4096) (sb : Sl h 6 vb b.len b.cells) (nb : NH h b) (lb : b.len ≤ 4096) (E : EqL N a) :
    Does go 55 [va, vb, .func (.func N) [] []] h fun u h' => u = .bool (a.ct.eqb b.ct) ∧ Fr [] h h' := by
  by_cases cl : a.len = b.len
  · refine does_fn g55 rfl ?_
    simp (maxSteps := 1000000) (disch := omega) only [fn55, evs, ↓reduceIte, Nat.reduceEqDiff, Nat.reduceAdd, Nat.reduceMul, Nat.reduceLeDiff, Nat.reduceLT, Int.reduceNeg, DF, eff, Nat.reduceSub, fwrap_i64, sa.len, sb.len, eq_true (show (a.len : Int) = b.len by omega)]
    refine W_loop (fun n env hh => Fr [] h hh ∧ ∃ i : Nat, env.get 17 = some (.int .i64 i) ∧ env.get 16 = some (.int .i64 a.len) ∧ env.get 15 = some va ∧ env.get 1 = some vb ∧ env.get 2 = some (.func (.func N) [] []) ∧ i ≤ a.len ∧
      (a.at' i).ct.eqb (b.at' i).ct = a.ct.eqb b.ct ∧ n = a.len - i) a.len (by omega) ?_ ?_
    · exact ⟨Fr.refl w, 0, (by simp [T.get_set]), by simp [T.get_set, cl], (by simp [T.get_set]), (by simp [T.get_set]), (by simp [T.get_set]), by omega, by cases a <;> cases b <;> rfl, rfl⟩
    · rintro n env hh ⟨F, i, g17, g16, g15, g1, g2, hi, e, rfl⟩
      by_cases c : i < a.len
      · obtain ⟨x, nx, e1, e2, e3⟩ := a.nd i c
        obtain ⟨y, ny, f1, f2, f3⟩ := b.nd i (by omega)
        obtain ⟨b1, o1, p1, p2⟩ := (sa.fr F).ix6 c e2
        have nx1 := (na.fr F).nd e1
        have ny1 := (nb.fr F).nd f1
        obtain ⟨h1, e_h1⟩ : ∃ h1, h1 = halloc hh [.int .u8 0, .str [], .str [], .nils, .str [], .nils] := ⟨_, rfl⟩
        have F_h1 : Fr [] hh h1 := e_h1 ▸ Fr.halloc F.wf _
        have o_h1 : Own h1 hh.next [.int .u8 0, .str [], .str [], .nils, .str [], .nils] := e_h1 ▸ Own.new F.wf _
        simp (maxSteps := 1000000) (disch := omega) only [evs, ↓reduceIte, Nat.reduceEqDiff, Nat.reduceAdd, Nat.reduceMul, Nat.reduceLeDiff, Nat.reduceLT, Int.reduceNeg, DF, eff, Nat.reduceSub, fwrap_i64, g17, g16, g15, g1, g2, show (i : Int) < a.len by omega, p1, p2.2.2.2.2.2.2, ← e_h1]
        refine store_step (c' := x.cells) F_h1.wf o_h1 rfl nx1.one rfl ?_
        intro h2 q2 F2 n2
        have F02 : Fr [] hh h2 := F_h1.fresh F2 F.wf (Nat.le_refl _)
        obtain ⟨b2, o2, r1, r2⟩ := (sb.fr (F.then F02)).ix6 (i := i) (by omega) f2
        obtain ⟨h3, e_h3⟩ : ∃ h3, h3 = halloc h2 [.int .u8 0, .str [], .str [], .nils, .str [], .nils] := ⟨_, rfl⟩
        have F_h3 : Fr [] h2 h3 := e_h3 ▸ Fr.halloc F02.wf _
        have o_h3 : Own h3 h2.next [.int .u8 0, .str [], .str [], .nils, .str [], .nils] := e_h3 ▸ Own.new F02.wf _
        simp (maxSteps := 1000000) (disch := omega) only [evs, ↓reduceIte, Nat.reduceEqDiff, Nat.reduceAdd, Nat.reduceMul, Nat.reduceLeDiff, Nat.reduceLT, Int.reduceNeg, DF, eff, Nat.reduceSub, fwrap_i64, g17, g16, g15, g1, g2, r1, r2.2.2.2.2.2.2, ← e_h3]
        refine store_step (c' := y.cells) F_h3.wf o_h3 rfl ny1.one rfl ?_
        intro h4 q4 F4 n4
        have F24 : Fr [] h2 h4 := F_h3.fresh F4 F02.wf (Nat.le_refl _)
        have F04 := F02.then F24
        have lx : hload h4 hh.next 0 6 = some x.cells := by rw [(F24.get q2).ld]; rfl
        have ly : hload h4 h2.next 0 6 = some y.cells := by rw [q4.ld]; rfl
        have Ex := E.at' i
        rw [e1] at Ex
        simp (maxSteps := 1000000) (disch := omega) only [evs, ↓reduceIte, Nat.reduceEqDiff, Nat.reduceAdd, Nat.reduceMul, Nat.reduceLeDiff, Nat.reduceLT, Int.reduceNeg, DF, eff, Nat.reduceSub, fwrap_i64, g17, g16, g15, g1, g2, lx, ly, hN]
        refine OQ_does (Ex.1 F04.wf (nx1.fr F04) (ny1.fr F04)) ?_
        rintro _ h5 ⟨rfl, F5⟩
        rw [e1, f1] at e
        simp only [NT.ct] at e
        rw [eqb_one] at e
        cases d : x.ct.eqb y.ct
        · simp (maxSteps := 1000000) (disch := omega) only [evs, ↓reduceIte, Nat.reduceEqDiff, Nat.reduceAdd, Nat.reduceMul, Nat.reduceLeDiff, Nat.reduceLT, Int.reduceNeg, DF, eff, Nat.reduceSub, fwrap_i64, g17, g16, g15, g1, g2]
          exact ⟨by rw [← e, d]; rfl, (F.then F04).then F5⟩
        · simp (maxSteps := 1000000) (disch := omega) only [evs, ↓reduceIte, Nat.reduceEqDiff, Nat.reduceAdd, Nat.reduceMul, Nat.reduceLeDiff, Nat.reduceLT, Int.reduceNeg, DF, eff, Nat.reduceSub, fwrap_i64, g17, g16, g15, g1, g2]
          rw [d, Bool.true_and] at e
          refine (roundQ_norm _ _ _).2 ⟨a.len - (i + 1), by omega, (F.then F04).then F5, i + 1, (by simp [T.get_set]), (by simp [T.get_set, g16]), (by simp [T.get_set, g15]), (by simp [T.get_set, g1]), (by simp [T.get_set, g2]), by omega, by rw [e3, f3]; exact e, rfl⟩
          done
      · simp (maxSteps := 1000000) (disch := omega) only [evs, ↓reduceIte, Nat.reduceEqDiff, Nat.reduceAdd, Nat.reduceMul, Nat.reduceLeDiff, Nat.reduceLT, Int.reduceNeg, DF, eff, Nat.reduceSub, fwrap_i64, g17, g16, g15, g1, g2, show ¬ (i : Int) < a.len by omega]
        rw [NT.at_end _ _ (by omega), NT.at_end _ _ (by omega)] at e
        exact ⟨by rw [← e]; rfl, F⟩
  · refine does_fn g55 rfl ?_
    simp (maxSteps := 1000000) (disch := omega) only [fn55, evs, ↓reduceIte, Nat.reduceEqDiff, Nat.reduceAdd, Nat.reduceMul, Nat.reduceLeDiff, Nat.reduceLT, Int.reduceNeg, DF, eff, Nat.reduceSub, fwrap_i64, sa.len, sb.len, show ¬ (a.len : Int) = b.len by omega]
    exact ⟨by rw [eqb_len cl], Fr.refl w⟩
theorem eqN_ok {N : Nat} (hf : F.get N = some (eqFn N)) (hN : N < 1099511627776) {a : Nd} (E : EqL N a.sub) : EqN N a := by
  intro h b w ha hb
  obtain ⟨ka, tga, kya, ata, txa, vaa, vca, sa⟩ := a
  obtain ⟨kb, tgb, kyb, atb, txb, vab, vcb, sb⟩ := b
  have ha' := ha
  have hb' := hb
  obtain ⟨_, a2, a3, a4, a5, a6, _⟩ := ha
  obtain ⟨_, b2, b3, b4, b5, b6, _⟩ := hb
  simp only [Nd.cells, Nd.ct] at *
  obtain ⟨h1, e_h1⟩ : ∃ h1, h1 = halloc h [.int .u8 (ka : Int), .str tga, .str kya, vaa, .str txa, vca] := ⟨_, rfl⟩
  have F_h1 : Fr [] h h1 := e_h1 ▸ Fr.halloc w _
  have o_h1 : Own h1 h.next [.int .u8 (ka : Int), .str tga, .str kya, vaa, .str txa, vca] := e_h1 ▸ Own.new w _
  obtain ⟨h2, e_h2⟩ : ∃ h2, h2 = halloc h1 [.int .u8 (kb : Int), .str tgb, .str kyb, vab, .str txb, vcb] := ⟨_, rfl⟩
  have F_h2 : Fr [] h1 h2 := e_h2 ▸ Fr.halloc F_h1.wf _
  have o_h2 : Own h2 h1.next [.int .u8 (kb : Int), .str tgb, .str kyb, vab, .str txb, vcb] := e_h2 ▸ Own.new F_h1.wf _
  have F2 := F_h1.then F_h2
  have o1 := F_h2.get o_h1
  have x0 : hload1 h2 h.next 0 = some (.int .u8 (ka : Int)) := o1.ld1 0
  have x1 : hload1 h2 h.next 1 = some (.str tga) := o1.ld1 1
  have x2 : hload1 h2 h.next 2 = some (.str kya) := o1.ld1 2
  have x3 : hload1 h2 h.next 3 = some vaa := o1.ld1 3
  have x4 : hload1 h2 h.next 4 = some (.str txa) := o1.ld1 4
  have x5 : hload1 h2 h.next 5 = some vca := o1.ld1 5
  have y0 : hload1 h2 h1.next 0 = some (.int .u8 (kb : Int)) := o_h2.ld1 0
  have y1 : hload1 h2 h1.next 1 = some (.str tgb) := o_h2.ld1 1
  have y2 : hload1 h2 h1.next 2 = some (.str kyb) := o_h2.ld1 2
  have y3 : hload1 h2 h1.next 3 = some vab := o_h2.ld1 3
  have y4 : hload1 h2 h1.next 4 = some (.str txb) := o_h2.ld1 4
  have y5 : hload1 h2 h1.next 5 = some vcb := o_h2.ld1 5
  refine does_fn hf rfl ?_
  by_cases c0 : ka = kb
  · subst c0
    cases c1 : tga == tgb
    · simp (maxSteps := 1000000) (disch := omega) only [evs, ↓reduceIte, Nat.reduceEqDiff, Nat.reduceAdd, Nat.reduceMul, Nat.reduceLeDiff, Nat.reduceLT, Int.reduceNeg, DF, eff, Nat.reduceSub, fwrap_i64, eqFn, ← e_h1, ← e_h2, x0, y0, x1, y1, aP_sbe, c1]
      exact ⟨by simp [CT.eqb, c1], F2⟩
    cases c2 : kya == kyb
    · simp (maxSteps := 1000000) (disch := omega) only [evs, ↓reduceIte, Nat.reduceEqDiff, Nat.reduceAdd, Nat.reduceMul, Nat.reduceLeDiff, Nat.reduceLT, Int.reduceNeg, DF, eff, Nat.reduceSub, fwrap_i64, eqFn, ← e_h1, ← e_h2, x0, y0, x1, y1, aP_sbe, c1, x2, y2, c2]
      exact ⟨by simp [CT.eqb, c2], F2⟩
    cases c3 : txa == txb
    · simp (maxSteps := 1000000) (disch := omega) only [evs, ↓reduceIte, Nat.reduceEqDiff, Nat.reduceAdd, Nat.reduceMul, Nat.reduceLeDiff, Nat.reduceLT, Int.reduceNeg, DF, eff, Nat.reduceSub, fwrap_i64, eqFn, ← e_h1, ← e_h2, x0, y0, x1, y1, aP_sbe, c1, x2, y2, c2, x4, y4, c3]
      exact ⟨by simp [CT.eqb, c3], F2⟩
    simp (maxSteps := 1000000) (disch := omega) only [evs, ↓reduceIte, Nat.reduceEqDiff, Nat.reduceAdd, Nat.reduceMul, Nat.reduceLeDiff, Nat.reduceLT, Int.reduceNeg, DF, eff, Nat.reduceSub, fwrap_i64, eqFn, ← e_h1, ← e_h2, x0, y0, x1, y1, aP_sbe, c1, x2, y2, c2, x4, y4, c3, x3, y3]
    refine OQ_does (eqA_ok (a2.fr F2) (b2.fr F2) a3 b3) ?_
    rintro _ _ ⟨rfl, rfl⟩
    cases c4 : ata == atb
    · simp (maxSteps := 1000000) (disch := omega) only [evs, ↓reduceIte, Nat.reduceEqDiff, Nat.reduceAdd, Nat.reduceMul, Nat.reduceLeDiff, Nat.reduceLT, Int.reduceNeg, DF, eff, Nat.reduceSub, fwrap_i64, c4]
      exact ⟨by simp [CT.eqb, c4], F2⟩
    simp (maxSteps := 1000000) (disch := omega) only [evs, ↓reduceIte, Nat.reduceEqDiff, Nat.reduceAdd, Nat.reduceMul, Nat.reduceLeDiff, Nat.reduceLT, Int.reduceNeg, DF, eff, Nat.reduceSub, fwrap_i64, c4, x5, y5]
    refine OQ_does (eqF_ok hN F2.wf (a4.fr F2) (a6.fr F2) a5 (b4.fr F2) (b6.fr F2) b5 E) ?_
    rintro _ h3 ⟨rfl, F3⟩
    simp (maxSteps := 1000000) (disch := omega) only [evs, ↓reduceIte, Nat.reduceEqDiff, Nat.reduceAdd, Nat.reduceMul, Nat.reduceLeDiff, Nat.reduceLT, Int.reduceNeg, DF, eff, Nat.reduceSub, fwrap_i64]
    refine ⟨?_, F2.then F3⟩
    simp only [CT.eqb, c1, c2, c3, c4, decide_true, Bool.true_and, Bool.and_true]
  · simp (maxSteps := 1000000) (disch := omega) only [evs, ↓reduceIte, Nat.reduceEqDiff, Nat.reduceAdd, Nat.reduceMul, Nat.reduceLeDiff, Nat.reduceLT, Int.reduceNeg, DF, eff, Nat.reduceSub, fwrap_i64, eqFn, ← e_h1, ← e_h2, x0, y0, show ¬ (ka : Int) = kb by omega]
    exact ⟨by simp [CT.eqb, c0], F2⟩
theorem eqL_all {N : Nat} (hf : F.get N = some (eqFn N)) (hN : N < 1099511627776) : ∀ t : NT, EqL N t
  | .nil => trivial
  | .cons k tg ky at' tx va vc sub nx => ⟨eqN_ok hf hN (a := ⟨k, tg, ky, at', tx, va, vc, sub⟩) (eqL_all hf hN sub), eqL_all hf hN nx⟩
theorem equal_ok {h : Heap} {a b : Nd} (w : WF h) (ha : NdH h a) (hb : NdH h b) : Does go 81 [.agg a.cells, .agg b.cells] h fun u h' => u = .bool (a.ct.eqb b.ct) ∧ Fr [] h h' := eqN_ok g81e (by decide) (eqL_all g81e (by decide) _) w ha hb
theorem nsame_ok {h : Heap} {a b : Nd} (w : WF h) (ha : NdH h a) (hb : NdH h b) : Does go 33 [.agg a.cells, .agg b.cells] h fun u h' => u = .bool (a.ct.eqb b.ct) ∧ Fr [] h h' := eqN_ok g33e (by decide) (eqL_all g33e (by decide) _) w ha hb
def Good (t : CT) : Prop := t.good 1 ∧ t.size ≤ 64
theorem check_ok {h : Heap} {a : Nd} (w : WF h) (ha : NdH h a) (g : Good a.ct) : Does go 23 [.agg a.cells] h fun u h' => u = .int .i64 0 ∧ Fr [] h h' := by
  obtain ⟨k, tg, ky, at', tx, va, vc, sub⟩ := a
  refine (ncheck_ok w ha).mono ?_
  rintro u h' ⟨rfl, F⟩
  have : NT.count k tg ky at' tx sub = 1 + sub.ct.size := NT.count_good g.1 (by have := g.2; simp only [Nd.ct, CT.size] at this; omega)
  exact ⟨by rw [this, if_neg (by omega)], F⟩
theorem nSame_ok {h : Heap} {a b : Nd} (w : WF h) (ha : NdH h a) (hb : NdH h b) (ga : Good a.ct) (gb : Good b.ct) : Does go 15 [.agg a.cells, .agg b.cells] h fun u h' => u = .bool (a.ct.eqb b.ct) ∧ Fr [] h h' := by
  obtain ⟨h1, e_h1⟩ : ∃ h1, h1 = halloc h a.cells := ⟨_, rfl⟩
  have F_h1 : Fr [] h h1 := e_h1 ▸ Fr.halloc w _
  have o_h1 : Own h1 h.next a.cells := e_h1 ▸ Own.new w _
  obtain ⟨h2, e_h2⟩ : ∃ h2, h2 = halloc h1 b.cells := ⟨_, rfl⟩
  have F_h2 : Fr [] h1 h2 := e_h2 ▸ Fr.halloc F_h1.wf _
  have o_h2 : Own h2 h1.next b.cells := e_h2 ▸ Own.new F_h1.wf _
  have F2 := F_h1.then F_h2
  have o1 := F_h2.get o_h1
  have l1 : hload h2 h.next 0 6 = some a.cells := by rw [o1.ld]; rfl
  have l2 : hload h2 h1.next 0 6 = some b.cells := by rw [o_h2.ld]; rfl
  refine does_fn g15 rfl ?_
  simp (maxSteps := 1000000) (disch := omega) only [fn15, evs, ↓reduceIte, Nat.reduceEqDiff, Nat.reduceAdd, Nat.reduceMul, Nat.reduceLeDiff, Nat.reduceLT, Int.reduceNeg, DF, eff, Nat.reduceSub, fwrap_i64, ← e_h1, ← e_h2, l1]
  refine OQ_does (check_ok F2.wf (ha.fr F2) ga) ?_
  rintro _ h3 ⟨rfl, F3⟩
  have l3 : hload h3 h1.next 0 6 = some b.cells := by rw [(F3.get o_h2).ld]; rfl
  simp (maxSteps := 1000000) (disch := omega) only [evs, ↓reduceIte, Nat.reduceEqDiff, Nat.reduceAdd, Nat.reduceMul, Nat.reduceLeDiff, Nat.reduceLT, Int.reduceNeg, DF, eff, Nat.reduceSub, fwrap_i64, l3]
  refine OQ_does (check_ok F3.wf (hb.fr (F2.then F3)) gb) ?_
  rintro _ h4 ⟨rfl, F4⟩
  have F24 := F3.then F4
  have l4 : hload h4 h.next 0 6 = some a.cells := by rw [(F24.get o1).ld]; rfl
  have l5 : hload h4 h1.next 0 6 = some b.cells := by rw [(F24.get o_h2).ld]; rfl
  simp (maxSteps := 1000000) (disch := omega) only [evs, ↓reduceIte, Nat.reduceEqDiff, Nat.reduceAdd, Nat.reduceMul, Nat.reduceLeDiff, Nat.reduceLT, Int.reduceNeg, DF, eff, Nat.reduceSub, fwrap_i64, l4, l5]
  refine OQ_does (nsame_ok F4.wf (ha.fr (F2.then F24)) (hb.fr (F2.then F24))) ?_
  rintro _ h5 ⟨rfl, F5⟩
  simp (maxSteps := 1000000) (disch := omega) only [evs, ↓reduceIte, Nat.reduceEqDiff, Nat.reduceAdd, Nat.reduceMul, Nat.reduceLeDiff, Nat.reduceLT, Int.reduceNeg, DF, eff, Nat.reduceSub, fwrap_i64]
  exact (F2.then F24).then F5
structure Rw where
  key : Int
  top : Int
  sz : Int
  nd : Nd
structure CR where
  key : Int
  top : Int
  sz : Int
  t : CT
def Rw.cells (r : Rw) : List V := [.int .u64 r.key, .int .i64 r.top, .int .i64 r.sz, .int .u8 (r.nd.k : Int), .str r.nd.tg, .str r.nd.ky, r.nd.va, .str r.nd.tx, r.nd.vc]
theorem Rw.len (r : Rw) : r.cells.length = 9 := rfl
def Rw.c (r : Rw) : CR := ⟨r.key, r.top, r.sz, r.nd.ct⟩
def RwH (h : Heap) (r : Rw) : Prop := NdH h r.nd
theorem RwH.fr {h h' : Heap} {r : Rw} (x : RwH h r) (f : Fr [] h h') : RwH h' r := NdH.fr x f
theorem RwH.one {h : Heap} {r : Rw} (x : RwH h r) : onesB r.cells = true := by
  have := NdH.one x
  simp only [Rw.cells, onesB_cons, V.one, Bool.true_and]
  exact this
def sameB (a b : CR) : Bool := decide (a.key = b.key) && (decide (a.top = b.top) && (decide (a.sz = b.sz) && a.t.eqb b.t))
theorem sameB_eq (a b : CR) : sameB a b = true ↔ a = b := by
  obtain ⟨a1, a2, a3, a4⟩ := a
  obtain ⟨b1, b2, b3, b4⟩ := b
  simp only [sameB, Bool.and_eq_true, decide_eq_true_eq, CT.eqb_eq, CR.mk.injEq]
theorem rsame_ok {h : Heap} {a b : Rw} (w : WF h) (ha : RwH h a) (hb : RwH h b) : Does go 56 [.agg a.cells, .agg b.cells] h fun u h' => u = .bool (sameB a.c b.c) ∧ Fr [] h h' := by
  obtain ⟨h1, e_h1⟩ : ∃ h1, h1 = halloc h a.cells := ⟨_, rfl⟩
  have F_h1 : Fr [] h h1 := e_h1 ▸ Fr.halloc w _
  have o_h1 : Own h1 h.next a.cells := e_h1 ▸ Own.new w _
  obtain ⟨h2, e_h2⟩ : ∃ h2, h2 = halloc h1 b.cells := ⟨_, rfl⟩
  have F_h2 : Fr [] h1 h2 := e_h2 ▸ Fr.halloc F_h1.wf _
  have o_h2 : Own h2 h1.next b.cells := e_h2 ▸ Own.new F_h1.wf _
  have F2 := F_h1.then F_h2
  have o1 := F_h2.get o_h1
  have x0 : hload1 h2 h.next 0 = some (.int .u64 a.key) := o1.ld1 0
  have x1 : hload1 h2 h.next 1 = some (.int .i64 a.top) := o1.ld1 1
  have x2 : hload1 h2 h.next 2 = some (.int .i64 a.sz) := o1.ld1 2
  have x3 : hload h2 h.next 3 6 = some a.nd.cells := by rw [o1.ld]; rfl
  have y0 : hload1 h2 h1.next 0 = some (.int .u64 b.key) := o_h2.ld1 0
  have y1 : hload1 h2 h1.next 1 = some (.int .i64 b.top) := o_h2.ld1 1
  have y2 : hload1 h2 h1.next 2 = some (.int .i64 b.sz) := o_h2.ld1 2
  have y3 : hload h2 h1.next 3 6 = some b.nd.cells := by rw [o_h2.ld]; rfl
  by_cases c0 : a.key = b.key
  · by_cases c1 : a.top = b.top
    · by_cases c2 : a.sz = b.sz
      · refine does_fn g56 rfl ?_
        simp (maxSteps := 1000000) (disch := omega) only [fn56, evs, ↓reduceIte, Nat.reduceEqDiff, Nat.reduceAdd, Nat.reduceMul, Nat.reduceLeDiff, Nat.reduceLT, Int.reduceNeg, DF, eff, Nat.reduceSub, fwrap_i64, ← e_h1, ← e_h2, x0, y0, x1, y1, x2, y2, eq_true c0, eq_true c1, eq_true c2, x3, y3]
        refine OQ_does (equal_ok F2.wf (NdH.fr ha F2) (NdH.fr hb F2)) ?_
        rintro _ h3 ⟨rfl, F3⟩
        simp (maxSteps := 1000000) (disch := omega) only [evs, ↓reduceIte, Nat.reduceEqDiff, Nat.reduceAdd, Nat.reduceMul, Nat.reduceLeDiff, Nat.reduceLT, Int.reduceNeg, DF, eff, Nat.reduceSub, fwrap_i64]
        exact ⟨by simp [sameB, Rw.c, c0, c1, c2], F2.then F3⟩
      · refine does_fn g56 rfl ?_
        simp (maxSteps := 1000000) (disch := omega) only [fn56, evs, ↓reduceIte, Nat.reduceEqDiff, Nat.reduceAdd, Nat.reduceMul, Nat.reduceLeDiff, Nat.reduceLT, Int.reduceNeg, DF, eff, Nat.reduceSub, fwrap_i64, ← e_h1, ← e_h2, x0, y0, x1, y1, x2, y2, eq_true c0, eq_true c1, c2]
        exact ⟨by simp [sameB, Rw.c, c2], F2⟩
    · refine does_fn g56 rfl ?_
      simp (maxSteps := 1000000) (disch := omega) only [fn56, evs, ↓reduceIte, Nat.reduceEqDiff, Nat.reduceAdd, Nat.reduceMul, Nat.reduceLeDiff, Nat.reduceLT, Int.reduceNeg, DF, eff, Nat.reduceSub, fwrap_i64, ← e_h1, ← e_h2, x0, y0, x1, y1, eq_true c0, c1]
      exact ⟨by simp [sameB, Rw.c, c1], F2⟩
  · refine does_fn g56 rfl ?_
    simp (maxSteps := 1000000) (disch := omega) only [fn56, evs, ↓reduceIte, Nat.reduceEqDiff, Nat.reduceAdd, Nat.reduceMul, Nat.reduceLeDiff, Nat.reduceLT, Int.reduceNeg, DF, eff, Nat.reduceSub, fwrap_i64, ← e_h1, ← e_h2, x0, y0, c0]
    exact ⟨by simp [sameB, Rw.c, c0], F2⟩
def rowsB : List CR → List CR → Bool
  | [], [] => true
  | x :: l, y :: m => sameB x y && rowsB l m
  | _, _ => false
theorem rowsB_eq : ∀ (l m : List CR), rowsB l m = true ↔ l = m
  | [], [] => by simp [rowsB]
  | [], _ :: _ => by simp [rowsB]
  | _ :: _, [] => by simp [rowsB]
  | x :: l, y :: m => by simp [rowsB, sameB_eq, rowsB_eq l m]
theorem rowsB_len {l m : List CR} (h : ¬ l.length = m.length) : rowsB l m = false := by
  cases c : rowsB l m
  · rfl
  · rw [(rowsB_eq l m).1 c] at h; exact absurd rfl h
theorem drop_map_cons {α β : Type} {f : α → β} {l : List α} {i : Nat} {x : α} (h : l[i]? = some x) : (l.map f).drop i = f x :: (l.map f).drop (i + 1) := drop_cons (by rw [List.getElem?_map, h]; rfl)
def RsH (h : Heap) (v : V) (L : List Rw) : Prop := Recs Rw.cells 9 h v L ∧ (∀ r ∈ L, RwH h r) ∧ L.length ≤ 4096
theorem RsH.fr {h h' : Heap} {v : V} {L : List Rw} (x : RsH h v L) (f : Fr [] h h') : RsH h' v L := ⟨x.1.fr f, fun r m => (x.2.1 r m).fr f, x.2.2⟩
theorem eqR_ok {h : Heap} {va vb : V} {A B : List Rw} (w : WF h) (a : RsH h va A) (b : RsH h vb B) : Does go 57 [va, vb, .func (.func 56) [] []] h fun u h' => u = .bool (rowsB (A.map Rw.c) (B.map Rw.c)) ∧ Fr [] h h' := by
  have bnd := a.2.2
  by_cases cl : A.length = B.length
  · refine does_fn g57 rfl ?_
    simp (maxSteps := 1000000) (disch := omega) only [fn57, evs, ↓reduceIte, Nat.reduceEqDiff, Nat.reduceAdd, Nat.reduceMul, Nat.reduceLeDiff, Nat.reduceLT, Int.reduceNeg, DF, eff, Nat.reduceSub, fwrap_i64, a.1.len, b.1.len, eq_true (show (A.length : Int) = B.length by omega)]
    refine W_loop (fun n env hh => Fr [] h hh ∧ ∃ i : Nat, env.get 17 = some (.int .i64 i) ∧ env.get 16 = some (.int .i64 A.length) ∧ env.get 15 = some va ∧ env.get 1 = some vb ∧ env.get 2 = some (.func (.func 56) [] []) ∧ i ≤ A.length ∧
      rowsB ((A.map Rw.c).drop i) ((B.map Rw.c).drop i) = rowsB (A.map Rw.c) (B.map Rw.c) ∧ n = A.length - i) A.length (by have := a.2.2; omega) ?_ ?_
    · exact ⟨Fr.refl w, 0, (by simp [T.get_set]), by simp [T.get_set, cl], (by simp [T.get_set]), (by simp [T.get_set]), (by simp [T.get_set]), by omega, rfl, rfl⟩
    · rintro n env hh ⟨F, i, g17, g16, g15, g1, g2, hi, e, rfl⟩
      by_cases c : i < A.length
      · obtain ⟨b1, o1, x, p1, _, p3, p4⟩ := (a.1.fr F).ix Rw.len .i64 (i : Int) (by omega) (by omega)
        rw [Int.toNat_natCast] at p4
        have hx := (a.fr F).2.1 x (List.mem_of_getElem? p4)
        obtain ⟨h1, e_h1⟩ : ∃ h1, h1 = halloc hh [.int .u64 0, .int .i64 0, .int .i64 0, .int .u8 0, .str [], .str [], .nils, .str [], .nils] := ⟨_, rfl⟩
        have F_h1 : Fr [] hh h1 := e_h1 ▸ Fr.halloc F.wf _
        have o_h1 : Own h1 hh.next [.int .u64 0, .int .i64 0, .int .i64 0, .int .u8 0, .str [], .str [], .nils, .str [], .nils] := e_h1 ▸ Own.new F.wf _
        simp (maxSteps := 1000000) (disch := omega) only [evs, ↓reduceIte, Nat.reduceEqDiff, Nat.reduceAdd, Nat.reduceMul, Nat.reduceLeDiff, Nat.reduceLT, Int.reduceNeg, DF, eff, Nat.reduceSub, fwrap_i64, g17, g16, g15, g1, g2, show (i : Int) < A.length by omega, p1, p3, ← e_h1]
        refine store_step (c' := x.cells) F_h1.wf o_h1 rfl hx.one rfl ?_
        intro h2 q2 F2 n2
        have F02 : Fr [] hh h2 := F_h1.fresh F2 F.wf (Nat.le_refl _)
        obtain ⟨b2, o2, y, r1, _, r3, r4⟩ := (b.1.fr (F.then F02)).ix Rw.len .i64 (i : Int) (by omega) (by have := a.2.2; omega)
        rw [Int.toNat_natCast] at r4
        have hy := (b.fr (F.then F02)).2.1 y (List.mem_of_getElem? r4)
        obtain ⟨h3, e_h3⟩ : ∃ h3, h3 = halloc h2 [.int .u64 0, .int .i64 0, .int .i64 0, .int .u8 0, .str [], .str [], .nils, .str [], .nils] := ⟨_, rfl⟩
        have F_h3 : Fr [] h2 h3 := e_h3 ▸ Fr.halloc F02.wf _
        have o_h3 : Own h3 h2.next [.int .u64 0, .int .i64 0, .int .i64 0, .int .u8 0, .str [], .str [], .nils, .str [], .nils] := e_h3 ▸ Own.new F02.wf _
        simp (maxSteps := 1000000) (disch := omega) only [evs, ↓reduceIte, Nat.reduceEqDiff, Nat.reduceAdd, Nat.reduceMul, Nat.reduceLeDiff, Nat.reduceLT, Int.reduceNeg, DF, eff, Nat.reduceSub, fwrap_i64, g17, g16, g15, g1, g2, r1, r3, ← e_h3]
        refine store_step (c' := y.cells) F_h3.wf o_h3 rfl hy.one rfl ?_
        intro h4 q4 F4 n4
        have F24 : Fr [] h2 h4 := F_h3.fresh F4 F02.wf (Nat.le_refl _)
        have F04 := F02.then F24
        have lx : hload h4 hh.next 0 9 = some x.cells := by rw [(F24.get q2).ld]; rfl
        have ly : hload h4 h2.next 0 9 = some y.cells := by rw [q4.ld]; rfl
        simp (maxSteps := 1000000) (disch := omega) only [evs, ↓reduceIte, Nat.reduceEqDiff, Nat.reduceAdd, Nat.reduceMul, Nat.reduceLeDiff, Nat.reduceLT, Int.reduceNeg, DF, eff, Nat.reduceSub, fwrap_i64, g17, g16, g15, g1, g2, lx, ly]
        refine OQ_does (rsame_ok F04.wf (hx.fr F04) (hy.fr F24)) ?_
        rintro _ h5 ⟨rfl, F5⟩
        rw [drop_map_cons p4, drop_map_cons r4] at e
        simp only [rowsB] at e
        cases d : sameB x.c y.c
        · simp (maxSteps := 1000000) (disch := omega) only [evs, ↓reduceIte, Nat.reduceEqDiff, Nat.reduceAdd, Nat.reduceMul, Nat.reduceLeDiff, Nat.reduceLT, Int.reduceNeg, DF, eff, Nat.reduceSub, fwrap_i64, g17, g16, g15, g1, g2]
          exact ⟨by rw [← e, d]; rfl, (F.then F04).then F5⟩
        · simp (maxSteps := 1000000) (disch := omega) only [evs, ↓reduceIte, Nat.reduceEqDiff, Nat.reduceAdd, Nat.reduceMul, Nat.reduceLeDiff, Nat.reduceLT, Int.reduceNeg, DF, eff, Nat.reduceSub, fwrap_i64, g17, g16, g15, g1, g2]
          rw [d, Bool.true_and] at e
          refine (roundQ_norm _ _ _).2 ⟨A.length - (i + 1), by omega, (F.then F04).then F5, i + 1, (by simp [T.get_set]), (by simp [T.get_set, g16]), (by simp [T.get_set, g15]), (by simp [T.get_set, g1]), (by simp [T.get_set, g2]), by omega, e, rfl⟩
          done
      · simp (maxSteps := 1000000) (disch := omega) only [evs, ↓reduceIte, Nat.reduceEqDiff, Nat.reduceAdd, Nat.reduceMul, Nat.reduceLeDiff, Nat.reduceLT, Int.reduceNeg, DF, eff, Nat.reduceSub, fwrap_i64, g17, g16, g15, g1, g2, show ¬ (i : Int) < A.length by omega]
        rw [List.drop_of_length_le (by simp; omega), List.drop_of_length_le (by simp; omega)] at e
        exact ⟨by rw [← e]; rfl, F⟩
  · refine does_fn g57 rfl ?_
    simp (maxSteps := 1000000) (disch := omega) only [fn57, evs, ↓reduceIte, Nat.reduceEqDiff, Nat.reduceAdd, Nat.reduceMul, Nat.reduceLeDiff, Nat.reduceLT, Int.reduceNeg, DF, eff, Nat.reduceSub, fwrap_i64, a.1.len, b.1.len, show ¬ (A.length : Int) = B.length by omega]
    exact ⟨by rw [rowsB_len (by simpa using cl)], Fr.refl w⟩
structure Sc where
  off : Int
  vr : V
  rows : List Rw
  pin : Bool
  hd : Rw
structure CS where
  off : Int
  rows : List CR
  pin : Bool
  hd : CR
def Sc.cells (s : Sc) : List V := [.int .i64 s.off, s.vr, .bool s.pin, .int .u64 s.hd.key, .int .i64 s.hd.top, .int .i64 s.hd.sz, .int .u8 (s.hd.nd.k : Int), .str s.hd.nd.tg, .str s.hd.nd.ky, s.hd.nd.va, .str s.hd.nd.tx, s.hd.nd.vc]
def Sc.c (s : Sc) : CS := ⟨s.off, s.rows.map Rw.c, s.pin, s.hd.c⟩
def ScH (h : Heap) (s : Sc) : Prop := RsH h s.vr s.rows ∧ RwH h s.hd
theorem ScH.fr {h h' : Heap} {s : Sc} (x : ScH h s) (f : Fr [] h h') : ScH h' s := ⟨x.1.fr f, x.2.fr f⟩
theorem ScH.one {h : Heap} {s : Sc} (x : ScH h s) : onesB s.cells = true := by
  have v1 := Sl.one x.1.1
  have e : s.cells = [.int .i64 s.off, s.vr, .bool s.pin] ++ s.hd.cells := rfl
  rw [e, onesB_append, x.2.one]; simp only [onesB_cons, onesB_nil, v1]; rfl
def SameB (a b : CS) : Bool := decide (a.off = b.off) && (decide (a.pin = b.pin) && (sameB a.hd b.hd && rowsB a.rows b.rows))
theorem SameB_eq (a b : CS) : SameB a b = true ↔ a = b := by
  obtain ⟨a1, a2, a3, a4⟩ := a
  obtain ⟨b1, b2, b3, b4⟩ := b
  simp only [SameB, Bool.and_eq_true, decide_eq_true_eq, sameB_eq, rowsB_eq, CS.mk.injEq]
  constructor
  · rintro ⟨a, b, c, d⟩; exact ⟨a, d, b, c⟩
  · rintro ⟨a, d, b, c⟩; exact ⟨a, b, c, d⟩
theorem Same_ok {h : Heap} {a b : Sc} (w : WF h) (ha : ScH h a) (hb : ScH h b) : Does go 34 [.agg a.cells, .agg b.cells] h fun u h' => u = .bool (SameB a.c b.c) ∧ Fr [] h h' := by
  obtain ⟨h1, e_h1⟩ : ∃ h1, h1 = halloc h a.cells := ⟨_, rfl⟩
  have F_h1 : Fr [] h h1 := e_h1 ▸ Fr.halloc w _
  have o_h1 : Own h1 h.next a.cells := e_h1 ▸ Own.new w _
  obtain ⟨h2, e_h2⟩ : ∃ h2, h2 = halloc h1 b.cells := ⟨_, rfl⟩
  have F_h2 : Fr [] h1 h2 := e_h2 ▸ Fr.halloc F_h1.wf _
  have o_h2 : Own h2 h1.next b.cells := e_h2 ▸ Own.new F_h1.wf _
  have F2 := F_h1.then F_h2
  have o1 := F_h2.get o_h1
  have x0 : hload1 h2 h.next 0 = some (.int .i64 a.off) := o1.ld1 0
  have x2 : hload1 h2 h.next 2 = some (.bool a.pin) := o1.ld1 2
  have x3 : hload h2 h.next 3 9 = some a.hd.cells := by rw [o1.ld]; rfl
  have y0 : hload1 h2 h1.next 0 = some (.int .i64 b.off) := o_h2.ld1 0
  have y2 : hload1 h2 h1.next 2 = some (.bool b.pin) := o_h2.ld1 2
  have y3 : hload h2 h1.next 3 9 = some b.hd.cells := by rw [o_h2.ld]; rfl
  by_cases c0 : a.off = b.off
  · by_cases c1 : a.pin = b.pin
    · refine does_fn g34 rfl ?_
      simp (maxSteps := 1000000) (disch := omega) only [fn34, evs, ↓reduceIte, Nat.reduceEqDiff, Nat.reduceAdd, Nat.reduceMul, Nat.reduceLeDiff, Nat.reduceLT, Int.reduceNeg, DF, eff, Nat.reduceSub, fwrap_i64, ← e_h1, ← e_h2, x0, y0, x2, y2, eq_true c0, eq_true c1, x3, y3]
      refine OQ_does (rsame_ok F2.wf (ha.2.fr F2) (hb.2.fr F2)) ?_
      rintro _ h3 ⟨rfl, F3⟩
      have x1 : hload1 h3 h.next 1 = some a.vr := (F3.get o1).ld1 1
      have y1 : hload1 h3 h1.next 1 = some b.vr := (F3.get o_h2).ld1 1
      cases c2 : sameB a.hd.c b.hd.c
      · simp (maxSteps := 1000000) (disch := omega) only [evs, ↓reduceIte, Nat.reduceEqDiff, Nat.reduceAdd, Nat.reduceMul, Nat.reduceLeDiff, Nat.reduceLT, Int.reduceNeg, DF, eff, Nat.reduceSub, fwrap_i64]
        exact ⟨by simp [SameB, Sc.c, c2], F2.then F3⟩
      · simp (maxSteps := 1000000) (disch := omega) only [evs, ↓reduceIte, Nat.reduceEqDiff, Nat.reduceAdd, Nat.reduceMul, Nat.reduceLeDiff, Nat.reduceLT, Int.reduceNeg, DF, eff, Nat.reduceSub, fwrap_i64, x1, y1]
        refine OQ_does (eqR_ok F3.wf (ha.1.fr (F2.then F3)) (hb.1.fr (F2.then F3))) ?_
        rintro _ h4 ⟨rfl, F4⟩
        simp (maxSteps := 1000000) (disch := omega) only [evs, ↓reduceIte, Nat.reduceEqDiff, Nat.reduceAdd, Nat.reduceMul, Nat.reduceLeDiff, Nat.reduceLT, Int.reduceNeg, DF, eff, Nat.reduceSub, fwrap_i64]
        exact ⟨by simp [SameB, Sc.c, c0, c1, c2], (F2.then F3).then F4⟩
    · refine does_fn g34 rfl ?_
      simp (maxSteps := 1000000) (disch := omega) only [fn34, evs, ↓reduceIte, Nat.reduceEqDiff, Nat.reduceAdd, Nat.reduceMul, Nat.reduceLeDiff, Nat.reduceLT, Int.reduceNeg, DF, eff, Nat.reduceSub, fwrap_i64, ← e_h1, ← e_h2, x0, y0, x2, y2, eq_true c0, c1]
      exact ⟨by simp [SameB, Sc.c, c1], F2⟩
  · refine does_fn g34 rfl ?_
    simp (maxSteps := 1000000) (disch := omega) only [fn34, evs, ↓reduceIte, Nat.reduceEqDiff, Nat.reduceAdd, Nat.reduceMul, Nat.reduceLeDiff, Nat.reduceLT, Int.reduceNeg, DF, eff, Nat.reduceSub, fwrap_i64, ← e_h1, ← e_h2, x0, y0, c0]
    exact ⟨by simp [SameB, Sc.c, c0], F2⟩
theorem ssame_ok {h : Heap} {a b : Rw} (w : WF h) (ha : RwH h a) (hb : RwH h b) : Does go 46 [.agg a.cells, .agg b.cells] h fun u h' => u = .bool (sameB a.c b.c) ∧ Fr [] h h' := by
  obtain ⟨h1, e_h1⟩ : ∃ h1, h1 = halloc h a.cells := ⟨_, rfl⟩
  have F_h1 : Fr [] h h1 := e_h1 ▸ Fr.halloc w _
  have o_h1 : Own h1 h.next a.cells := e_h1 ▸ Own.new w _
  obtain ⟨h2, e_h2⟩ : ∃ h2, h2 = halloc h1 b.cells := ⟨_, rfl⟩
  have F_h2 : Fr [] h1 h2 := e_h2 ▸ Fr.halloc F_h1.wf _
  have o_h2 : Own h2 h1.next b.cells := e_h2 ▸ Own.new F_h1.wf _
  have F2 := F_h1.then F_h2
  have o1 := F_h2.get o_h1
  have x3 : hload h2 h.next 0 9 = some a.cells := by rw [o1.ld]; rfl
  have y3 : hload h2 h1.next 0 9 = some b.cells := by rw [o_h2.ld]; rfl
  have e : ∀ r : Rw, afill [.int .i64 0, .nils, .bool false, .int .u64 0, .int .i64 0, .int .i64 0, .int .u8 0, .str [], .str [], .nils, .str [], .nils] [(3, 9)] [.agg r.cells] = some (⟨0, .nils, [], false, r⟩ : Sc).cells := fun r => rfl
  refine does_fn g46 rfl ?_
  simp (maxSteps := 1000000) (disch := omega) only [fn46, evs, ↓reduceIte, Nat.reduceEqDiff, Nat.reduceAdd, Nat.reduceMul, Nat.reduceLeDiff, Nat.reduceLT, Int.reduceNeg, DF, eff, Nat.reduceSub, fwrap_i64, ← e_h1, ← e_h2, x3, y3, e]
  refine OQ_does (Same_ok (a := ⟨0, .nils, [], false, a⟩) (b := ⟨0, .nils, [], false, b⟩) F2.wf ⟨⟨Recs.nil, by simp, by simp⟩, ha.fr F2⟩ ⟨⟨Recs.nil, by simp, by simp⟩, hb.fr F2⟩) ?_
  rintro _ h3 ⟨rfl, F3⟩
  simp (maxSteps := 1000000) (disch := omega) only [evs, ↓reduceIte, Nat.reduceEqDiff, Nat.reduceAdd, Nat.reduceMul, Nat.reduceLeDiff, Nat.reduceLT, Int.reduceNeg, DF, eff, Nat.reduceSub, fwrap_i64]
  exact ⟨by simp [SameB, Sc.c, rowsB], F2.then F3⟩
def wKey : Str := [107, 101, 121]
def wTop : Str := [116, 111, 112]
def wSize : Str := [115, 105, 122, 101]
def wTree : Str := [116, 114, 101, 101]
def wOff : Str := [111, 102, 102, 115, 101, 116]
def wRows : Str := [114, 111, 119, 115]
def wPin : Str := [112, 105, 110, 110, 101, 100]
def wHead : Str := [104, 101, 97, 100]
def rowD (a b : CR) : Str := if a.key ≠ b.key then wKey else if a.top ≠ b.top then wTop else if a.sz ≠ b.sz then wSize else if sameB a b = true then [] else wTree
theorem row_ok {h : Heap} {a b : Rw} (w : WF h) (ha : RwH h a) (hb : RwH h b) : Does go 35 [.agg a.cells, .agg b.cells] h fun u h' => u = .str (rowD a.c b.c) ∧ Fr [] h h' := by
  obtain ⟨h1, e_h1⟩ : ∃ h1, h1 = halloc h a.cells := ⟨_, rfl⟩
  have F_h1 : Fr [] h h1 := e_h1 ▸ Fr.halloc w _
  have o_h1 : Own h1 h.next a.cells := e_h1 ▸ Own.new w _
  obtain ⟨h2, e_h2⟩ : ∃ h2, h2 = halloc h1 b.cells := ⟨_, rfl⟩
  have F_h2 : Fr [] h1 h2 := e_h2 ▸ Fr.halloc F_h1.wf _
  have o_h2 : Own h2 h1.next b.cells := e_h2 ▸ Own.new F_h1.wf _
  have F2 := F_h1.then F_h2
  have o1 := F_h2.get o_h1
  have x0 : hload1 h2 h.next 0 = some (.int .u64 a.key) := o1.ld1 0
  have x1 : hload1 h2 h.next 1 = some (.int .i64 a.top) := o1.ld1 1
  have x2 : hload1 h2 h.next 2 = some (.int .i64 a.sz) := o1.ld1 2
  have x3 : hload h2 h.next 0 9 = some a.cells := by rw [o1.ld]; rfl
  have y0 : hload1 h2 h1.next 0 = some (.int .u64 b.key) := o_h2.ld1 0
  have y1 : hload1 h2 h1.next 1 = some (.int .i64 b.top) := o_h2.ld1 1
  have y2 : hload1 h2 h1.next 2 = some (.int .i64 b.sz) := o_h2.ld1 2
  have y3 : hload h2 h1.next 0 9 = some b.cells := by rw [o_h2.ld]; rfl
  by_cases c0 : a.key = b.key
  · by_cases c1 : a.top = b.top
    · by_cases c2 : a.sz = b.sz
      · refine does_fn g35 rfl ?_
        simp (maxSteps := 1000000) (disch := omega) only [fn35, evs, ↓reduceIte, Nat.reduceEqDiff, Nat.reduceAdd, Nat.reduceMul, Nat.reduceLeDiff, Nat.reduceLT, Int.reduceNeg, DF, eff, Nat.reduceSub, fwrap_i64, ← e_h1, ← e_h2, x0, y0, x1, y1, x2, y2, eq_true c0, eq_true c1, eq_true c2, x3, y3]
        refine OQ_does (ssame_ok F2.wf (ha.fr F2) (hb.fr F2)) ?_
        rintro _ h3 ⟨rfl, F3⟩
        cases d : sameB a.c b.c
        · simp (maxSteps := 1000000) (disch := omega) only [evs, ↓reduceIte, Nat.reduceEqDiff, Nat.reduceAdd, Nat.reduceMul, Nat.reduceLeDiff, Nat.reduceLT, Int.reduceNeg, DF, eff, Nat.reduceSub, fwrap_i64]
          exact ⟨by simp [rowD, Rw.c, c0, c1, c2]; rw [show sameB ⟨b.key, b.top, b.sz, a.nd.ct⟩ ⟨b.key, b.top, b.sz, b.nd.ct⟩ = false by rw [← d]; simp [Rw.c, c0, c1, c2]]; rfl, F2.then F3⟩
        · simp (maxSteps := 1000000) (disch := omega) only [evs, ↓reduceIte, Nat.reduceEqDiff, Nat.reduceAdd, Nat.reduceMul, Nat.reduceLeDiff, Nat.reduceLT, Int.reduceNeg, DF, eff, Nat.reduceSub, fwrap_i64]
          exact ⟨by simp only [rowD, d, if_true]; simp [Rw.c, c0, c1, c2], F2.then F3⟩
      · refine does_fn g35 rfl ?_
        simp (maxSteps := 1000000) (disch := omega) only [fn35, evs, ↓reduceIte, Nat.reduceEqDiff, Nat.reduceAdd, Nat.reduceMul, Nat.reduceLeDiff, Nat.reduceLT, Int.reduceNeg, DF, eff, Nat.reduceSub, fwrap_i64, ← e_h1, ← e_h2, x0, y0, x1, y1, x2, y2, eq_true c0, eq_true c1, c2]
        exact ⟨by simp [rowD, Rw.c, c0, c1, c2, wSize], F2⟩
    · refine does_fn g35 rfl ?_
      simp (maxSteps := 1000000) (disch := omega) only [fn35, evs, ↓reduceIte, Nat.reduceEqDiff, Nat.reduceAdd, Nat.reduceMul, Nat.reduceLeDiff, Nat.reduceLT, Int.reduceNeg, DF, eff, Nat.reduceSub, fwrap_i64, ← e_h1, ← e_h2, x0, y0, x1, y1, eq_true c0, c1]
      exact ⟨by simp [rowD, Rw.c, c0, c1, wTop], F2⟩
  · refine does_fn g35 rfl ?_
    simp (maxSteps := 1000000) (disch := omega) only [fn35, evs, ↓reduceIte, Nat.reduceEqDiff, Nat.reduceAdd, Nat.reduceMul, Nat.reduceLeDiff, Nat.reduceLT, Int.reduceNeg, DF, eff, Nat.reduceSub, fwrap_i64, ← e_h1, ← e_h2, x0, y0, c0]
    exact ⟨by simp [rowD, Rw.c, c0, wKey], F2⟩
def rowsD : List CR → List CR → Str
  | x :: l, y :: m => if rowD x y = [] then rowsD l m else rowD x y
  | _, _ => []
def diffD (a b : CS) : Str := if SameB a b = true then [] else if a.off ≠ b.off then wOff else if a.rows.length ≠ b.rows.length then wRows
  else if rowsD a.rows b.rows ≠ [] then rowsD a.rows b.rows else if a.pin ≠ b.pin then wPin else wHead
theorem differ_ok {h : Heap} {a b : Sc} (w : WF h) (ha : ScH h a) (hb : ScH h b) : Does go 16 [.agg a.cells, .agg b.cells] h fun u h' => u = .str (diffD a.c b.c) ∧ Fr [] h h' := by
  have bnd := ha.1.2.2
  obtain ⟨h1, e_h1⟩ : ∃ h1, h1 = halloc h a.cells := ⟨_, rfl⟩
  have F_h1 : Fr [] h h1 := e_h1 ▸ Fr.halloc w _
  have o_h1 : Own h1 h.next a.cells := e_h1 ▸ Own.new w _
  obtain ⟨h2, e_h2⟩ : ∃ h2, h2 = halloc h1 b.cells := ⟨_, rfl⟩
  have F_h2 : Fr [] h1 h2 := e_h2 ▸ Fr.halloc F_h1.wf _
  have o_h2 : Own h2 h1.next b.cells := e_h2 ▸ Own.new F_h1.wf _
  have F2 := F_h1.then F_h2
  have o1 := F_h2.get o_h1
  have lx : hload h2 h.next 0 12 = some a.cells := by rw [o1.ld]; rfl
  have ly : hload h2 h1.next 0 12 = some b.cells := by rw [o_h2.ld]; rfl
  refine does_fn g16 rfl ?_
  simp (maxSteps := 1000000) (disch := omega) only [fn16, evs, ↓reduceIte, Nat.reduceEqDiff, Nat.reduceAdd, Nat.reduceMul, Nat.reduceLeDiff, Nat.reduceLT, Int.reduceNeg, DF, eff, Nat.reduceSub, fwrap_i64, ← e_h1, ← e_h2, lx, ly]
  refine OQ_does (Same_ok F2.wf (ha.fr F2) (hb.fr F2)) ?_
  rintro _ h3 ⟨rfl, F3⟩
  have F03 := F2.then F3
  have o1' := F3.get o1
  have o2' := F3.get o_h2
  cases d : SameB a.c b.c
  · have x0 : hload1 h3 h.next 0 = some (.int .i64 a.off) := o1'.ld1 0
    have x1 : hload1 h3 h.next 1 = some a.vr := o1'.ld1 1
    have y0 : hload1 h3 h1.next 0 = some (.int .i64 b.off) := o2'.ld1 0
    have y1 : hload1 h3 h1.next 1 = some b.vr := o2'.ld1 1
    have la := (ha.1.1.fr F03).len
    have lb := (hb.1.1.fr F03).len
    have dd : diffD a.c b.c = if a.c.off ≠ b.c.off then wOff else if a.c.rows.length ≠ b.c.rows.length then wRows else if rowsD a.c.rows b.c.rows ≠ [] then rowsD a.c.rows b.c.rows else if a.c.pin ≠ b.c.pin then wPin else wHead := by
      unfold diffD; rw [d, if_neg (by simp)]
    by_cases c0 : a.off = b.off
    · by_cases c1 : a.rows.length = b.rows.length
      · simp (maxSteps := 1000000) (disch := omega) only [evs, ↓reduceIte, Nat.reduceEqDiff, Nat.reduceAdd, Nat.reduceMul, Nat.reduceLeDiff, Nat.reduceLT, Int.reduceNeg, DF, eff, Nat.reduceSub, fwrap_i64, x0, y0, x1, y1, eq_true c0, la, lb, eq_true (show (a.rows.length : Int) = b.rows.length by omega)]
        refine W_loop (fun n env hh => Fr [] h hh ∧ Own hh h.next a.cells ∧ Own hh h1.next b.cells ∧ ∃ i : Nat, env.get 25 = some (.int .i64 i) ∧ env.get 24 = some (.int .i64 a.rows.length) ∧ env.get 2 = some (.ptr h.next 0) ∧ env.get 3 = some (.ptr h1.next 0) ∧ i ≤ a.rows.length ∧
          rowsD (a.c.rows.drop i) (b.c.rows.drop i) = rowsD a.c.rows b.c.rows ∧ n = a.rows.length - i) a.rows.length (by have := ha.1.2.2; omega) ?_ ?_
        · exact ⟨F03, o1', o2', 0, (by simp [T.get_set]), by simp [T.get_set, c1], (by simp [T.get_set]), (by simp [T.get_set]), by omega, rfl, rfl⟩
        · rintro n env hh ⟨F, p, q, i, g25, g24, g2, g3, hi, e, rfl⟩
          have x1 : hload1 hh h.next 1 = some a.vr := p.ld1 1
          have y1 : hload1 hh h1.next 1 = some b.vr := q.ld1 1
          by_cases c : i < a.rows.length
          · obtain ⟨b1, o1, x, p1, _, p3, p4⟩ := (ha.1.1.fr F).ix Rw.len .i64 (i : Int) (by omega) (by omega)
            obtain ⟨b2, o2, y, r1, _, r3, r4⟩ := (hb.1.1.fr F).ix Rw.len .i64 (i : Int) (by omega) (by omega)
            rw [Int.toNat_natCast] at p4 r4
            have hx := (ha.1.fr F).2.1 x (List.mem_of_getElem? p4)
            have hy := (hb.1.fr F).2.1 y (List.mem_of_getElem? r4)
            rw [show a.c.rows.drop i = x.c :: a.c.rows.drop (i + 1) from drop_map_cons p4, show b.c.rows.drop i = y.c :: b.c.rows.drop (i + 1) from drop_map_cons r4] at e
            simp only [rowsD] at e
            simp (maxSteps := 1000000) (disch := omega) only [evs, ↓reduceIte, Nat.reduceEqDiff, Nat.reduceAdd, Nat.reduceMul, Nat.reduceLeDiff, Nat.reduceLT, Int.reduceNeg, DF, eff, Nat.reduceSub, fwrap_i64, g25, g24, g2, g3, show (i : Int) < a.rows.length by omega, x1, y1, p1, r1, p3, r3]
            refine OQ_does (row_ok F.wf hx hy) ?_
            rintro _ h5 ⟨rfl, F5⟩
            have p5 := F5.get p
            have q5 := F5.get q
            have x15 : hload1 h5 h.next 1 = some a.vr := p5.ld1 1
            have y15 : hload1 h5 h1.next 1 = some b.vr := q5.ld1 1
            by_cases z : rowD x.c y.c = []
            · rw [if_pos z] at e
              simp (maxSteps := 1000000) (disch := omega) only [evs, ↓reduceIte, Nat.reduceEqDiff, Nat.reduceAdd, Nat.reduceMul, Nat.reduceLeDiff, Nat.reduceLT, Int.reduceNeg, DF, eff, Nat.reduceSub, fwrap_i64, g25, g24, g2, g3, aP_sbn, z, beq_self_eq_true, x1, y1, p3, r3, x15, y15]
              refine (roundQ_norm _ _ _).2 ⟨a.rows.length - (i + 1), by omega, F.then F5, p5, q5, i + 1, (by simp [T.get_set]), (by simp [T.get_set, g24]), (by simp [T.get_set, g2]), (by simp [T.get_set, g3]), by omega, e, rfl⟩
              done
            · rw [if_neg z] at e
              have zb : (rowD x.c y.c == []) = false := by simpa using z
              simp (maxSteps := 1000000) (disch := omega) only [evs, ↓reduceIte, Nat.reduceEqDiff, Nat.reduceAdd, Nat.reduceMul, Nat.reduceLeDiff, Nat.reduceLT, Int.reduceNeg, DF, eff, Nat.reduceSub, fwrap_i64, g25, g24, g2, g3, aP_sbn, zb, x1, y1, p3, r3, x15, y15]
              refine ⟨?_, F.then F5⟩
              rw [dd, if_neg (by simp [Sc.c, c0]), if_neg (by simp [Sc.c, c1]), ← e, if_pos z]
          · have x2 : hload1 hh h.next 2 = some (.bool a.pin) := p.ld1 2
            have y2 : hload1 hh h1.next 2 = some (.bool b.pin) := q.ld1 2
            rw [List.drop_of_length_le (by simp [Sc.c]; omega), List.drop_of_length_le (by simp [Sc.c]; omega)] at e
            have e' : rowsD a.c.rows b.c.rows = [] := by rw [← e]; rfl
            by_cases c2 : a.pin = b.pin
            · simp (maxSteps := 1000000) (disch := omega) only [evs, ↓reduceIte, Nat.reduceEqDiff, Nat.reduceAdd, Nat.reduceMul, Nat.reduceLeDiff, Nat.reduceLT, Int.reduceNeg, DF, eff, Nat.reduceSub, fwrap_i64, g25, g24, g2, g3, show ¬ (i : Int) < a.rows.length by omega, x2, y2, eq_true c2]
              refine ⟨?_, F⟩
              rw [dd, if_neg (by simp [Sc.c, c0]), if_neg (by simp [Sc.c, c1]), e', if_neg (by simp), if_neg (by simp [Sc.c, c2])]; rfl
            · simp (maxSteps := 1000000) (disch := omega) only [evs, ↓reduceIte, Nat.reduceEqDiff, Nat.reduceAdd, Nat.reduceMul, Nat.reduceLeDiff, Nat.reduceLT, Int.reduceNeg, DF, eff, Nat.reduceSub, fwrap_i64, g25, g24, g2, g3, show ¬ (i : Int) < a.rows.length by omega, x2, y2, c2]
              refine ⟨?_, F⟩
              rw [dd, if_neg (by simp [Sc.c, c0]), if_neg (by simp [Sc.c, c1]), e', if_neg (by simp), if_pos (by simpa [Sc.c] using c2)]; rfl
      · simp (maxSteps := 1000000) (disch := omega) only [evs, ↓reduceIte, Nat.reduceEqDiff, Nat.reduceAdd, Nat.reduceMul, Nat.reduceLeDiff, Nat.reduceLT, Int.reduceNeg, DF, eff, Nat.reduceSub, fwrap_i64, x0, y0, x1, y1, eq_true c0, la, lb, show ¬ (a.rows.length : Int) = b.rows.length by omega]
        exact ⟨by rw [dd, if_neg (by simp [Sc.c, c0]), if_pos (by simpa [Sc.c] using c1)]; rfl, F03⟩
    · simp (maxSteps := 1000000) (disch := omega) only [evs, ↓reduceIte, Nat.reduceEqDiff, Nat.reduceAdd, Nat.reduceMul, Nat.reduceLeDiff, Nat.reduceLT, Int.reduceNeg, DF, eff, Nat.reduceSub, fwrap_i64, x0, y0, c0]
      exact ⟨by rw [dd, if_pos (by simpa [Sc.c] using c0)]; rfl, F03⟩
  · simp (maxSteps := 1000000) (disch := omega) only [evs, ↓reduceIte, Nat.reduceEqDiff, Nat.reduceAdd, Nat.reduceMul, Nat.reduceLeDiff, Nat.reduceLT, Int.reduceNeg, DF, eff, Nat.reduceSub, fwrap_i64]
    exact ⟨by unfold diffD; rw [d, if_pos rfl], F03⟩
theorem clone_ok {h : Heap} {n : Nat} {x : V} {xs : List V} (w : WF h) (a : ASl h 2 x n xs) (hn : n ≤ 100000) : Does go 80 [x] h fun u h' => Gn 2 h' h.next u n xs ∧ Fr [] h h' := by
  by_cases c : x = .nils
  · subst c
    have : n = 0 := a.2
    subst this
    have q : aP (.nil 1 false) [.nils, .nils] = some (.bool true) := rfl
    refine does_fn g80 rfl ?_
    simp (maxSteps := 1000000) (disch := omega) only [fn80, evs, ↓reduceIte, Nat.reduceEqDiff, Nat.reduceAdd, Nat.reduceMul, Nat.reduceLeDiff, Nat.reduceLT, Int.reduceNeg, DF, eff, Nat.reduceSub, fwrap_i64, q]
    exact ⟨⟨a.1, .inl ⟨rfl, .inl rfl⟩⟩, Fr.refl w⟩
  · refine does_fn g80 rfl ?_
    simp (maxSteps := 1000000) (disch := omega) only [fn80, evs, ↓reduceIte, Nat.reduceEqDiff, Nat.reduceAdd, Nat.reduceMul, Nat.reduceLeDiff, Nat.reduceLT, Int.reduceNeg, DF, eff, Nat.reduceSub, fwrap_i64, (a.src rfl).2.2 c]
    refine clone_core (bytes := 32) w a rfl (by omega) (by omega) ?_
    intro v' h' g f
    simp (maxSteps := 1000000) (disch := omega) only [evs, ↓reduceIte, Nat.reduceEqDiff, Nat.reduceAdd, Nat.reduceMul, Nat.reduceLeDiff, Nat.reduceLT, Int.reduceNeg, DF, eff, Nat.reduceSub, fwrap_i64]
    exact ⟨g, f⟩
def CpG (e : Nat) (h : Heap) (B : Nat) (v : V) (n : Nat) (cs : List V) : Prop := cs.length = n * e ∧ ((n = 0 ∧ (v = .nils ∨ ∃ b, B ≤ b ∧ v = .slice b 0 0 0 ∧ Own h b [])) ∨ ∃ b, B ≤ b ∧ v = .slice b 0 n n ∧ Own h b cs)
theorem CpG.sl {e : Nat} {h : Heap} {B n : Nat} {v : V} {cs : List V} (g : CpG e h B v n cs) : Sl h e v n cs := by
  obtain ⟨hl, ⟨rfl, rfl | ⟨b, _, rfl, o⟩⟩ | ⟨b, _, rfl, o⟩⟩ := g
  · exact ⟨hl, rfl⟩
  · have : cs = [] := List.length_eq_zero_iff.1 (by omega)
    subst this
    exact ⟨hl, rfl, Nat.le_refl _, [], o, by simp, by simp⟩
  · exact ⟨hl, rfl, Nat.le_refl _, cs, o, by omega, by rw [List.drop_zero, List.take_of_length_le (by omega)]⟩
theorem CpG.one {e : Nat} {h : Heap} {B n : Nat} {v : V} {cs : List V} (g : CpG e h B v n cs) : v.one = true := g.sl.one
theorem Stab.cpg {P : Nat → Prop} {h : Heap} {e B n : Nat} {v : V} {cs : List V} (w : WF h) (g : CpG e h B v n cs) (p : ∀ b, B ≤ b → b < h.next → P b) : Stab P h fun h => CpG e h B v n cs := by
  obtain ⟨hl, ⟨rfl, rfl | ⟨b, hb, rfl, o⟩⟩ | ⟨b, hb, rfl, o⟩⟩ := g
  · exact fun _ _ _ _ => ⟨hl, .inl ⟨rfl, .inl rfl⟩⟩
  · exact (Stab.own w o (p b hb (o.lt w))).imp fun h o => ⟨hl, .inl ⟨rfl, .inr ⟨b, hb, rfl, o⟩⟩⟩
  · exact (Stab.own w o (p b hb (o.lt w))).imp fun h o => ⟨hl, .inr ⟨b, hb, rfl, o⟩⟩
theorem clip_ok {N : Nat} {h : Heap} {v : V} {n : Nat} {cs : List V} (g : Gn 2 h N v n cs) : Does go 79 [v] h fun u h' => CpG 2 h N u n cs ∧ h = h' := by
  have q : ∀ y n, n ≤ y → abounds n y false true true [.int .i64 (n : Int), .int .i64 (n : Int)] = some (0, n, some n) := fun y n hy => by
    simp only [abounds, abound_ok .i64 (n : Int) y (by omega) (by omega), abound_ok .i64 (n : Int) n (by omega) (by omega), Option.bind_some, Option.map_some, Int.toNat_natCast]
  obtain ⟨hl, ⟨rfl, rfl | ⟨b, hb, rfl, o⟩⟩ | ⟨b, hb, rfl, o⟩⟩ := g
  · have x : aP (.sl none 2 false true true) [.nils, .int .i64 0, .int .i64 0] = some .nils := rfl
    refine does_fn g79 rfl ?_
    simp (maxSteps := 1000000) (disch := omega) only [fn79, evs, ↓reduceIte, Nat.reduceEqDiff, Nat.reduceAdd, Nat.reduceMul, Nat.reduceLeDiff, Nat.reduceLT, Int.reduceNeg, DF, eff, Nat.reduceSub, fwrap_i64, x]
    exact ⟨hl, .inl ⟨rfl, .inl rfl⟩⟩
  · have x : aP (.sl none 2 false true true) [.slice b 0 0 0, .int .i64 ((0 : Nat) : Int), .int .i64 ((0 : Nat) : Int)] = some (.slice b 0 0 0) := by
      simp only [aP, aslice, q 0 0 (Nat.le_refl _), Option.map_some, Option.getD_some]; rfl
    refine does_fn g79 rfl ?_
    simp (maxSteps := 1000000) (disch := omega) only [fn79, evs, ↓reduceIte, Nat.reduceEqDiff, Nat.reduceAdd, Nat.reduceMul, Nat.reduceLeDiff, Nat.reduceLT, Int.reduceNeg, DF, eff, Nat.reduceSub, fwrap_i64, x]
    exact ⟨hl, .inl ⟨rfl, .inr ⟨b, hb, rfl, o⟩⟩⟩
  · have x : aP (.sl none 2 false true true) [.sliceU b 0 n 2, .int .i64 ((n : Nat) : Int), .int .i64 ((n : Nat) : Int)] = some (.slice b 0 n n) := by
      simp only [aP, aslice, beq_tt (rfl : 2 = 2), (Nat.blt_eq ..).mpr (show 0 < 2 by omega), Bool.and_self, cond_true, q n n (Nat.le_refl _), Option.map_some, Option.bind_some, Option.getD_some]
      cases Nat.beq n 0 <;> simp
    refine does_fn g79 rfl ?_
    simp (maxSteps := 1000000) (disch := omega) only [fn79, evs, ↓reduceIte, Nat.reduceEqDiff, Nat.reduceAdd, Nat.reduceMul, Nat.reduceLeDiff, Nat.reduceLT, Int.reduceNeg, DF, eff, Nat.reduceSub, fwrap_i64, x]
    exact ⟨hl, .inr ⟨b, hb, rfl, o⟩⟩
def CpE (a : Nd) : Prop := ∀ {h : Heap}, WF h → NdH h a → Does go 50 [.agg a.cells, .bool false] h fun u h' => ∃ b : Nd, u = .agg b.cells ∧ b.ct = a.ct.strip ∧ Stab (fun x => h.next ≤ x) h' (fun h => NdH h b) ∧ Fr [] h h'
def CpL : NT → Prop
  | .nil => True
  | .cons k tg ky at' tx va vc sub nx => CpE ⟨k, tg, ky, at', tx, va, vc, sub⟩ ∧ CpL nx
theorem CpL.at' : ∀ {t : NT} (i : Nat), CpL t → CpL (t.at' i)
  | .nil, 0, _ => trivial
  | .nil, _ + 1, _ => trivial
  | .cons _ _ _ _ _ _ _ _ _, 0, a => a
  | .cons _ _ _ _ _ _ _ _ _, i + 1, ⟨_, g⟩ => CpL.at' i g
abbrev z6 : List V := [.int .u8 0, .str [], .str [], .nils, .str [], .nils]
theorem repL_drop6 (m : Nat) : (repL z6 (m + 1)).drop 6 = repL z6 m := by rw [repL_succ]; rfl
theorem copied_any {a : Nd} (C : CpL a.sub) : CpE a := by
  intro h w hx
  obtain ⟨k, tg, ky, at', tx, va, vc, sub⟩ := a
  obtain ⟨hk, ra, na, rc, nc, ns, _⟩ := hx
  simp only [Nd.cells, Nd.ct] at *
  obtain ⟨h1, e_h1⟩ : ∃ h1, h1 = halloc h [.int .u8 (k : Int), .str tg, .str ky, va, .str tx, vc] := ⟨_, rfl⟩
  have F_h1 : Fr [] h h1 := e_h1 ▸ Fr.halloc w _
  have o_h1 : Own h1 h.next [.int .u8 (k : Int), .str tg, .str ky, va, .str tx, vc] := e_h1 ▸ Own.new w _
  obtain ⟨h2, e_h2⟩ : ∃ h2, h2 = halloc h1 [.int .u8 0, .str [], .str [], .nils, .str [], .nils] := ⟨_, rfl⟩
  have F_h2 : Fr [] h1 h2 := e_h2 ▸ Fr.halloc F_h1.wf _
  have o_h2 : Own h2 h1.next [.int .u8 0, .str [], .str [], .nils, .str [], .nils] := e_h2 ▸ Own.new F_h1.wf _
  have n1 := hnx e_h1
  have n2 := hnx e_h2
  have F02 := F_h1.then F_h2
  refine does_fn g50 rfl ?_
  simp (maxSteps := 1000000) (disch := omega) only [fn50, evs, ↓reduceIte, Nat.reduceEqDiff, Nat.reduceAdd, Nat.reduceMul, Nat.reduceLeDiff, Nat.reduceLT, Int.reduceNeg, DF, eff, Nat.reduceSub, fwrap_i64, ← e_h1, ← e_h2]
  refine store_step (c' := [.int .u8 (k : Int), .str tg, .str [], va, .str tx, vc]) F_h2.wf (F_h2.get o_h1) rfl rfl rfl ?_
  intro h3 o3 F3 n3
  have F23 : Fr [] h h3 := F02.fresh F3 w (Nat.le_refl _)
  have oz3 := F3.own _ _ (by simp; omega) o_h2
  have l3 : hload1 h3 h.next 3 = some va := o3.ld1 3
  simp (maxSteps := 1000000) (disch := omega) only [evs, ↓reduceIte, Nat.reduceEqDiff, Nat.reduceAdd, Nat.reduceMul, Nat.reduceLeDiff, Nat.reduceLT, Int.reduceNeg, DF, eff, Nat.reduceSub, fwrap_i64, l3]
  refine OQ_does (clone_ok F3.wf (Sl.a (Recs.fr ra F23)) (by omega)) ?_
  rintro v1 h4 ⟨g4, F4⟩
  simp (maxSteps := 1000000) (disch := omega) only [evs, ↓reduceIte, Nat.reduceEqDiff, Nat.reduceAdd, Nat.reduceMul, Nat.reduceLeDiff, Nat.reduceLT, Int.reduceNeg, DF, eff, Nat.reduceSub, fwrap_i64]
  refine OQ_does (clip_ok g4) ?_
  rintro v2 _ ⟨g5, rfl⟩
  have one2 := g5.one
  simp (maxSteps := 1000000) (disch := omega) only [evs, ↓reduceIte, Nat.reduceEqDiff, Nat.reduceAdd, Nat.reduceMul, Nat.reduceLeDiff, Nat.reduceLT, Int.reduceNeg, DF, eff, Nat.reduceSub, fwrap_i64, cells_one one2]
  refine store_step (c' := [.int .u8 (k : Int), .str tg, .str [], v2, .str tx, vc]) F4.wf (F4.get o3) (by rw [cells_one one2]; rfl) (by rw [cells_one one2]; simp [onesB_cons, onesB_nil, one2]) (by rw [cells_one one2]; rfl) ?_
  intro h5 o5 F5 n5
  have nn4 := F4.next
  have F05 : Fr [] h h5 := (F23.then F4).fresh F5 w (Nat.le_refl _)
  have oz5 := F5.own _ _ (by simp; omega) (F4.get oz3)
  have S5 : Stab (fun x => h.next + 2 ≤ x ∧ x < h5.next) h5 fun h => Recs attC 2 h v2 at' :=
    ((Stab.cpg F4.wf g5 (P := fun x => h.next + 2 ≤ x ∧ x < h5.next) fun x m l => ⟨by omega, by omega⟩).imp fun h q => q.sl).fr F4.wf F5 (by intro x m; rw [List.mem_singleton.1 m]; exact .inl fun p => by omega)
  have l5 : hload1 h5 h.next 5 = some vc := o5.ld1 5
  simp (maxSteps := 1000000) (disch := omega) only [evs, ↓reduceIte, Nat.reduceEqDiff, Nat.reduceAdd, Nat.reduceMul, Nat.reduceLeDiff, Nat.reduceLT, Int.reduceNeg, DF, eff, Nat.reduceSub, fwrap_i64, l5, (rc.fr F05).len]
  refine (amake_ok h5 z6 104 .i64 .i64 (sub.len : Int) (sub.len : Int) _ (by omega) (by omega) (by omega) (by omega)).2 ?_
  simp only [Int.toNat_natCast]
  obtain ⟨h6, e6⟩ : ∃ h6, h6 = halloc h5 (repL z6 sub.len) := ⟨_, rfl⟩
  have F6 : Fr [] h5 h6 := e6 ▸ Fr.halloc F5.wf _
  have o6 : Own h6 h5.next (repL z6 sub.len) := e6 ▸ Own.new F5.wf _
  have n6 := hnx e6
  have F06 := F05.then F6
  have l6 : hload1 h6 h.next 5 = some vc := (F6.get o5).ld1 5
  simp (maxSteps := 1000000) (disch := omega) only [evs, ↓reduceIte, Nat.reduceEqDiff, Nat.reduceAdd, Nat.reduceMul, Nat.reduceLeDiff, Nat.reduceLT, Int.reduceNeg, DF, eff, Nat.reduceSub, fwrap_i64, ← e6, l6, (rc.fr F06).len]
  refine W_loop (fun n env hh => Fr [] h hh ∧ h6.next ≤ hh.next ∧ Own hh h.next [.int .u8 (k : Int), .str tg, .str [], v2, .str tx, vc] ∧ Own hh h1.next z6 ∧ Stab (fun x => h.next + 2 ≤ x ∧ x < h5.next) hh (fun h => Recs attC 2 h v2 at') ∧
      ∃ (i : Nat) (d : NT), env.get 23 = some (.int .i64 i) ∧ env.get 22 = some (.int .i64 sub.len) ∧ env.get 21 = some vc ∧ env.get 5 = some (.slice h5.next 0 sub.len sub.len) ∧ env.get 1 = some (.bool false) ∧ env.get 2 = some (.ptr h.next 0) ∧ env.get 4 = some (.ptr h1.next 0) ∧
      i ≤ sub.len ∧ d.len = i ∧ Own hh h5.next (d.cells ++ repL z6 (sub.len - i)) ∧ Stab (fun x => h5.next < x) hh (fun h => NH h d) ∧ d.ct.app (sub.at' i).ct.strip = sub.ct.strip ∧ n = sub.len - i) sub.len (by omega) ?_ ?_
  · exact ⟨F06, Nat.le_refl _, F6.get o5, F6.get oz5, S5.fr0 F5.wf F6, 0, .nil, (by simp [T.get_set]), (by simp [T.get_set]), (by simp [T.get_set]), (by simp [T.get_set]), (by simp [T.get_set]), (by simp [T.get_set]), (by simp [T.get_set]), by omega, rfl, o6, Stab.const trivial, by cases sub <;> rfl, rfl⟩
  · rintro n env hh ⟨F, hn, ob, oz, Sa, i, d, g23, g22, g21, g5, g1, g2, g4, hi, dl, od, Sd, e, rfl⟩
    have dc := d.cells_len
    rw [dl] at dc
    by_cases c : i < sub.len
    · obtain ⟨x, nx, e1, e2, e3⟩ := sub.nd i c
      obtain ⟨b1, o1, p1, p2⟩ := (rc.fr F).ix6 c e2
      have hx := (ns.fr F).nd e1
      obtain ⟨h7, e_h7⟩ : ∃ h7, h7 = halloc hh [.int .u8 0, .str [], .str [], .nils, .str [], .nils] := ⟨_, rfl⟩
      have F_h7 : Fr [] hh h7 := e_h7 ▸ Fr.halloc F.wf _
      have o_h7 : Own h7 hh.next [.int .u8 0, .str [], .str [], .nils, .str [], .nils] := e_h7 ▸ Own.new F.wf _
      simp (maxSteps := 1000000) (disch := omega) only [evs, ↓reduceIte, Nat.reduceEqDiff, Nat.reduceAdd, Nat.reduceMul, Nat.reduceLeDiff, Nat.reduceLT, Int.reduceNeg, DF, eff, Nat.reduceSub, fwrap_i64, g23, g22, g21, g5, g1, g2, g4, show (i : Int) < sub.len by omega, p1, p2.2.2.2.2.2.2, ← e_h7]
      refine store_step (c' := x.cells) F_h7.wf o_h7 rfl hx.one rfl ?_
      intro h8 q8 F8 n8
      have F78 : Fr [] hh h8 := F_h7.fresh F8 F.wf (Nat.le_refl _)
      have lx : hload h8 hh.next 0 6 = some x.cells := by rw [q8.ld]; rfl
      have Cx := C.at' i
      rw [e1] at Cx
      simp (maxSteps := 1000000) (disch := omega) only [evs, ↓reduceIte, Nat.reduceEqDiff, Nat.reduceAdd, Nat.reduceMul, Nat.reduceLeDiff, Nat.reduceLT, Int.reduceNeg, DF, eff, Nat.reduceSub, fwrap_i64, g23, g22, g21, g5, g1, g2, g4, lx]
      refine OQ_does (Cx.1 F78.wf (NdH.fr hx F78)) ?_
      rintro _ h9 ⟨y, rfl, ey, Sy, F9⟩
      have F79 := F78.then F9
      have hy := Sy.now F9.wf
      have ix : aP (.ixs 6) [.slice h5.next 0 sub.len sub.len, .int .i64 (i : Int)] = some (.ptr h5.next (i * 6)) := by
        rw [aP_ixS _ _ _ _ _ _ _ (by omega) (by omega)]; simp
      simp (maxSteps := 1000000) (disch := omega) only [evs, ↓reduceIte, Nat.reduceEqDiff, Nat.reduceAdd, Nat.reduceMul, Nat.reduceLeDiff, Nat.reduceLT, Int.reduceNeg, DF, eff, Nat.reduceSub, fwrap_i64, g23, g22, g21, g5, g1, g2, g4, ix]
      have eC : updO (d.cells ++ repL z6 (sub.len - i)) (i * 6) y.cells = some ((d.app (.cons y.k y.tg y.ky y.at' y.tx y.va y.vc y.sub .nil)).cells ++ repL z6 (sub.len - (i + 1))) := by
        have yl : y.cells.length = 6 := rfl
        obtain ⟨m, hm⟩ : ∃ m, sub.len - i = m + 1 := ⟨sub.len - i - 1, by omega⟩
        rw [hm, updO_at _ _ _ (by rw [List.length_append, dc, repL_succ, List.length_append, yl]; simp), NT.app_cells, ← dc, List.take_left, List.drop_length_add_append, yl, repL_drop6, show sub.len - (i + 1) = m by omega]
        simp [NT.cells, Nd.cells]
      refine store_step F9.wf (F79.get od) rfl hy.one eC ?_
      intro h10 q10 F10 n10
      have nn9 := F9.next
      have nh := F.next
      have nn8 := F78.next
      have F710 : Fr [h5.next] hh h10 := F79.trans F10 F.wf (by simp) (fun x m => .inl m)
      have F0 : Fr [] h h10 := F.trans F710 w (by simp) (fun x m => .inr (by rw [List.mem_singleton.1 m]; omega))
      have Sd' : Stab (fun x => h5.next < x) h10 fun h => NH h (d.app (.cons y.k y.tg y.ky y.at' y.tx y.va y.vc y.sub .nil)) :=
        ((Sd.fr F.wf F710 (by intro x m; rw [List.mem_singleton.1 m]; exact .inl fun p => by omega)).and
          ((Sy.wk (Q := fun x => h5.next < x) fun x _ p => by omega).fr F9.wf F10 (by intro x m; rw [List.mem_singleton.1 m]; exact .inl fun p => by omega))).imp fun h q => NH.app q.1 q.2
      rw [e1] at e
      simp (maxSteps := 1000000) (disch := omega) only [evs, ↓reduceIte, Nat.reduceEqDiff, Nat.reduceAdd, Nat.reduceMul, Nat.reduceLeDiff, Nat.reduceLT, Int.reduceNeg, DF, eff, Nat.reduceSub, fwrap_i64, g23, g22, g21, g5, g1, g2, g4]
      refine (roundQ_norm _ _ _).2 ⟨sub.len - (i + 1), by omega, F0, by omega, F710.own _ _ (by simp; omega) ob, F710.own _ _ (by simp; omega) oz, Sa.fr F.wf F710 (by intro x m; rw [List.mem_singleton.1 m]; exact .inl fun p => by omega), i + 1, _, (by simp [T.get_set]), (by simp [T.get_set, g22]), (by simp [T.get_set, g21]), (by simp [T.get_set, g5]), (by simp [T.get_set, g1]), (by simp [T.get_set, g2]), (by simp [T.get_set, g4]), by omega, by rw [NT.app_one_len, dl], q10, Sd', ?_, rfl⟩
      have ey' : (CT.cons y.k y.tg y.ky y.at' y.tx y.sub.ct .nil) = .cons x.k x.tg [] x.at' x.tx x.sub.ct.strip .nil := ey
      simp only [CT.cons.injEq] at ey'
      obtain ⟨f1, f2, f3, f4, f5, f6, _⟩ := ey'
      rw [NT.app_one_ct, f1, f2, f3, f4, f5, f6, e3]
      exact e
    · have hi' : i = sub.len := by omega
      subst hi'
      rw [Nat.sub_self, repL_zero, List.append_nil] at od
      rw [NT.at_end _ _ (Nat.le_refl _)] at e
      have e : d.ct = sub.ct.strip := by rw [← e]; exact (CT.app_nil _).symm
      simp (maxSteps := 1000000) (disch := omega) only [evs, ↓reduceIte, Nat.reduceEqDiff, Nat.reduceAdd, Nat.reduceMul, Nat.reduceLeDiff, Nat.reduceLT, Int.reduceNeg, DF, eff, Nat.reduceSub, fwrap_i64, g23, g22, g21, g5, g1, g2, g4, show ¬ (sub.len : Int) < sub.len by omega]
      have cs : V.cells (.slice h5.next 0 sub.len sub.len) = [.slice h5.next 0 sub.len sub.len] := rfl
      refine store_step (c' := [.int .u8 (k : Int), .str tg, .str [], v2, .str tx, .slice h5.next 0 sub.len sub.len]) F.wf ob rfl rfl rfl ?_
      intro h7 q7 F7 n7
      have lx : hload h7 h.next 0 6 = some [.int .u8 (k : Int), .str tg, .str [], v2, .str tx, .slice h5.next 0 sub.len sub.len] := by rw [q7.ld]; rfl
      simp (maxSteps := 1000000) (disch := omega) only [evs, ↓reduceIte, Nat.reduceEqDiff, Nat.reduceAdd, Nat.reduceMul, Nat.reduceLeDiff, Nat.reduceLT, Int.reduceNeg, DF, eff, Nat.reduceSub, fwrap_i64, g23, g22, g21, g5, g1, g2, g4, lx]
      refine store_step (c' := [.int .u8 (k : Int), .str tg, .str [], v2, .str tx, .slice h5.next 0 sub.len sub.len]) F7.wf (F7.own _ _ (by simp; omega) oz) rfl (by simp only [V.cells, onesB_cons, onesB_nil, one2]; rfl) rfl ?_
      intro h8 q8 F8 n8
      have ly : hload h8 h1.next 0 6 = some [.int .u8 (k : Int), .str tg, .str [], v2, .str tx, .slice h5.next 0 sub.len sub.len] := by rw [q8.ld]; rfl
      simp (maxSteps := 1000000) (disch := omega) only [evs, ↓reduceIte, Nat.reduceEqDiff, Nat.reduceAdd, Nat.reduceMul, Nat.reduceLeDiff, Nat.reduceLT, Int.reduceNeg, DF, eff, Nat.reduceSub, fwrap_i64, g2, g4, ly]
      have F78 : Fr [h.next, h1.next] hh h8 := F7.trans F8 F.wf (fun x m => .inl (by simp at m; simp [m])) (fun x m => .inl (by simp at m; simp [m]))
      have no : ∀ x ∈ [h.next, h1.next], x < h.next + 2 := by simp; omega
      have nn := F.next
      refine ⟨⟨k, tg, [], at', tx, v2, .slice h5.next 0 sub.len sub.len, d⟩, rfl, by simp only [e, CT.strip], ?_, F.trans F78 w (by simp) (fun x m => .inr (by simp at m; omega))⟩
      have A1 := (Sa.fr F.wf F78 fun x m => .inl fun p => by have := no x m; omega).wk (Q := fun x => h.next ≤ x) fun x _ p => by omega
      have A2 := (Sd.fr F.wf F78 fun x m => .inl fun p => by have := no x m; omega).wk (Q := fun x => h.next ≤ x) fun x _ p => by omega
      have A3 := ((Stab.own F.wf od (P := fun x => x = h5.next) rfl).fr F.wf F78 fun x m => .inl fun p => by have := no x m; omega).wk (Q := fun x => h.next ≤ x) fun x _ p => by omega
      refine ((A1.and A2).and A3).imp ?_
      rintro h9 ⟨⟨r1, r2⟩, r3⟩
      refine ⟨hk, r1, na, ⟨by rw [d.cells_len], dl.symm, Nat.le_of_eq dl, d.cells, r3, by show 0 + d.len * 6 ≤ d.cells.length; rw [d.cells_len]; omega, by rw [List.drop_zero, List.take_of_length_le (by show d.cells.length ≤ d.len * 6; rw [d.cells_len]; omega)]⟩, (by show d.len ≤ 4096; omega), r2, trivial⟩
theorem cpL_all : ∀ t : NT, CpL t
  | .nil => trivial
  | .cons k tg ky at' tx va vc sub nx => ⟨copied_any (a := ⟨k, tg, ky, at', tx, va, vc, sub⟩) (cpL_all sub), cpL_all nx⟩
theorem copied_ok (a : Nd) : CpE a := copied_any (cpL_all _)
theorem Good.strip {t : CT} (g : Good t) : Good t.strip := ⟨CT.strip_good t 1 g.1, by rw [CT.strip_size]; exact g.2⟩
theorem strip_ok {h : Heap} {a : Nd} (w : WF h) (ha : NdH h a) (g : Good a.ct) : Does go 31 [.agg a.cells] h fun u h' => ∃ b : Nd, u = .agg b.cells ∧ b.ct = a.ct.strip ∧ Stab (fun x => h.next ≤ x) h' (fun h => NdH h b) ∧ Fr [] h h' := by
  obtain ⟨h1, e_h1⟩ : ∃ h1, h1 = halloc h a.cells := ⟨_, rfl⟩
  have F_h1 : Fr [] h h1 := e_h1 ▸ Fr.halloc w _
  have o_h1 : Own h1 h.next a.cells := e_h1 ▸ Own.new w _
  obtain ⟨h2, e_h2⟩ : ∃ h2, h2 = halloc h1 [.int .u8 0, .str [], .str [], .nils, .str [], .nils] := ⟨_, rfl⟩
  have F_h2 : Fr [] h1 h2 := e_h2 ▸ Fr.halloc F_h1.wf _
  have o_h2 : Own h2 h1.next [.int .u8 0, .str [], .str [], .nils, .str [], .nils] := e_h2 ▸ Own.new F_h1.wf _
  have n1 := hnx e_h1
  have n2 := hnx e_h2
  have F2 := F_h1.then F_h2
  have l1 : hload h2 h.next 0 6 = some a.cells := by rw [(F_h2.get o_h1).ld]; rfl
  refine does_fn g31 rfl ?_
  simp (maxSteps := 1000000) (disch := omega) only [fn31, evs, ↓reduceIte, Nat.reduceEqDiff, Nat.reduceAdd, Nat.reduceMul, Nat.reduceLeDiff, Nat.reduceLT, Int.reduceNeg, DF, eff, Nat.reduceSub, fwrap_i64, ← e_h1, ← e_h2, l1]
  refine OQ_does (check_ok F2.wf (ha.fr F2) g) ?_
  rintro _ h3 ⟨rfl, F3⟩
  have l3 : hload h3 h.next 0 6 = some a.cells := by rw [(F3.get (F_h2.get o_h1)).ld]; rfl
  have F03 := F2.then F3
  have nn3 := F3.next
  simp (maxSteps := 1000000) (disch := omega) only [evs, ↓reduceIte, Nat.reduceEqDiff, Nat.reduceAdd, Nat.reduceMul, Nat.reduceLeDiff, Nat.reduceLT, Int.reduceNeg, DF, eff, Nat.reduceSub, fwrap_i64, l3]
  refine OQ_does (copied_ok a F03.wf (ha.fr F03)) ?_
  rintro _ h4 ⟨b, rfl, eb, Sb, F4⟩
  simp (maxSteps := 1000000) (disch := omega) only [evs, ↓reduceIte, Nat.reduceEqDiff, Nat.reduceAdd, Nat.reduceMul, Nat.reduceLeDiff, Nat.reduceLT, Int.reduceNeg, DF, eff, Nat.reduceSub, fwrap_i64]
  refine store_step (c' := b.cells) F4.wf (F4.get (F3.get o_h2)) rfl (Sb.now F4.wf).one rfl ?_
  intro h5 o5 F5 n5
  have l5 : hload h5 h1.next 0 6 = some b.cells := by rw [o5.ld]; rfl
  simp (maxSteps := 1000000) (disch := omega) only [evs, ↓reduceIte, Nat.reduceEqDiff, Nat.reduceAdd, Nat.reduceMul, Nat.reduceLeDiff, Nat.reduceLT, Int.reduceNeg, DF, eff, Nat.reduceSub, fwrap_i64, l5]
  refine ⟨b, rfl, eb, (Sb.fr F4.wf F5 (by intro x m; rw [List.mem_singleton.1 m]; exact .inl fun p => by omega)).wk fun x _ p => by have := F03.next; omega, (F03.then F4).fresh F5 w (by omega)⟩
def oT : IC := (.seq (.ops [⟨none, .p (.faddr 2) [.v 1], none⟩, ⟨none, .ld 1 false (.l 0), none⟩, ⟨none, .cf 53 [.l 0, .c (.int .i64 0), .c (.int .i64 2)], none⟩, ⟨none, .p (.ext 0) [.l 0], none⟩, ⟨none, .p (.ext 1) [.l 1], none⟩, ⟨none, .p (.faddr 5) [.v 3], none⟩, ⟨none, .st 1 (.l 0) (.l 2), none⟩]) (.seq (.ops [⟨none, .ld 6 true (.v 3), none⟩, ⟨none, .st 6 (.v 2) (.l 0), none⟩]) (.ret)))
def fn32x : IFn := ⟨1, .seq (.ops [⟨none, .bx (.v 0), some 1⟩, ⟨none, .al [(.int .u8 0), (.str []), (.str []), .nils, (.str []), .nils], some 2⟩]) (.seq (.dops [⟨none, .p (.faddr 0) [.v 1], none⟩, ⟨none, .ld 1 false (.l 0), none⟩, ⟨none, .cf 51 [.l 0], none⟩, ⟨none, .p (.faddr 1) [.v 1], none⟩, ⟨none, .ld 1 false (.l 0), none⟩, ⟨none, .cf 52 [.l 0], none⟩, ⟨none, .p (.build [(.int .u8 0), (.str []), (.str []), .nils, (.str []), .nils] [(0, 1), (1, 1), (3, 1)]) [.c (.int .u8 1), .l 3, .l 0], none⟩, ⟨none, .al [(.int .u8 0), (.str []), (.str []), .nils, (.str []), .nils], none⟩, ⟨none, .st 6 (.l 0) (.l 1), none⟩] [7] [0, 1, 3, 0, 8, 31, 63, 0, 255] [0, 1, 2, 3, 4, 5, 6, 7, 8] [(1, 0, 0), (4, 0, 1)] [(3, 7)]) (.seq (.seq (.ops [⟨none, .p (.faddr 1) [.v 1], none⟩, ⟨none, .ld 1 false (.l 0), none⟩, ⟨none, .p (.ib .rem) [.l 0, .c (.int .u8 3)], none⟩, ⟨none, .p (.ib .eql) [.l 0, .c (.int .u8 1)], some 14⟩]) (.cond (.v 14) (.ops [⟨none, .p (.faddr 2) [.v 3], none⟩, ⟨none, .st 1 (.l 0) (.c (.str [114, 111, 111, 116])), none⟩]) (.skip))) oT)), [.c 2 6 true], [0, 1, 2, 3, 14]⟩
theorem g32x : F.get 32 = some fn32x := rfl
end Go.Ev.Lay
