/- An evaluator of the program and contracts proved over it: the texts LaySs LaySt LaySu LaySv LaySw LaySx. -/
import Derived.Test.YtfhplbpjpmaoiaaGreatDoorP15
set_option linter.unusedSimpArgs false
set_option linter.unusedVariables false
set_option linter.constructorNameAsVariable false
/- LayoutsScript: a step. -/
namespace Go.Ev.Lay
set_option maxRecDepth 4000
theorem remL_map {α β : Type} (g : α → β) (l : List α) (a k : Nat) : (remL l a k).map g = remL (l.map g) a k := by simp [remL, List.map_take, List.map_drop]
theorem movL_map {α β : Type} (g : α → β) (l : List α) (a k t : Nat) : (movL l a k t).map g = movL (l.map g) a k t := by simp [movL, remL_map, List.map_take, List.map_drop]
theorem Good.sub {L M : List (Int × Bool × Bool)} (g : Good L) (s : M.Sublist L) : Good M := by
  refine ⟨Nat.le_trans s.length_le g.len, fun r hr => g.one r (s.subset hr), ?_⟩
  exact (g.fit.sub (List.Sublist.map _ s)).2.1
theorem Good.perm {L M : List (Int × Bool × Bool)} (g : Good L) (p : M.Perm L) : Good M :=
  ⟨by rw [p.length_eq]; exact g.len, fun r hr => g.one r (p.subset hr), by have : (sz M).Perm (sz L) := p.map _; rw [perm_sum this]; exact g.sum⟩
theorem FrQ.frF {h h' : Heap} {b : Nat} {pm : Option Nat} {l : List Int} {ks bs : List Bool} (f : FrQ b pm h h') (a : LoP h b pm l ks bs) : FrF b h h' := by
  obtain ⟨p, vk, o, v1, ix, mk, e⟩ := a
  have key : ∀ x c, x ≠ b → (∀ n m ws, ws.length = 64 → c ≠ flc n m ws) → Own h x c → x ∉ b :: pm.toList := by
    intro x c hx hc ox hm
    rcases List.mem_cons.1 hm with q | q
    · exact hx q
    · cases pm with
      | none => simp at q
      | some y =>
        simp at q; subst q
        obtain ⟨ws, oq, ok, _⟩ := (mk : Fl h x bs)
        exact hc _ _ ws ok.len (ox.uniq oq)
  exact ⟨f.next, f.wf, fun x c hx hc o => f.own x c (key x c hx hc o) o, fun x c hx hc o => f.pl x c (key x c hx hc o.own) o, f.ro⟩
theorem LoP.own {h : Heap} {b : Nat} {pm : Option Nat} {l : List Int} {ks bs : List Bool} (a : LoP h b pm l ks bs) : ∃ c, Own h b c ∧ ∀ x ∈ c, ∀ k n, x ≠ .int k n := by
  obtain ⟨p, vk, o, v1, ix, mk, e⟩ := a
  exact ⟨_, o, noInt ix.noint⟩
theorem RwF.frQ {h h' : Heap} {v : V} {L : List (Int × Bool × Bool)} {b : Nat} {pm : Option Nat} {l : List Int} {ks bs : List Bool} (a : RwF h v L) (f : FrQ b pm h h') (lo : LoP h b pm l ks bs) : RwF h' v L := by
  obtain ⟨c, o, hc⟩ := lo.own
  exact a.frF (f.frF lo) o hc
/-- what a step leads to -/
def KPost (b : Nat) (pm : Option Nat) (hh : Heap) (en : T V) : Ex → T V → Heap → Prop := fun e en' h' => e = .norm ∧ ∃ v' L' pm' bad, en'.get 11 = some v' ∧ en'.get 12 = some (.int .i64 bad) ∧ en'.get 13 = some (.int .i64 bad) ∧
  (en'.get 1 = en.get 1 ∧ en'.get 6 = en.get 6 ∧ en'.get 7 = en.get 7 ∧ en'.get 8 = en.get 8 ∧ en'.get 9 = en.get 9 ∧ en'.get 10 = en.get 10) ∧ FrQ b pm hh h' ∧ (pm' = pm ∨ (pm = none ∧ ∀ q, pm' = some q → hh.next ≤ q)) ∧
  LoP h' b pm' (sz L') (ky L') (sy L') ∧ RwF h' v' L' ∧ Good L'
structure Stp where
  kd : Nat
  at' : Int
  n : Int
  x : Int
  size : Int
  v : V
  P : List (Nat × Nat)
def stc (s : Stp) : List V := [.int .u8 (s.kd : Int), .int .i64 s.at', .int .i64 s.n, .int .i64 s.x, .int .i64 s.size, s.v]
theorem stc_len (s : Stp) : (stc s).length = 6 := rfl
/-- numbers as they come -/
structure Stp.ok (s : Stp) : Prop where
  kd : s.kd < 256
  a0 : -9223372036854775808 ≤ s.at'
  a1 : s.at' ≤ 9223372036854775807
  n0 : -9223372036854775808 ≤ s.n
  n1 : s.n ≤ 9223372036854775807
  x0 : -9223372036854775808 ≤ s.x
  x1 : s.x ≤ 9223372036854775807
  s0 : -9223372036854775808 ≤ s.size
  s1 : s.size ≤ 9223372036854775807
  p : ∀ p ∈ s.P, p.1 < 256 ∧ p.2 < 256
section
variable {hh : Heap} {en : T V} {b b9 : Nat} {pm : Option Nat} {vr : V} {L : List (Int × Bool × Bool)} {s : Stp}
theorem K1_ok (w : WF hh) (lo : LoP hh b pm (sz L) (ky L) (sy L)) (rw' : RwF hh vr L) (G : Good L) (o9 : Own hh b9 (stc s)) (ok : s.ok) (g6 : en.get 6 = some vr) (g7 : en.get 7 = some (.ptr b 0)) (g9 : en.get 9 = some (.ptr b9 0)) :
    W go scK1 en hh (KPost b pm hh en) := by
  have o9 : Own hh b9 [.int .u8 (s.kd : Int), .int .i64 s.at', .int .i64 s.n, .int .i64 s.x, .int .i64 s.size, s.v] := o9
  unfold scK1
  simp (disch := omega) only [evs, ↓reduceIte, Nat.reduceEqDiff, Nat.reduceAdd, Nat.reduceMul, Nat.reduceLeDiff, Nat.reduceLT, Int.reduceNeg, DF, eff, Nat.reduceSub, fwrap_i64, g6, g7, g9, o9.ld1]
  refine OQ_does (rRem_ok w rw'.rws G.len ok.a0 ok.a1 ok.n0 ok.n1) ?_
  rintro u h1 ⟨F1, hu⟩
  have o9 := F1.get o9
  have lo1 := lo.fr F1
  have rem := LRemQ_ok F1.wf lo1 ok.a0 ok.a1 ok.n0 ok.n1
  rw [sz_len] at rem
  by_cases c : cutB L.length s.at' s.n
  · rw [if_pos c] at hu
    subst hu
    simp (disch := omega) only [evs, ↓reduceIte, Nat.reduceEqDiff, Nat.reduceAdd, Nat.reduceMul, Nat.reduceLeDiff, Nat.reduceLT, Int.reduceNeg, DF, eff, Nat.reduceSub, fwrap_i64, g6, g7, g9, o9.ld1]
    refine OQ_does rem ?_
    rintro _ h2 ⟨F2, rfl, lo2⟩
    rw [if_pos c] at lo2
    simp (disch := omega) only [evs, ↓reduceIte, Nat.reduceEqDiff, Nat.reduceAdd, Nat.reduceMul, Nat.reduceLeDiff, Nat.reduceLT, Int.reduceNeg, DF, eff, Nat.reduceSub, fwrap_i64, if_pos c]
    exact ⟨rfl, vr, L, pm, 4, (by simp [T.get_set]), (by simp [T.get_set]), (by simp [T.get_set]), ⟨(by simp [T.get_set]), (by simp [T.get_set]), (by simp [T.get_set]), (by simp [T.get_set]), (by simp [T.get_set]), (by simp [T.get_set])⟩, Fr.trans F1 F2 w (by simp) (fun x hx => .inl hx), .inl rfl, lo2, (rw'.fr F1).frQ F2 lo1, G⟩
  · rw [if_neg c] at hu
    obtain ⟨v', rfl, gv⟩ := hu
    simp (disch := omega) only [evs, ↓reduceIte, Nat.reduceEqDiff, Nat.reduceAdd, Nat.reduceMul, Nat.reduceLeDiff, Nat.reduceLT, Int.reduceNeg, DF, eff, Nat.reduceSub, fwrap_i64, g6, g7, g9, o9.ld1]
    refine OQ_does rem ?_
    rintro _ h2 ⟨F2, rfl, lo2⟩
    rw [if_neg c] at lo2
    simp (disch := omega) only [evs, ↓reduceIte, Nat.reduceEqDiff, Nat.reduceAdd, Nat.reduceMul, Nat.reduceLeDiff, Nat.reduceLT, Int.reduceNeg, DF, eff, Nat.reduceSub, fwrap_i64, if_neg c]
    refine ⟨rfl, v', remL L s.at'.toNat s.n.toNat, pm, 0, (by simp [T.get_set]), (by simp [T.get_set]), (by simp [T.get_set]), ⟨(by simp [T.get_set]), (by simp [T.get_set]), (by simp [T.get_set]), (by simp [T.get_set]), (by simp [T.get_set]), (by simp [T.get_set])⟩, Fr.trans F1 F2 w (by simp) (fun x hx => .inl hx), .inl rfl, ?_, (GRecs.rwf gv).frQ F2 lo1, G.sub (remL_sub _ _ _)⟩
    unfold sz ky sy at lo2 ⊢
    rw [remL_map, remL_map, remL_map]; exact lo2
theorem K2_ok (w : WF hh) (lo : LoP hh b pm (sz L) (ky L) (sy L)) (rw' : RwF hh vr L) (G : Good L) (o9 : Own hh b9 (stc s)) (ok : s.ok) (g6 : en.get 6 = some vr) (g7 : en.get 7 = some (.ptr b 0)) (g9 : en.get 9 = some (.ptr b9 0)) :
    W go scK2 en hh (KPost b pm hh en) := by
  have o9 : Own hh b9 [.int .u8 (s.kd : Int), .int .i64 s.at', .int .i64 s.n, .int .i64 s.x, .int .i64 s.size, s.v] := o9
  unfold scK2
  simp (disch := omega) only [evs, ↓reduceIte, Nat.reduceEqDiff, Nat.reduceAdd, Nat.reduceMul, Nat.reduceLeDiff, Nat.reduceLT, Int.reduceNeg, DF, eff, Nat.reduceSub, fwrap_i64, g6, g7, g9, o9.ld1]
  refine OQ_does (rMov_ok w rw'.rws G.len ok.a0 ok.a1 ok.n0 ok.n1 ok.x0 ok.x1) ?_
  rintro u h1 ⟨F1, hu⟩
  have o9 := F1.get o9
  have lo1 := lo.fr F1
  have rem := LMovQ_ok F1.wf lo1 ok.a0 ok.a1 ok.n0 ok.n1 ok.x0 ok.x1
  rw [sz_len] at rem
  by_cases c : movB L.length s.at' s.n s.x
  · rw [if_pos c] at hu
    subst hu
    simp (disch := omega) only [evs, ↓reduceIte, Nat.reduceEqDiff, Nat.reduceAdd, Nat.reduceMul, Nat.reduceLeDiff, Nat.reduceLT, Int.reduceNeg, DF, eff, Nat.reduceSub, fwrap_i64, g6, g7, g9, o9.ld1]
    refine OQ_does rem ?_
    rintro _ h2 ⟨F2, rfl, lo2⟩
    rw [if_pos c] at lo2
    simp (disch := omega) only [evs, ↓reduceIte, Nat.reduceEqDiff, Nat.reduceAdd, Nat.reduceMul, Nat.reduceLeDiff, Nat.reduceLT, Int.reduceNeg, DF, eff, Nat.reduceSub, fwrap_i64, if_pos c]
    exact ⟨rfl, vr, L, pm, 4, (by simp [T.get_set]), (by simp [T.get_set]), (by simp [T.get_set]), ⟨(by simp [T.get_set]), (by simp [T.get_set]), (by simp [T.get_set]), (by simp [T.get_set]), (by simp [T.get_set]), (by simp [T.get_set])⟩, Fr.trans F1 F2 w (by simp) (fun x hx => .inl hx), .inl rfl, lo2, (rw'.fr F1).frQ F2 lo1, G⟩
  · rw [if_neg c] at hu
    obtain ⟨v', rfl, gv⟩ := hu
    simp (disch := omega) only [evs, ↓reduceIte, Nat.reduceEqDiff, Nat.reduceAdd, Nat.reduceMul, Nat.reduceLeDiff, Nat.reduceLT, Int.reduceNeg, DF, eff, Nat.reduceSub, fwrap_i64, g6, g7, g9, o9.ld1]
    refine OQ_does rem ?_
    rintro _ h2 ⟨F2, rfl, lo2⟩
    rw [if_neg c] at lo2
    simp (disch := omega) only [evs, ↓reduceIte, Nat.reduceEqDiff, Nat.reduceAdd, Nat.reduceMul, Nat.reduceLeDiff, Nat.reduceLT, Int.reduceNeg, DF, eff, Nat.reduceSub, fwrap_i64, if_neg c]
    refine ⟨rfl, v', movL L s.at'.toNat s.n.toNat s.x.toNat, pm, 0, (by simp [T.get_set]), (by simp [T.get_set]), (by simp [T.get_set]), ⟨(by simp [T.get_set]), (by simp [T.get_set]), (by simp [T.get_set]), (by simp [T.get_set]), (by simp [T.get_set]), (by simp [T.get_set])⟩, Fr.trans F1 F2 w (by simp) (fun x hx => .inl hx), .inl rfl, ?_, (GRecs.rwf gv).frQ F2 lo1, G.perm (movL_perm _ _ _ _)⟩
    unfold sz ky sy at lo2 ⊢
    rw [movL_map, movL_map, movL_map]; exact lo2
theorem Good.rset {L : List (Int × Bool × Bool)} (G : Good L) {i size : Int} {kn : Bool} (z : xsetE (sz L) i size = 0) : Good (rset L i.toNat size kn) := by
  unfold xsetE at z
  by_cases c : 0 ≤ i ∧ i < ((sz L).length : Int)
  · rw [if_pos c] at z
    by_cases c2 : size < 1 ∨ 2305843009213693952 < size
    · rw [if_pos c2] at z; omega
    · rw [if_neg c2] at z
      by_cases c3 : 4611686018427387904 - ((sz L).sum - (sz L).getD i.toNat 0) < size
      · rw [if_pos c3] at z; omega
      · refine ⟨by rw [rset_len]; exact G.len, fun r hr => ?_, ?_⟩
        · unfold Lay.rset at hr
          rcases List.mem_or_eq_of_mem_set hr with q | q
          · exact G.one r q
          · subst q; simp only []; omega
        · rw [rset_sz, sum_set _ _ _ (by omega)]; omega
  · rw [if_neg c] at z; omega
theorem K3_ok (w : WF hh) (lo : LoP hh b pm (sz L) (ky L) (sy L)) (rw' : RwF hh vr L) (G : Good L) (o9 : Own hh b9 (stc s)) (ok : s.ok) (g6 : en.get 6 = some vr) (g7 : en.get 7 = some (.ptr b 0)) (g9 : en.get 9 = some (.ptr b9 0)) :
    W go scK3 en hh (KPost b pm hh en) := by
  have o9 : Own hh b9 [.int .u8 (s.kd : Int), .int .i64 s.at', .int .i64 s.n, .int .i64 s.x, .int .i64 s.size, s.v] := o9
  have rm : aP (.ib .rem) [.int .i64 s.x, .int .i64 2] = some (.int .i64 (s.x.tmod 2)) := aP_rem _ _ _ (by omega)
  unfold scK3
  simp (disch := omega) only [evs, ↓reduceIte, Nat.reduceEqDiff, Nat.reduceAdd, Nat.reduceMul, Nat.reduceLeDiff, Nat.reduceLT, Int.reduceNeg, DF, eff, Nat.reduceSub, fwrap_i64, g6, g7, g9, o9.ld1, rm]
  refine OQ_does (rSet_ok w rw'.rws G.fit G.len) ?_
  rintro u h1 ⟨F1, hu⟩
  have o9 := F1.get o9
  have lo1 := lo.fr F1
  have rem := LSetQ_ok (kn := decide (s.x.tmod 2 = 0)) F1.wf lo1 ok.s0 ok.s1 ok.a0 ok.a1
  by_cases c : xsetE (sz L) s.at' s.size = 0
  · rw [if_pos c] at hu
    obtain ⟨v', rfl, gv⟩ := hu
    simp (disch := omega) only [evs, ↓reduceIte, Nat.reduceEqDiff, Nat.reduceAdd, Nat.reduceMul, Nat.reduceLeDiff, Nat.reduceLT, Int.reduceNeg, DF, eff, Nat.reduceSub, fwrap_i64, g6, g7, g9, o9.ld1, rm]
    refine OQ_does rem ?_
    rintro _ h2 ⟨rfl, lo2, F2⟩
    rw [if_pos c] at lo2
    rw [c]
    simp (disch := omega) only [evs, ↓reduceIte, Nat.reduceEqDiff, Nat.reduceAdd, Nat.reduceMul, Nat.reduceLeDiff, Nat.reduceLT, Int.reduceNeg, DF, eff, Nat.reduceSub, fwrap_i64]
    refine ⟨rfl, v', rset L s.at'.toNat s.size (decide (s.x.tmod 2 = 0)), pm, 0, (by simp [T.get_set]), (by simp [T.get_set]), (by simp [T.get_set]), ⟨(by simp [T.get_set]), (by simp [T.get_set]), (by simp [T.get_set]), (by simp [T.get_set]), (by simp [T.get_set]), (by simp [T.get_set])⟩, Fr.trans F1 F2 w (by simp) (fun x hx => .inl hx), .inl rfl, ?_, (GRecs.rwf gv).frQ F2 lo1, G.rset c⟩
    rw [rset_sz, rset_ky, rset_sy]; exact lo2
  · rw [if_neg c] at hu
    subst hu
    simp (disch := omega) only [evs, ↓reduceIte, Nat.reduceEqDiff, Nat.reduceAdd, Nat.reduceMul, Nat.reduceLeDiff, Nat.reduceLT, Int.reduceNeg, DF, eff, Nat.reduceSub, fwrap_i64, g6, g7, g9, o9.ld1, rm]
    refine OQ_does rem ?_
    rintro _ h2 ⟨rfl, lo2, F2⟩
    rw [if_neg c] at lo2
    simp (disch := omega) only [evs, ↓reduceIte, Nat.reduceEqDiff, Nat.reduceAdd, Nat.reduceMul, Nat.reduceLeDiff, Nat.reduceLT, Int.reduceNeg, DF, eff, Nat.reduceSub, fwrap_i64]
    exact ⟨rfl, vr, L, pm, xsetE (sz L) s.at' s.size, (by simp [T.get_set]), (by simp [T.get_set]), (by simp [T.get_set]), ⟨(by simp [T.get_set]), (by simp [T.get_set]), (by simp [T.get_set]), (by simp [T.get_set]), (by simp [T.get_set]), (by simp [T.get_set])⟩, Fr.trans F1 F2 w (by simp) (fun x hx => .inl hx), .inl rfl, lo2, (rw'.fr F1).frQ F2 lo1, G⟩
end
end Go.Ev.Lay

/- LayoutsScript: a step that marks. -/
namespace Go.Ev.Lay
set_option maxRecDepth 4000
/-- the rows with one a header, or not -/
def rmark (L : List (Int × Bool × Bool)) (i : Nat) (v : Bool) : List (Int × Bool × Bool) := L.set i ((sz L).getD i 0, (ky L).getD i false, v)
theorem rmark_sz (L : List (Int × Bool × Bool)) (i : Nat) (v : Bool) : sz (rmark L i v) = sz L := by
  unfold rmark sz
  rw [List.map_set]
  apply List.ext_getElem?
  intro j
  rw [List.getElem?_set]
  by_cases c : i = j
  · subst c
    by_cases d : i < (List.map (fun r => r.1) L).length
    · rw [if_pos rfl, if_pos d]
      simp [List.getD]
      simp at d
      simp [d]
    · rw [if_pos rfl, if_neg d, List.getElem?_eq_none (by omega)]
  · rw [if_neg c]
theorem rmark_ky (L : List (Int × Bool × Bool)) (i : Nat) (v : Bool) : ky (rmark L i v) = ky L := by
  unfold rmark ky
  rw [List.map_set]
  apply List.ext_getElem?
  intro j
  rw [List.getElem?_set]
  by_cases c : i = j
  · subst c
    by_cases d : i < (List.map (fun r => r.2.1) L).length
    · rw [if_pos rfl, if_pos d]
      simp [List.getD]
      simp at d
      simp [d]
    · rw [if_pos rfl, if_neg d, List.getElem?_eq_none (by omega)]
  · rw [if_neg c]
theorem rmark_sy (L : List (Int × Bool × Bool)) (i : Nat) (v : Bool) : sy (rmark L i v) = (sy L).set i v := by simp [rmark, sy, List.map_set]
theorem rmark_len (L : List (Int × Bool × Bool)) (i : Nat) (v : Bool) : (rmark L i v).length = L.length := by simp [rmark]
theorem Good.rmark {L : List (Int × Bool × Bool)} (G : Good L) (i : Nat) (v : Bool) : Good (rmark L i v) := by
  have e := rmark_sz L i v
  refine ⟨by rw [rmark_len]; exact G.len, fun r hr => ?_, by rw [e]; exact G.sum⟩
  have : r.1 ∈ sz (Lay.rmark L i v) := List.mem_map_of_mem hr
  rw [e] at this
  obtain ⟨r', h1, h2⟩ := List.mem_map.1 this
  have := G.one r' h1
  have h2 : r'.1 = r.1 := h2
  omega
theorem flat_mark : ∀ (L : List (Int × Bool × Bool)) (i : Nat) (v : Bool), i < L.length → (L.flatMap rc).set (i * 3 + 2) (.bool v) = (rmark L i v).flatMap rc
  | r :: L, 0, v, _ => by simp [rmark, rc, sz, ky]
  | r :: L, i + 1, v, h => by
    have ih := flat_mark L i v (by simpa using h)
    have e : rmark (r :: L) (i + 1) v = r :: rmark L i v := by simp [rmark, sz, ky]
    rw [e, List.flatMap_cons, List.flatMap_cons, ← ih, List.set_append, if_neg (by rw [rc_len]; omega), rc_len]
    congr 2
    omega
theorem rc_flat_ones : ∀ (L : List (Int × Bool × Bool)), onesB (L.flatMap rc) = true
  | [] => rfl
  | r :: L => by
    have := rc_flat_ones L
    unfold onesB at *
    simp [this, rc, V.one]
section
variable {hh : Heap} {en : T V} {b b9 : Nat} {pm : Option Nat} {vr : V} {L : List (Int × Bool × Bool)} {s : Stp}
theorem K4_ok (w : WF hh) (lo : LoP hh b pm (sz L) (ky L) (sy L)) (rw' : RwF hh vr L) (G : Good L) (o9 : Own hh b9 (stc s)) (ok : s.ok) (g6 : en.get 6 = some vr) (g7 : en.get 7 = some (.ptr b 0)) (g9 : en.get 9 = some (.ptr b9 0)) (g12 : en.get 12 = some (.int .i64 0)) :
    W go scK4 en hh (KPost b pm hh en) := by
  have o9 : Own hh b9 [.int .u8 (s.kd : Int), .int .i64 s.at', .int .i64 s.n, .int .i64 s.x, .int .i64 s.size, s.v] := o9
  have rm : aP (.ib .rem) [.int .i64 s.x, .int .i64 2] = some (.int .i64 (s.x.tmod 2)) := aP_rem _ _ _ (by omega)
  have gl := G.len
  unfold scK4
  simp (disch := omega) only [evs, ↓reduceIte, Nat.reduceEqDiff, Nat.reduceAdd, Nat.reduceMul, Nat.reduceLeDiff, Nat.reduceLT, Int.reduceNeg, DF, eff, Nat.reduceSub, fwrap_i64, g6, g7, g9, o9.ld1]
  have rws : Sl hh 3 vr L.length (L.flatMap rc) := rw'.rws
  refine Gs.append (B := hh.next) (cs := []) w (.inl ⟨rfl, rfl⟩) rws (by omega) (rc_flat_ones L) (Nat.le_refl _) (by simp; omega) ?_
  intro v' h1 gv F1'
  have F1 : Fr [] hh h1 := F1'
  rw [List.nil_append] at gv
  have gv : GRecs rc 3 h1 hh.next v' L := gv
  have o9 := F1.get o9
  have lo1 := lo.fr F1
  have rem := fun (h : Heap) (F : Fr [] hh h) => LMarkQ_ok (i := s.at') (v := decide (s.x.tmod 2 = 0)) F.wf (lo.fr F) ok.a0 ok.a1
  simp only [sz_len] at rem
  by_cases c : 0 ≤ s.at' ∧ s.at' < (L.length : Int)
  · have an := (rw'.fr F1).rws.len
    simp (disch := omega) only [evs, ↓reduceIte, Nat.reduceEqDiff, Nat.reduceAdd, Nat.reduceMul, Nat.reduceLeDiff, Nat.reduceLT, Int.reduceNeg, DF, eff, Nat.reduceSub, fwrap_i64, g6, g7, g9, g12, o9.ld1, rm, eq_false (show ¬ s.at' < 0 by omega), an, eq_false (show ¬ (L.length : Int) ≤ s.at' by omega)]
    rcases gv with ⟨e1, e2⟩ | ⟨b', n, rfl, hln, hn0, hB, oq⟩
    · have := congrArg List.length e2
      rw [flat_len rc_len] at this; simp at this; omega
    rw [flat_len rc_len] at hln
    have : n = L.length := by omega
    subst this
    obtain ⟨i, hi⟩ : ∃ i : Nat, s.at' = i := ⟨s.at'.toNat, by omega⟩
    have ix := aP_ixU 3 b' 0 L.length 3 .i64 s.at' (by omega) (by omega)
    rw [Nat.zero_add] at ix
    have ei : s.at'.toNat = i := by omega
    rw [ei] at ix
    simp (disch := omega) only [evs, ↓reduceIte, Nat.reduceEqDiff, Nat.reduceAdd, Nat.reduceMul, Nat.reduceLeDiff, Nat.reduceLT, Int.reduceNeg, DF, eff, Nat.reduceSub, fwrap_i64, ix]
    refine store_step (c' := (rmark L i (decide (s.x.tmod 2 = 0))).flatMap rc) F1.wf oq rfl rfl ?_ ?_
    · rw [← flat_mark L i _ (by omega)]
      exact updO_set1 _ _ _ (by rw [flat_len rc_len]; omega)
    rintro h2 o2 F2 n2
    have F02 : Fr [] hh h2 := F1.fresh F2 w hB
    have o9' := F2.own _ _ (by have := o9.lt F1.wf; intro q; simp at q; subst q; have := (oq.uniq o9); have := congrArg List.length this; rw [flat_len rc_len] at this; cases L with
      | nil => simp at hn0
      | cons r L => have hh1 := oq.uniq o9; simp [rc] at hh1) o9
    simp (disch := omega) only [evs, ↓reduceIte, Nat.reduceEqDiff, Nat.reduceAdd, Nat.reduceMul, Nat.reduceLeDiff, Nat.reduceLT, Int.reduceNeg, DF, eff, Nat.reduceSub, fwrap_i64, g6, g7, g9, g12, o9'.ld1, rm]
    refine OQ_does (rem h2 F02) ?_
    rintro u h3 ⟨F3, hu⟩
    rw [if_pos c] at hu
    obtain ⟨rfl, lo3⟩ := hu
    simp (disch := omega) only [evs, ↓reduceIte, Nat.reduceEqDiff, Nat.reduceAdd, Nat.reduceMul, Nat.reduceLeDiff, Nat.reduceLT, Int.reduceNeg, DF, eff, Nat.reduceSub, fwrap_i64, g6, g7, g9, g12]
    have gr : RwF h2 (.sliceU b' 0 L.length 3) (rmark L i (decide (s.x.tmod 2 = 0))) := .inr ⟨b', .inl (by rw [rmark_len]), o2, by rw [rmark_len]; exact hn0⟩
    refine ⟨rfl, .sliceU b' 0 L.length 3, rmark L i (decide (s.x.tmod 2 = 0)), pm, 0, (by simp [T.get_set]), (by simp [T.get_set, g12]), (by simp [T.get_set]), ⟨(by simp [T.get_set]), (by simp [T.get_set]), (by simp [T.get_set]), (by simp [T.get_set]), (by simp [T.get_set]), (by simp [T.get_set])⟩, Fr.trans F02 F3 w (by simp) (fun x hx => .inl hx), .inl rfl, ?_, gr.frQ F3 (lo.fr F02), G.rmark _ _⟩
    rw [rmark_sz, rmark_ky, rmark_sy]
    rw [ei] at lo3
    exact lo3
  · have an := (rw'.fr F1).rws.len
    by_cases c1 : s.at' < 0
    case' pos =>
      simp (disch := omega) only [evs, ↓reduceIte, Nat.reduceEqDiff, Nat.reduceAdd, Nat.reduceMul, Nat.reduceLeDiff, Nat.reduceLT, Int.reduceNeg, DF, eff, Nat.reduceSub, fwrap_i64, g6, g7, g9, g12, o9.ld1, rm, eq_true c1]
    case' neg =>
      have c2 : (L.length : Int) ≤ s.at' := by omega
      simp (disch := omega) only [evs, ↓reduceIte, Nat.reduceEqDiff, Nat.reduceAdd, Nat.reduceMul, Nat.reduceLeDiff, Nat.reduceLT, Int.reduceNeg, DF, eff, Nat.reduceSub, fwrap_i64, g6, g7, g9, g12, o9.ld1, rm, eq_false c1, an, eq_true c2]
    all_goals
      refine OQ_does (rem h1 F1) ?_
      rintro u h3 ⟨F3, hu⟩
      rw [if_neg c] at hu
      obtain ⟨rfl, lo3⟩ := hu
      simp (disch := omega) only [evs, ↓reduceIte, Nat.reduceEqDiff, Nat.reduceAdd, Nat.reduceMul, Nat.reduceLeDiff, Nat.reduceLT, Int.reduceNeg, DF, eff, Nat.reduceSub, fwrap_i64, g6, g7, g9, g12]
      exact ⟨rfl, v', L, pm, 4, (by simp [T.get_set]), (by simp [T.get_set]), (by simp [T.get_set]), ⟨(by simp [T.get_set]), (by simp [T.get_set]), (by simp [T.get_set]), (by simp [T.get_set]), (by simp [T.get_set]), (by simp [T.get_set])⟩, Fr.trans F1 F3 w (by simp) (fun x hx => .inl hx), .inl rfl, lo3, (GRecs.rwf gv).frQ F3 lo1, G⟩
end
end Go.Ev.Lay

/- LayoutsScript: a step that puts rows in. -/
namespace Go.Ev.Lay
set_option maxRecDepth 4000
def sP (P : List (Nat × Nat)) : List Int := P.map fun p => (p.1 : Int)
def bP (P : List (Nat × Nat)) : List Bool := P.map fun p => decide (p.2 % 3 = 0)
theorem sP_len (P : List (Nat × Nat)) : (sP P).length = P.length := by simp [sP]
theorem bP_len (P : List (Nat × Nat)) : (bP P).length = P.length := by simp [bP]
theorem insR_sz {L : List (Int × Bool × Bool)} {i : Nat} {m : List Int} {st : List Bool} (h : st.length = m.length) : sz (insR L i m st) = (sz L).take i ++ m ++ (sz L).drop i := by
  unfold insR sz newR
  rw [List.map_append, List.map_append, List.map_take, List.map_drop, List.map_map]
  congr 2
  have : ((fun r : Int × Bool × Bool => r.1) ∘ fun p : Int × Bool => (p.1, false, p.2)) = Prod.fst := rfl
  rw [this, List.map_fst_zip (by omega)]
theorem insR_ky {L : List (Int × Bool × Bool)} {i : Nat} {m : List Int} {st : List Bool} (h : st.length = m.length) : ky (insR L i m st) = (ky L).take i ++ List.replicate m.length false ++ (ky L).drop i := by
  unfold insR ky newR
  rw [List.map_append, List.map_append, List.map_take, List.map_drop, List.map_map]
  congr 2
  have : ((fun r : Int × Bool × Bool => r.2.1) ∘ fun p : Int × Bool => (p.1, false, p.2)) = fun _ => false := rfl
  rw [this, List.map_const', List.length_zip, h, Nat.min_self]
theorem insR_sy {L : List (Int × Bool × Bool)} {i : Nat} {m : List Int} {st : List Bool} (h : st.length = m.length) : sy (insR L i m st) = (sy L).take i ++ st ++ (sy L).drop i := by
  unfold insR sy newR
  rw [List.map_append, List.map_append, List.map_take, List.map_drop, List.map_map]
  congr 2
  have : ((fun r : Int × Bool × Bool => r.2.2) ∘ fun p : Int × Bool => (p.1, false, p.2)) = Prod.snd := rfl
  rw [this, List.map_snd_zip (by omega)]
theorem sumE_each : ∀ (m : List Int) (t : Int), sumE t m = 0 → ∀ x ∈ m, 1 ≤ x ∧ x ≤ 2305843009213693952
  | [], _, _, x, hx => by simp at hx
  | y :: m, t, h, x, hx => by
    rw [sumE] at h
    by_cases c1 : y < 1 ∨ 2305843009213693952 < y
    · rw [if_pos c1] at h; omega
    · rw [if_neg c1] at h
      by_cases c2 : 4611686018427387904 < t + y
      · rw [if_pos c2] at h; omega
      · rw [if_neg c2] at h
        rcases List.mem_cons.1 hx with rfl | hx
        · omega
        · exact sumE_each m (t + y) h x hx
theorem Good.insR {L : List (Int × Bool × Bool)} (G : Good L) {i : Int} {m : List Int} {st : List Bool} (z : xinsE (sz L) i m = 0) (h : st.length = m.length) : Good (insR L i.toNat m st) := by
  unfold xinsE at z
  by_cases c : 0 ≤ i ∧ i ≤ ((sz L).length : Int)
  · rw [if_pos c] at z
    by_cases c2 : 1024 - ((sz L).length : Int) < m.length
    · rw [if_pos c2] at z; omega
    · rw [if_neg c2] at z
      by_cases c3 : sumE 0 m = 0
      · rw [if_pos c3] at z
        by_cases c4 : 4611686018427387904 - m.sum < (sz L).sum
        · rw [if_pos c4] at z; omega
        · have hz := sz_len L
          refine ⟨?_, fun r hr => ?_, ?_⟩
          · unfold Lay.insR; simp [newR_len h]; omega
          · unfold Lay.insR newR at hr
            simp only [List.mem_append, List.mem_map] at hr
            rcases hr with (q | ⟨p, hp, rfl⟩) | q
            · exact G.one r (List.mem_of_mem_take q)
            · exact sumE_each m 0 c3 p.1 (List.of_mem_zip hp).1
            · exact G.one r (List.mem_of_mem_drop q)
          · rw [insR_sz h, List.sum_append, List.sum_append]
            have : ((sz L).take i.toNat).sum + ((sz L).drop i.toNat).sum = (sz L).sum := by rw [← List.sum_append, List.take_append_drop]
            omega
      · rw [if_neg c3] at z; exact absurd z c3
  · rw [if_neg c] at z; omega
section
variable {hh : Heap} {en : T V} {b b9 : Nat} {pm : Option Nat} {vr : V} {L : List (Int × Bool × Bool)} {s : Stp}
theorem K0_end {m : List Int} {st : List Bool} {um us : V} {h1 : Heap} (w : WF hh) (F1 : Fr [] hh h1) (lo : LoP hh b pm (sz L) (ky L) (sy L)) (rw' : RwF hh vr L) (G : Good L) (o9 : Own h1 b9 (stc s)) (ok : s.ok)
    (am : Ints h1 um m) (as : Bools h1 us st) (hm : m.length ≤ 10) {en2 : T V} (g6 : en2.get 6 = some vr) (g7 : en2.get 7 = some (.ptr b 0)) (g9 : en2.get 9 = some (.ptr b9 0)) (g14 : en2.get 14 = some um) (g15 : en2.get 15 = some us)
    (qs : en2.get 1 = en.get 1 ∧ en2.get 6 = en.get 6 ∧ en2.get 7 = en.get 7 ∧ en2.get 8 = en.get 8 ∧ en2.get 9 = en.get 9 ∧ en2.get 10 = en.get 10) :
    W go scK0e en2 h1 (KPost b pm hh en) := by
  have o9 : Own h1 b9 [.int .u8 (s.kd : Int), .int .i64 s.at', .int .i64 s.n, .int .i64 s.x, .int .i64 s.size, s.v] := o9
  obtain ⟨z1, z2, z3, z4, z5, z6⟩ := qs
  unfold scK0e
  simp (disch := omega) only [evs, ↓reduceIte, Nat.reduceEqDiff, Nat.reduceAdd, Nat.reduceMul, Nat.reduceLeDiff, Nat.reduceLT, Int.reduceNeg, DF, eff, Nat.reduceSub, fwrap_i64, g6, g7, g9, g14, g15, o9.ld1]
  refine OQ_does (rIns_ok F1.wf (rw'.fr F1).rws G.fit G.len am as (by omega) ok.a0 ok.a1) ?_
  rintro u h2 ⟨F2, hu⟩
  have F02 := F1.then F2
  have o9 := F2.get o9
  have lo2 := lo.fr F02
  by_cases c : st.length = m.length
  · have ins := LInsQ_ok F02.wf lo2 (am.fr F2) (as.fr F2) (by omega) c ok.a0 ok.a1
    have er : rinsE L s.at' m st = xinsE (sz L) s.at' m := by unfold rinsE; rw [if_pos c]
    rw [er] at hu
    by_cases z : xinsE (sz L) s.at' m = 0
    · rw [if_pos z] at hu
      obtain ⟨v', rfl, gv⟩ := hu
      simp (disch := omega) only [evs, ↓reduceIte, Nat.reduceEqDiff, Nat.reduceAdd, Nat.reduceMul, Nat.reduceLeDiff, Nat.reduceLT, Int.reduceNeg, DF, eff, Nat.reduceSub, fwrap_i64, g6, g7, g9, g14, g15, o9.ld1]
      refine OQ_does ins ?_
      rintro _ h3 ⟨rfl, F3, pm', hpm, lo3⟩
      rw [if_pos z] at lo3
      rw [z]
      simp (disch := omega) only [evs, ↓reduceIte, Nat.reduceEqDiff, Nat.reduceAdd, Nat.reduceMul, Nat.reduceLeDiff, Nat.reduceLT, Int.reduceNeg, DF, eff, Nat.reduceSub, fwrap_i64]
      refine ⟨rfl, v', insR L s.at'.toNat m st, pm', 0, (by simp [T.get_set]), (by simp [T.get_set]), (by simp [T.get_set]), ⟨(by simp [T.get_set, z1]), (by simp [T.get_set, z2]), (by simp [T.get_set, z3]), (by simp [T.get_set, z4]), (by simp [T.get_set, z5]), (by simp [T.get_set, z6])⟩, Fr.trans F02 F3 w (by simp) (fun x hx => .inl hx), ?_, ?_, (GRecs.rwf gv).frQ F3 lo2, G.insR z c⟩
      · rcases hpm with q | ⟨q1, q2⟩
        · exact .inl q
        · exact .inr ⟨q1, fun q e => Nat.le_trans F02.next (q2 q e)⟩
      · rw [insR_sz c, insR_ky c, insR_sy c]; exact lo3
    · rw [if_neg z] at hu
      subst hu
      simp (disch := omega) only [evs, ↓reduceIte, Nat.reduceEqDiff, Nat.reduceAdd, Nat.reduceMul, Nat.reduceLeDiff, Nat.reduceLT, Int.reduceNeg, DF, eff, Nat.reduceSub, fwrap_i64, g6, g7, g9, g14, g15, o9.ld1]
      refine OQ_does ins ?_
      rintro _ h3 ⟨rfl, F3, pm', hpm, lo3⟩
      rw [if_neg z] at lo3
      simp (disch := omega) only [evs, ↓reduceIte, Nat.reduceEqDiff, Nat.reduceAdd, Nat.reduceMul, Nat.reduceLeDiff, Nat.reduceLT, Int.reduceNeg, DF, eff, Nat.reduceSub, fwrap_i64]
      refine ⟨rfl, vr, L, pm', xinsE (sz L) s.at' m, (by simp [T.get_set]), (by simp [T.get_set]), (by simp [T.get_set]), ⟨(by simp [T.get_set, z1]), (by simp [T.get_set, z2]), (by simp [T.get_set, z3]), (by simp [T.get_set, z4]), (by simp [T.get_set, z5]), (by simp [T.get_set, z6])⟩, Fr.trans F02 F3 w (by simp) (fun x hx => .inl hx), ?_, lo3, (rw'.fr F02).frQ F3 lo2, G⟩
      rcases hpm with q | ⟨q1, q2⟩
      · exact .inl q
      · exact .inr ⟨q1, fun q e => Nat.le_trans F02.next (q2 q e)⟩
  · have er : rinsE L s.at' m st = 1 := by unfold rinsE; rw [if_neg c]
    rw [er, if_neg (by omega)] at hu
    subst hu
    simp (disch := omega) only [evs, ↓reduceIte, Nat.reduceEqDiff, Nat.reduceAdd, Nat.reduceMul, Nat.reduceLeDiff, Nat.reduceLT, Int.reduceNeg, DF, eff, Nat.reduceSub, fwrap_i64, g6, g7, g9, g14, g15, o9.ld1]
    refine OQ_does (LInsArg_ok (l := []) (ks := []) (bs := []) F02.wf (am.fr F2) (as.fr F2) c) ?_
    rintro _ _ ⟨rfl, hh'⟩
    replace hh' := hh'.symm
    subst hh'
    simp (disch := omega) only [evs, ↓reduceIte, Nat.reduceEqDiff, Nat.reduceAdd, Nat.reduceMul, Nat.reduceLeDiff, Nat.reduceLT, Int.reduceNeg, DF, eff, Nat.reduceSub, fwrap_i64]
    exact ⟨rfl, vr, L, pm, 1, (by simp [T.get_set]), (by simp [T.get_set]), (by simp [T.get_set]), ⟨(by simp [T.get_set, z1]), (by simp [T.get_set, z2]), (by simp [T.get_set, z3]), (by simp [T.get_set, z4]), (by simp [T.get_set, z5]), (by simp [T.get_set, z6])⟩, frQ F02, .inl rfl, lo2, rw'.fr F02, G⟩
end
end Go.Ev.Lay

/- LayoutsScript: a step that puts rows in, whole. -/
namespace Go.Ev.Lay
set_option maxRecDepth 4000
section
variable {hh : Heap} {en : T V} {b b9 : Nat} {pm : Option Nat} {vr : V} {L : List (Int × Bool × Bool)} {s : Stp}
theorem ic_set (l : List Int) (x : Int) (h : 0 < l.length) : (l.flatMap ic).set 0 (.int .i64 x) = (l.set 0 x).flatMap ic := by
  cases l with
  | nil => simp at h
  | cons y l => simp [ic]
theorem K0_ok (w : WF hh) (lo : LoP hh b pm (sz L) (ky L) (sy L)) (rw' : RwF hh vr L) (G : Good L) (o9 : Own hh b9 (stc s)) (ok : s.ok) (hP : ARecs uc 2 hh s.v s.P) (hl : s.P.length ≤ 10) (g6 : en.get 6 = some vr) (g7 : en.get 7 = some (.ptr b 0)) (g9 : en.get 9 = some (.ptr b9 0)) :
    W go scK0 en hh (KPost b pm hh en) := by
  have o9 : Own hh b9 [.int .u8 (s.kd : Int), .int .i64 s.at', .int .i64 s.n, .int .i64 s.x, .int .i64 s.size, s.v] := o9
  unfold scK0
  simp (disch := omega) only [evs, ↓reduceIte, Nat.reduceEqDiff, Nat.reduceAdd, Nat.reduceMul, Nat.reduceLeDiff, Nat.reduceLT, Int.reduceNeg, DF, eff, Nat.reduceSub, fwrap_i64, g6, g7, g9]
  refine W_loop (fun k env h => ∃ (j : Nat) (v4 v5 : V), Fr [] hh h ∧ env.get 14 = some v4 ∧ env.get 15 = some v5 ∧ env.get 16 = some (.int .i64 j) ∧ env.get 9 = some (.ptr b9 0) ∧ (env.get 1 = en.get 1 ∧ env.get 6 = en.get 6 ∧ env.get 7 = en.get 7 ∧ env.get 8 = en.get 8 ∧ env.get 9 = en.get 9 ∧ env.get 10 = en.get 10) ∧
    j ≤ s.P.length ∧ GRecs ic 1 h hh.next v4 (sP (s.P.take j)) ∧ GRecs bc 1 h hh.next v5 (bP (s.P.take j)) ∧ k = s.P.length - j) s.P.length (by omega) ?_ ?_
  · exact ⟨0, .nils, .nils, Fr.refl w, (by simp [T.get_set]), (by simp [T.get_set]), (by simp [T.get_set]), (by simp [T.get_set, g9]), ⟨(by simp [T.get_set]), (by simp [T.get_set]), (by simp [T.get_set]), (by simp [T.get_set]), (by simp [T.get_set]), (by simp [T.get_set])⟩, by omega, GRecs.nil, GRecs.nil, rfl⟩
  rintro k env h ⟨j, v4, v5, F, g14, g15, g16, g9', qs, hj, G4, G5, rfl⟩
  have a2 := ARecs.fr hP F
  have al := a2.len
  have o9h := F.get o9
  obtain ⟨z1, z2, z3, z4, z5, z6⟩ := qs
  by_cases hlt : (j : Int) < s.P.length
  · obtain ⟨bb, o, p, e1, e2, _, e4⟩ := ARecs.ix uc_len a2 .i64 j (by omega) hlt
    simp only [Int.toNat_natCast] at e4
    have q0 : hload1 h bb o = some (.int .u8 (p.1 : Int)) := by have := e2 0 (by omega); simpa [uc] using this
    obtain ⟨r1, r2⟩ := ok.p p (List.mem_of_getElem? e4)
    have i0 := aP_ixa 1 bb o 2 .i64 0 (by omega) (by omega)
    rw [show o + (0 : Int).toNat * 1 = o by simp] at i0
    have tk1 : sP (s.P.take (j + 1)) = sP (s.P.take j) ++ [(p.1 : Int)] := by rw [List.take_add_one, e4]; simp [sP]
    have tk2 : bP (s.P.take (j + 1)) = bP (s.P.take j) ++ [decide (p.2 % 3 = 0)] := by rw [List.take_add_one, e4]; simp [bP]
    have l1 : (sP (s.P.take j)).length ≤ 1024 := by rw [sP_len]; simp; omega
    have l2 : (bP (s.P.take j)).length ≤ 1024 := by rw [bP_len]; simp; omega
    obtain ⟨h2, e_h2⟩ : ∃ h2, h2 = halloc h (ic (p.1 : Int)) := ⟨_, rfl⟩
    have F_h2 : Fr [] h h2 := e_h2 ▸ Fr.halloc F.wf _
    have o_h2 : Own h2 h.next (ic (p.1 : Int)) := e_h2 ▸ Own.new F.wf _
    have e2' : halloc h [.int .i64 (p.1 : Int)] = h2 := e_h2.symm
    simp (disch := omega) only [evs, ↓reduceIte, Nat.reduceEqDiff, Nat.reduceAdd, Nat.reduceMul, Nat.reduceLeDiff, Nat.reduceLT, Int.reduceNeg, DF, eff, Nat.reduceSub, fwrap_i64, g14, g15, g16, g9', o9h.ld1, al, eq_true hlt, e1, i0, q0, e2']
    refine GRecs.append (x := (p.1 : Int)) F_h2.wf (G4.fr F_h2) ic_len rfl (by omega) o_h2 (Nat.le_trans F.next F_h2.next) (by omega) ?_
    intro v4' h3 G4' F3
    have U3 := Gs.up (G4.fr F_h2) F3
    have F13 : Fr [] hh h3 := (F.then F_h2).ups w U3
    have G5' : GRecs bc 1 h3 hh.next v5 (bP (s.P.take j)) := GRecs.keep (G5.fr F_h2) (G4.fr F_h2) F3 (fun n e hl => by
      have := ic_bc e.symm
      rw [← e.symm, this] at hl
      simp at hl; omega)
    obtain ⟨bb', o', p', d1, d2, _, d4⟩ := ARecs.ix uc_len (ARecs.fr hP F13) .i64 j (by omega) hlt
    simp only [Int.toNat_natCast] at d4
    rw [e4] at d4; cases d4
    have q1 : hload1 h3 bb' (o' + 1) = some (.int .u8 (p.2 : Int)) := by have := d2 1 (by omega); simpa [uc] using this
    have i1 := aP_ixa 1 bb' o' 2 .i64 1 (by omega) (by omega)
    rw [show o' + (1 : Int).toNat * 1 = o' + 1 by simp] at i1
    have m2 := remu8 p.2 3 3 rfl (by omega)
    have dd : decide (((p.2 % 3 : Nat) : Int) = 0) = decide (p.2 % 3 = 0) := by rw [Bool.eq_iff_iff]; simp; omega
    obtain ⟨h4, e_h4⟩ : ∃ h4, h4 = halloc h3 (bc (decide (p.2 % 3 = 0))) := ⟨_, rfl⟩
    have F_h4 : Fr [] h3 h4 := e_h4 ▸ Fr.halloc F13.wf _
    have o_h4 : Own h4 h3.next (bc (decide (p.2 % 3 = 0))) := e_h4 ▸ Own.new F13.wf _
    have e4' : halloc h3 [.bool (decide (p.2 % 3 = 0))] = h4 := e_h4.symm
    simp (disch := omega) only [evs, ↓reduceIte, Nat.reduceEqDiff, Nat.reduceAdd, Nat.reduceMul, Nat.reduceLeDiff, Nat.reduceLT, Int.reduceNeg, DF, eff, Nat.reduceSub, fwrap_i64, g14, g15, g16, g9', (F13.get o9).ld1, d1, i1, q1, m2, dd, e4']
    refine GRecs.append (x := decide (p.2 % 3 = 0)) F_h4.wf (G5'.fr F_h4) bc_len rfl (by omega) o_h4 (Nat.le_trans F13.next F_h4.next) (by omega) ?_
    intro v5' h5 G5'' F5
    have U5 := Gs.up (G5'.fr F_h4) F5
    have G4'' : GRecs ic 1 h5 hh.next v4' (sP (s.P.take j) ++ [(p.1 : Int)]) := GRecs.keep (G4'.fr F_h4) (G5'.fr F_h4) F5 (fun n e hl => by
      have := ic_bc e
      simp at this)
    simp (disch := omega) only [evs, ↓reduceIte, Nat.reduceEqDiff, Nat.reduceAdd, Nat.reduceMul, Nat.reduceLeDiff, Nat.reduceLT, Int.reduceNeg, DF, eff, Nat.reduceSub, fwrap_i64, g14, g15, g16, g9']
    refine (roundQ_norm _ _ _).2 ⟨s.P.length - (j + 1), by omega, j + 1, v4', v5', (F13.then F_h4).ups w U5, (by simp [T.get_set]), (by simp [T.get_set]), (by simp [T.get_set]), (by simp [T.get_set, g9']), ⟨(by simp [T.get_set, z1]), (by simp [T.get_set, z2]), (by simp [T.get_set, z3]), (by simp [T.get_set, z4]), (by simp [T.get_set, z5]), (by simp [T.get_set, z6])⟩, by omega, by rw [tk1]; exact G4'', by rw [tk2]; exact G5'', rfl⟩
    done
  have ej : j = s.P.length := by omega
  subst ej
  rw [List.take_length] at G4 G5
  have im : Ints h v4 (sP s.P) := by have := G4.recs ic_len (by omega); show Sl _ 1 _ _ _; rw [← ic_flat]; exact this
  have bm : Bools h v5 (bP s.P) := by have := G5.recs bc_len (by omega); show Sl _ 1 _ _ _; rw [← bc_flat]; exact this
  have iln := im.len
  rw [sP_len] at iln
  have bln := bm.len
  rw [bP_len] at bln
  have q7 : env.get 7 = some (.ptr b 0) := z3.trans g7
  have q6 : env.get 6 = some vr := z2.trans g6
  -- the number of marks that lack
  have hkd := ok.kd
  have kq : aP (.ib .quo) [.int .u8 (s.kd : Int), .int .u8 128] = some (.int .u8 ((s.kd / 128 : Nat) : Int)) := by
    rw [aP_quo _ _ _ (by omega), show Int.tdiv (s.kd : Int) 128 = ((s.kd / 128 : Nat) : Int) from (Int.ofNat_tdiv s.kd 128).symm, fwrap_u8 _ (by omega) (by omega)]
  have kd1 : s.kd / 128 ≤ 1 := by omega
  have hlen : (0 : Int) ≤ (s.P.length : Int) - min (s.P.length : Int) ((s.kd / 128 : Nat) : Int) ∧ (s.P.length : Int) - min (s.P.length : Int) ((s.kd / 128 : Nat) : Int) ≤ s.P.length := by omega
  by_cases c0 : (0 : Int) < s.P.length
  · rcases G4 with ⟨_, e2⟩ | ⟨b', n, rfl, hln, hn0, hB, oq⟩
    · have := congrArg List.length e2
      rw [flat_len ic_len, sP_len] at this
      have : s.P.length * 1 = 0 := this
      omega
    rw [flat_len ic_len, sP_len] at hln
    have : n = s.P.length := by omega
    subst this
    have ix := aP_ixU 1 b' 0 s.P.length 1 .i64 0 (by omega) (by omega)
    simp only [Int.toNat_zero, Nat.zero_mul, Nat.add_zero] at ix
    simp (disch := omega) only [evs, ↓reduceIte, Nat.reduceEqDiff, Nat.reduceAdd, Nat.reduceMul, Nat.reduceLeDiff, Nat.reduceLT, Int.reduceNeg, DF, eff, Nat.reduceSub, fwrap_i64, g14, g15, g16, g9', o9h.ld1, al, eq_false hlt, iln, eq_true c0, ix]
    refine store_step (c' := ((sP s.P).set 0 s.size).flatMap ic) F.wf oq rfl rfl ?_ ?_
    · rw [← ic_set _ _ (by rw [sP_len]; omega)]
      exact updO_set1 _ _ _ (by rw [flat_len ic_len, sP_len]; omega)
    rintro h2 o2 F2 n2
    have F02 : Fr [] hh h2 := F.fresh F2 w hB
    have im2 : Ints h2 (.sliceU b' 0 s.P.length 1) ((sP s.P).set 0 s.size) := by
      have hl2 : ((sP s.P).set 0 s.size).length = s.P.length := by simp [sP_len]
      refine ⟨by simp, ?_, rfl, _, o2, ?_, ?_⟩
      · exact hl2.symm
      · rw [flat_len ic_len, hl2]; omega
      · rw [hl2, List.drop_zero, List.take_of_length_le (by rw [flat_len ic_len, hl2]; omega), ic_flat]
    have G5b : GRecs bc 1 h2 hh.next v5 (bP s.P) := by
      rcases G5 with x | ⟨q, n', e1, e2, e3, e4, e5⟩
      · exact .inl x
      · refine .inr ⟨q, n', e1, e2, e3, e4, F2.own _ _ ?_ e5⟩
        simp only [List.mem_singleton]
        rintro rfl
        have := ic_bc (oq.uniq e5)
        have := congrArg List.length this
        rw [sP_len] at this
        have : s.P.length = 0 := this
        omega
    have bm2 : Bools h2 v5 (bP s.P) := by have := G5b.recs bc_len (by omega); show Sl _ 1 _ _ _; rw [← bc_flat]; exact this
    have bv : v5 ≠ .sliceE := by rintro rfl; rcases G5b with ⟨q, _⟩ | ⟨_, _, q, _⟩ <;> cases q
    obtain ⟨v6, s6, b6⟩ := bm2.upto bv .i64 ((s.P.length : Int) - min (s.P.length : Int) ((s.kd / 128 : Nat) : Int)) hlen.1 (by rw [bP_len]; exact hlen.2)
    simp (disch := omega) only [evs, ↓reduceIte, Nat.reduceEqDiff, Nat.reduceAdd, Nat.reduceMul, Nat.reduceLeDiff, Nat.reduceLT, Int.reduceNeg, DF, eff, Nat.reduceSub, fwrap_i64, g14, g15, g16, g9', (F02.get o9).ld1, bln, kq, s6, aP_mn, fwrap_i64]
    exact K0_end w F02 lo rw' G (F02.get o9) ok im2 b6 (by simp [sP_len]; omega) ((by simp [T.get_set, q6])) ((by simp [T.get_set, q7])) ((by simp [T.get_set, g9'])) ((by simp [T.get_set, g14])) ((by simp [T.get_set])) ⟨(by simp [T.get_set, z1]), (by simp [T.get_set, z2]), (by simp [T.get_set, z3]), (by simp [T.get_set, z4]), (by simp [T.get_set, z5]), (by simp [T.get_set, z6])⟩
  · have bv : v5 ≠ .sliceE := by rintro rfl; rcases G5 with ⟨q, _⟩ | ⟨_, _, q, _⟩ <;> cases q
    obtain ⟨v6, s6, b6⟩ := bm.upto bv .i64 ((s.P.length : Int) - min (s.P.length : Int) ((s.kd / 128 : Nat) : Int)) hlen.1 (by rw [bP_len]; exact hlen.2)
    simp (disch := omega) only [evs, ↓reduceIte, Nat.reduceEqDiff, Nat.reduceAdd, Nat.reduceMul, Nat.reduceLeDiff, Nat.reduceLT, Int.reduceNeg, DF, eff, Nat.reduceSub, fwrap_i64, g14, g15, g16, g9', o9h.ld1, al, eq_false hlt, iln, eq_false c0, bln, kq, s6]
    exact K0_end w F lo rw' G o9h ok im b6 (by simp [sP_len]; omega) ((by simp [T.get_set, q6])) ((by simp [T.get_set, q7])) ((by simp [T.get_set, g9'])) ((by simp [T.get_set, g14])) ((by simp [T.get_set])) ⟨(by simp [T.get_set, z1]), (by simp [T.get_set, z2]), (by simp [T.get_set, z3]), (by simp [T.get_set, z4]), (by simp [T.get_set, z5]), (by simp [T.get_set, z6])⟩
end
end Go.Ev.Lay

/- LayoutsScript: what stays beside a step. -/
namespace Go.Ev.Lay
set_option maxRecDepth 4000
theorem flc6 {c : List V} (h : c.length ≠ 66) : ∀ n m ws, ws.length = 64 → c ≠ flc n m ws := by
  intro n m ws hw e
  have := congrArg List.length e
  rw [flc_len, hw] at this
  omega
theorem At.frF {h h' : Heap} {b : Nat} {x y z : V} (f : FrF b h h') (o : Own h b [x, y, z]) : ∀ {t : Tr} {p : Option Nat}, At h t p → At h' t p
  | .nil, _, a => a
  | .node l s r, _, ⟨q, pl, pr, e, oq, al, ar⟩ => ⟨q, pl, pr, e, f.own _ _ (by
      rintro rfl
      have := congrArg List.length (oq.uniq o)
      simp at this) (flc6 (by simp)) oq, At.frF f o al, At.frF f o ar⟩
theorem SpF.frF {h h' : Heap} {v : V} {L : List (Int × Int)} {b : Nat} {x y z : V} (a : SpF h v L) (f : FrF b h h') (o : Own h b [x, y, z]) : SpF h' v L := by
  rcases a with q | ⟨q, e, oq, p⟩
  · exact .inl q
  · refine .inr ⟨q, e, f.own _ _ ?_ ?_ oq, p⟩
    · rintro rfl
      have := congrArg List.length (oq.uniq o)
      rw [flat_len sp_len] at this; simp at this; omega
    · intro n m ws hw e2
      have hm : uw (ws.headD 0) ∈ L.flatMap sp := by
        rw [e2]
        cases ws with
        | nil => simp at hw
        | cons w ws => simp [flc]
      rw [List.mem_flatMap] at hm
      obtain ⟨s, _, hs⟩ := hm
      simp [sp, uw] at hs
theorem Ix.frF {h h' : Heap} {v : V} {l : List Int} {ks : List Bool} {b : Nat} {x y z : V} (a : Ix h v l ks) (f : FrF b h h') (o : Own h b [x, y, z]) : Ix h' v l ks := by
  obtain ⟨p, vk, L, e, ⟨t, p', e2, at', r⟩, s, k⟩ := a
  exact ⟨p, vk, L, e, ⟨t, p', e2, at'.frF f o, r⟩, s.frF f o, k⟩
/-- a layout beside the one that changes -/
theorem LoP.other {h h' : Heap} {b c : Nat} {pm pc : Option Nat} {l l' : List Int} {ks bs ks' bs' : List Bool} (a : LoP h c pc l ks bs) (f : FrQ b pm h h') (lo : LoP h b pm l' ks' bs') (hc : c ≠ b) (hq : ∀ q, pc = some q → pm ≠ some q) : LoP h' c pc l ks bs := by
  have F := f.frF lo
  obtain ⟨p', vk', o', _, _, mk', _⟩ := lo
  obtain ⟨p, vk, o, v1, ix, mk, e⟩ := a
  refine ⟨p, vk, F.own _ _ hc (flc6 (by simp)) o, v1, ix.frF F o', ?_, e⟩
  cases pc with
  | none => exact mk
  | some q =>
    obtain ⟨ws, oq, ok, hn⟩ := (mk : Fl h q bs)
    refine ⟨ws, f.own _ _ (fun m => ?_) oq, ok, hn⟩
    rcases List.mem_cons.1 m with e1 | e1
    · subst e1
      have := congrArg List.length (oq.uniq o')
      rw [flc_len, ok.len] at this; simp at this
    · cases pm with
      | none => simp at e1
      | some q' => simp at e1; subst e1; exact hq q rfl rfl
theorem LoP.qlt {h : Heap} {b q : Nat} {l : List Int} {ks bs : List Bool} (a : LoP h b (some q) l ks bs) (w : WF h) : q < h.next := by
  obtain ⟨p, vk, o, v1, ix, mk, e⟩ := a
  obtain ⟨ws, oq, _⟩ := (mk : Fl h q bs)
  exact oq.lt w
theorem LoP.blt {h : Heap} {b : Nat} {pm : Option Nat} {l : List Int} {ks bs : List Bool} (a : LoP h b pm l ks bs) (w : WF h) : b < h.next := by
  obtain ⟨p, vk, o, _⟩ := a
  exact o.lt w
theorem stc_ones {s : Stp} (hv : s.v.one = true) : onesB (stc s) = true := by
  unfold onesB stc
  simp only [List.all_cons, List.all_nil, hv, Bool.and_true]
  rfl
end Go.Ev.Lay

/- LayoutsScript. -/
namespace Go.Ev.Lay
set_option maxRecDepth 4000
theorem Cmp_ok {hh : Heap} {en : T V} {b c : Nat} {vr v' : V} {L L' : List (Int × Bool × Bool)} {bad : Int} {Q : Ex → T V → Heap → Prop} (w : WF hh) (lo : Lo hh b (sz L') (ky L') (sy L')) (lc : Lo hh c (sz L) (ky L) (sy L)) (r : RwF hh vr L) (r' : RwF hh v' L') (G : Good L) (G' : Good L')
    (g6 : en.get 6 = some vr) (g7 : en.get 7 = some (.ptr b 0)) (g10 : en.get 10 = some (.ptr c 0)) (g11 : en.get 11 = some v') (g12 : en.get 12 = some (.int .i64 bad)) (g13 : en.get 13 = some (.int .i64 bad))
    (K : ∀ h' en', Fr [] hh h' → en'.get 6 = some v' → (∀ s, s = 1 ∨ s = 7 ∨ s = 8 → en'.get s = en.get s) → Q .norm en' h') : W go scCmp en hh Q := by
  unfold scCmp
  simp (disch := omega) only [evs, ↓reduceIte, Nat.reduceEqDiff, Nat.reduceAdd, Nat.reduceMul, Nat.reduceLeDiff, Nat.reduceLT, Int.reduceNeg, DF, eff, Nat.reduceSub, fwrap_i64, g6, g7, g10, g11, g12, g13]
  refine OQ_does (same_ok w lc r.rws G) ?_
  rintro _ h1 ⟨rfl, F1⟩
  simp (disch := omega) only [evs, ↓reduceIte, Nat.reduceEqDiff, Nat.reduceAdd, Nat.reduceMul, Nat.reduceLeDiff, Nat.reduceLT, Int.reduceNeg, DF, eff, Nat.reduceSub, fwrap_i64, g6, g7, g10, g11, g12, g13, eq_false (show ¬ (1 : Int) = 0 by omega)]
  refine OQ_does (same_ok F1.wf (lo.fr F1) (r'.fr F1).rws G') ?_
  rintro _ h2 ⟨rfl, F2⟩
  simp (disch := omega) only [evs, ↓reduceIte, Nat.reduceEqDiff, Nat.reduceAdd, Nat.reduceMul, Nat.reduceLeDiff, Nat.reduceLT, Int.reduceNeg, DF, eff, Nat.reduceSub, fwrap_i64, g6, g7, g10, g11, g12, g13, eq_false (show ¬ (1 : Int) = 0 by omega)]
  refine K h2 _ (F1.then F2) ((by simp [T.get_set])) ?_
  rintro s (rfl | rfl | rfl)
  · exact (by simp [T.get_set])
  · exact (by simp [T.get_set])
  · exact (by simp [T.get_set])
theorem Script_ok {h : Heap} {v vs : V} {ps : List (Nat × Nat)} {S : List Stp} (w : WF h) (g : Glb h) (hn : 0 < h.next) (a : ARecs uc 2 h v ps) (hp : ∀ p ∈ ps, p.1 < 256 ∧ p.2 < 256) (sok : ∀ s ∈ S, s.ok) (sone : ∀ s ∈ S, s.v.one = true)
    (hlen : aP .lenS [vs] = some (.int .i64 S.length)) (stab : ∀ b hh, h.next ≤ b → FrF b h hh → (ARecs stc 6 hh vs S ∧ ∀ s ∈ S, ARecs uc 2 hh s.v s.P)) :
    Does go 5 [.agg [v], vs] h fun u h' => u = .bool true ∧ ∃ b, h.next ≤ b ∧ FrF b h h' := by
  have v1 := cells_one (ARecs.one a)
  have G := good_rows ps
  obtain ⟨L, hL⟩ : ∃ L, L = (ps.take 30).map mkRow := ⟨_, rfl⟩
  rw [← hL] at G
  obtain ⟨h1, e_h1⟩ : ∃ h1, h1 = halloc h [v] := ⟨_, rfl⟩
  have F_h1 : Fr [] h h1 := e_h1 ▸ Fr.halloc w _
  have o_h1 : Own h1 h.next [v] := e_h1 ▸ Own.new w _
  refine does_fn g5x rfl ?_
  by_cases c12 : (12 : Int) < S.length
  · simp (disch := omega) only [evs, ↓reduceIte, Nat.reduceEqDiff, Nat.reduceAdd, Nat.reduceMul, Nat.reduceLeDiff, Nat.reduceLT, Int.reduceNeg, DF, eff, Nat.reduceSub, fwrap_i64, fn5x, v1, ← e_h1, hlen, eq_true c12]
    refine OQ_does (lives_ok (g.fr F_h1)) ?_
    rintro _ _ ⟨rfl, hh⟩
    replace hh := hh.symm
    subst hh
    simp (disch := omega) only [evs, ↓reduceIte, Nat.reduceEqDiff, Nat.reduceAdd, Nat.reduceMul, Nat.reduceLeDiff, Nat.reduceLT, Int.reduceNeg, DF, eff, Nat.reduceSub, fwrap_i64]
    exact ⟨_, Nat.le_refl _, frF F_h1⟩
  simp (disch := omega) only [evs, ↓reduceIte, Nat.reduceEqDiff, Nat.reduceAdd, Nat.reduceMul, Nat.reduceLeDiff, Nat.reduceLT, Int.reduceNeg, DF, eff, Nat.reduceSub, fwrap_i64, fn5x, v1, ← e_h1, hlen, eq_false c12]
  refine W_loop (fun n env hh => hh = h1 ∧ ∃ j : Nat, env.get 1 = some vs ∧ env.get 2 = some (.ptr h.next 0) ∧ env.get 5 = some (.int .i64 j) ∧ j ≤ S.length ∧ (∀ (i : Nat) s, i < j → S[i]? = some s → s.P.length ≤ 10) ∧ n = S.length - j) S.length (by omega) ?_ ?_
  · exact ⟨rfl, 0, (by simp [T.get_set]), (by simp [T.get_set]), (by simp [T.get_set]), by omega, fun i s hi => by omega, rfl⟩
  rintro n env hh ⟨rfl, j, g1, g2, g5, hj, hall, rfl⟩
  obtain ⟨sa, sp'⟩ := stab h.next hh (Nat.le_refl _) (frF F_h1)
  by_cases hlt : (j : Int) < S.length
  · obtain ⟨bb, oo, s, e1, e2, e3, e4⟩ := ARecs.ix stc_len sa .i64 j (by omega) hlt
    simp only [Int.toNat_natCast] at e4
    have q5 : hload1 hh bb (oo + 5) = some s.v := by have := e2 5 (by omega); simpa [stc] using this
    have sl := (sp' s (List.mem_of_getElem? e4)).len
    by_cases c10 : (10 : Int) < s.P.length
    · simp (disch := omega) only [evs, ↓reduceIte, Nat.reduceEqDiff, Nat.reduceAdd, Nat.reduceMul, Nat.reduceLeDiff, Nat.reduceLT, Int.reduceNeg, DF, eff, Nat.reduceSub, fwrap_i64, g1, g2, g5, hlen, eq_true hlt, e1, q5, sl, eq_true c10]
      refine OQ_does (lives_ok (g.fr F_h1)) ?_
      rintro _ _ ⟨rfl, hh'⟩
      replace hh' := hh'.symm
      subst hh'
      simp (disch := omega) only [evs, ↓reduceIte, Nat.reduceEqDiff, Nat.reduceAdd, Nat.reduceMul, Nat.reduceLeDiff, Nat.reduceLT, Int.reduceNeg, DF, eff, Nat.reduceSub, fwrap_i64]
      exact ⟨_, Nat.le_refl _, frF F_h1⟩
    · simp (disch := omega) only [evs, ↓reduceIte, Nat.reduceEqDiff, Nat.reduceAdd, Nat.reduceMul, Nat.reduceLeDiff, Nat.reduceLT, Int.reduceNeg, DF, eff, Nat.reduceSub, fwrap_i64, g1, g2, g5, hlen, eq_true hlt, e1, q5, sl, eq_false c10]
      refine (roundQ_norm _ _ _).2 ⟨S.length - (j + 1), by omega, rfl, j + 1, (by simp [T.get_set, g1]), (by simp [T.get_set, g2]), (by simp [T.get_set]), by omega, ?_, rfl⟩
      intro i s' hi hs'
      by_cases c : i = j
      · subst c; rw [e4] at hs'; cases hs'; omega
      · exact hall i s' (by omega) hs'
  have ej : j = S.length := by omega
  subst ej
  simp (disch := omega) only [evs, ↓reduceIte, Nat.reduceEqDiff, Nat.reduceAdd, Nat.reduceMul, Nat.reduceLeDiff, Nat.reduceLT, Int.reduceNeg, DF, eff, Nat.reduceSub, fwrap_i64, g1, g2, g5, hlen, eq_false hlt, o_h1.ld, o_h1.ld1]
  refine OQ_does (Rows_ok F_h1.wf (ARecs.fr a F_h1) hp) ?_
  rintro u h3 ⟨gr, F3⟩
  rw [← hL] at gr
  have rf := GRecs.rwf gr
  have F03 := F_h1.then F3
  simp (disch := omega) only [evs, ↓reduceIte, Nat.reduceEqDiff, Nat.reduceAdd, Nat.reduceMul, Nat.reduceLeDiff, Nat.reduceLT, Int.reduceNeg, DF, eff, Nat.reduceSub, fwrap_i64]
  refine OQ_does (Lay_ok F3.wf rf G) ?_
  rintro _ h4 ⟨b, rfl, hb, lo, F4⟩
  have rf4 := rf.frF' F4 F3.wf hb
  have hb0 : h.next ≤ b := Nat.le_trans F03.next hb
  have glb4 : Glb h4 := (g.fr F03).frF F4 (by omega)
  have F04 : FrF b h h4 := (frF F03).trans F4
  obtain ⟨pm, lop⟩ := lo.p
  simp (disch := omega) only [evs, ↓reduceIte, Nat.reduceEqDiff, Nat.reduceAdd, Nat.reduceMul, Nat.reduceLeDiff, Nat.reduceLT, Int.reduceNeg, DF, eff, Nat.reduceSub, fwrap_i64, g1, g2, g5]
  clear rf gr lo
  refine W_loop (fun n env hh => ∃ (j : Nat) (L : List (Int × Bool × Bool)) (vr : V) (pm : Option Nat), FrF b h hh ∧ Glb hh ∧ env.get 1 = some vs ∧ env.get 6 = some vr ∧ env.get 7 = some (.ptr b 0) ∧ env.get 8 = some (.int .i64 j) ∧ j ≤ S.length ∧
    LoP hh b pm (sz L) (ky L) (sy L) ∧ RwF hh vr L ∧ Good L ∧ n = S.length - j) S.length (by omega) ?_ ?_
  · exact ⟨0, L, u, pm, F04, glb4, (by simp [T.get_set, g1]), (by simp [T.get_set]), (by simp [T.get_set]), (by simp [T.get_set]), by omega, lop, rf4, G, rfl⟩
  clear rf4 glb4 F04 lop G hL g1 g2 g5 hlt
  rintro n env hh ⟨j, L, vr, pm, FF, gl, g1, g6, g7, g8, hj, lo, rf, G, rfl⟩
  obtain ⟨sa, sp'⟩ := stab b hh hb0 FF
  by_cases hlt : (j : Int) < S.length
  · obtain ⟨bb, oo, s, e1, e2, e3, e4⟩ := ARecs.ix stc_len sa .i64 j (by omega) hlt
    simp only [Int.toNat_natCast] at e4
    have hs := List.mem_of_getElem? e4
    have ok := sok s hs
    have so := sone s hs
    have pl := hall j s (by omega) e4
    have ld : hload hh bb oo 6 = some [.int .u8 (s.kd : Int), .int .i64 s.at', .int .i64 s.n, .int .i64 s.x, .int .i64 s.size, s.v] := e3
    obtain ⟨h5, e_h5⟩ : ∃ h5, h5 = halloc hh [.int .u8 0, .int .i64 0, .int .i64 0, .int .i64 0, .int .i64 0, .nils] := ⟨_, rfl⟩
    have F_h5 : Fr [] hh h5 := e_h5 ▸ Fr.halloc FF.wf _
    have o_h5 : Own h5 hh.next [.int .u8 0, .int .i64 0, .int .i64 0, .int .i64 0, .int .i64 0, .nils] := e_h5 ▸ Own.new FF.wf _
    have e5' : halloc hh [.int .u8 0, .int .i64 0, .int .i64 0, .int .i64 0, .int .i64 0, .nils] = h5 := e_h5.symm
    simp (disch := omega) only [evs, ↓reduceIte, Nat.reduceEqDiff, Nat.reduceAdd, Nat.reduceMul, Nat.reduceLeDiff, Nat.reduceLT, Int.reduceNeg, DF, eff, Nat.reduceSub, fwrap_i64, g1, g6, g7, g8, hlen, eq_true hlt, e1, ld, e5']
    refine store_step (c' := stc s) F_h5.wf o_h5 rfl (stc_ones so) rfl ?_
    rintro h6 o6 F6 n6
    have F06 : Fr [] hh h6 := F_h5.fresh F6 FF.wf (Nat.le_refl _)
    simp (disch := omega) only [evs, ↓reduceIte, Nat.reduceEqDiff, Nat.reduceAdd, Nat.reduceMul, Nat.reduceLeDiff, Nat.reduceLT, Int.reduceNeg, DF, eff, Nat.reduceSub, fwrap_i64, g1, g6, g7, g8]
    refine OQ_does (LCopyQ_ok F06.wf (lo.fr F06)) ?_
    rintro _ h7 ⟨cb, pc, rfl, hcb, hpc, loc, F7⟩
    have F07 := F06.then F7
    have o7 := F7.get o6
    have o7' : Own h7 hh.next [.int .u8 (s.kd : Int), .int .i64 s.at', .int .i64 s.n, .int .i64 s.x, .int .i64 s.size, s.v] := o7
    have lo7 := lo.fr F07
    have rf7 := rf.fr F07
    have hP7 := ARecs.fr (sp' s hs) F07
    have kr := remu8 s.kd 5 5 rfl (by omega)
    have blt := lo.blt FF.wf
    have fin : ∀ (en : T V), en.get 1 = some vs → en.get 6 = some vr → en.get 7 = some (.ptr b 0) → en.get 8 = some (.int .i64 j) → en.get 10 = some (.ptr cb 0) → ∀ e en' h', KPost b pm h7 en e en' h' →
        ∀ Q : Ex → T V → Heap → Prop, (∀ en'' h'' v' L' pm', en''.get 1 = some vs → en''.get 6 = some v' → en''.get 7 = some (.ptr b 0) → en''.get 8 = some (.int .i64 j) → FrF b h h'' → Glb h'' → LoP h'' b pm' (sz L') (ky L') (sy L') → RwF h'' v' L' → Good L' → Q .norm en'' h'') → e = .norm ∧ W go scCmp en' h' Q := by
      rintro en q1 q6 q7 q8 q10 e en' h' ⟨rfl, v', L', pm', bad, r11, r12, r13, ⟨t1, t6, t7, t8, t9, t10⟩, FQ, hpm, lo', rf', G'⟩ Q K
      refine ⟨rfl, ?_⟩
      have loc' := loc.other FQ lo7 (by have := F06.next; omega) (fun q hq e => by
        have h1 := hpc q hq
        subst e
        have := (lo.fr F06).qlt F06.wf
        omega)
      have rfo := rf7.frQ FQ lo7
      refine Cmp_ok FQ.wf lo'.lo loc'.lo rfo rf' G G' (t6.trans q6) (t7.trans q7) (t10.trans q10) r11 r12 r13 ?_
      intro h'' en'' F8 s6 ss
      have F8' : FrF b h h'' := ((FF.trans (frF F07)).trans (FQ.frF lo7)).trans (frF F8)
      exact K en'' h'' v' L' pm' ((ss 1 (.inl rfl)).trans (t1.trans q1)) s6 ((ss 7 (.inr (.inl rfl))).trans (t7.trans q7)) ((ss 8 (.inr (.inr rfl))).trans (t8.trans q8)) F8' (((gl.fr F07).frF (FQ.frF lo7) (by omega)).fr F8) (lo'.fr F8) (rf'.fr F8) G'
    have hk : s.kd % 5 = 0 ∨ s.kd % 5 = 1 ∨ s.kd % 5 = 2 ∨ s.kd % 5 = 3 ∨ s.kd % 5 = 4 := by omega
    rcases hk with hk | hk | hk | hk | hk <;> rw [hk] at kr
    · simp (disch := omega) only [evs, ↓reduceIte, Nat.reduceEqDiff, Nat.reduceAdd, Nat.reduceMul, Nat.reduceLeDiff, Nat.reduceLT, Int.reduceNeg, DF, eff, Nat.reduceSub, fwrap_i64, g1, g6, g7, g8, o7'.ld1, kr]
      refine W.mono (K0_ok F07.wf lo7 rf7 G o7 ok hP7 pl ((by simp [T.get_set, g6])) ((by simp [T.get_set, g7])) ((by simp [T.get_set]))) ?_
      intro e en' h' kp
      have he := kp.1
      subst he
      simp (disch := omega) only [evs, ↓reduceIte, Nat.reduceEqDiff, Nat.reduceAdd, Nat.reduceMul, Nat.reduceLeDiff, Nat.reduceLT, Int.reduceNeg, DF, eff, Nat.reduceSub, fwrap_i64]
      refine (fin _ ((by simp [T.get_set, g1])) ((by simp [T.get_set, g6])) ((by simp [T.get_set, g7])) ((by simp [T.get_set, g8])) ((by simp [T.get_set])) .norm en' h' kp _ ?_).2
      intro en2 h8 v' L' pm' q1 q6 q7 q8 F8 gl8 lo8 rf8 G8
      simp (disch := omega) only [evs, ↓reduceIte, Nat.reduceEqDiff, Nat.reduceAdd, Nat.reduceMul, Nat.reduceLeDiff, Nat.reduceLT, Int.reduceNeg, DF, eff, Nat.reduceSub, fwrap_i64, q1, q6, q7, q8]
      refine (roundQ_norm _ _ _).2 ⟨S.length - (j + 1), by omega, j + 1, L', v', pm', F8, gl8, (by simp [T.get_set, q1]), (by simp [T.get_set, q6]), (by simp [T.get_set, q7]), (by simp [T.get_set]), by omega, lo8, rf8, G8, rfl⟩
      done
    · simp (disch := omega) only [evs, ↓reduceIte, Nat.reduceEqDiff, Nat.reduceAdd, Nat.reduceMul, Nat.reduceLeDiff, Nat.reduceLT, Int.reduceNeg, DF, eff, Nat.reduceSub, fwrap_i64, g1, g6, g7, g8, o7'.ld1, kr]
      refine W.mono (K1_ok F07.wf lo7 rf7 G o7 ok ((by simp [T.get_set, g6])) ((by simp [T.get_set, g7])) ((by simp [T.get_set]))) ?_
      intro e en' h' kp
      have he := kp.1
      subst he
      simp (disch := omega) only [evs, ↓reduceIte, Nat.reduceEqDiff, Nat.reduceAdd, Nat.reduceMul, Nat.reduceLeDiff, Nat.reduceLT, Int.reduceNeg, DF, eff, Nat.reduceSub, fwrap_i64]
      refine (fin _ ((by simp [T.get_set, g1])) ((by simp [T.get_set, g6])) ((by simp [T.get_set, g7])) ((by simp [T.get_set, g8])) ((by simp [T.get_set])) .norm en' h' kp _ ?_).2
      intro en2 h8 v' L' pm' q1 q6 q7 q8 F8 gl8 lo8 rf8 G8
      simp (disch := omega) only [evs, ↓reduceIte, Nat.reduceEqDiff, Nat.reduceAdd, Nat.reduceMul, Nat.reduceLeDiff, Nat.reduceLT, Int.reduceNeg, DF, eff, Nat.reduceSub, fwrap_i64, q1, q6, q7, q8]
      refine (roundQ_norm _ _ _).2 ⟨S.length - (j + 1), by omega, j + 1, L', v', pm', F8, gl8, (by simp [T.get_set, q1]), (by simp [T.get_set, q6]), (by simp [T.get_set, q7]), (by simp [T.get_set]), by omega, lo8, rf8, G8, rfl⟩
      done
    · simp (disch := omega) only [evs, ↓reduceIte, Nat.reduceEqDiff, Nat.reduceAdd, Nat.reduceMul, Nat.reduceLeDiff, Nat.reduceLT, Int.reduceNeg, DF, eff, Nat.reduceSub, fwrap_i64, g1, g6, g7, g8, o7'.ld1, kr]
      refine W.mono (K2_ok F07.wf lo7 rf7 G o7 ok ((by simp [T.get_set, g6])) ((by simp [T.get_set, g7])) ((by simp [T.get_set]))) ?_
      intro e en' h' kp
      have he := kp.1
      subst he
      simp (disch := omega) only [evs, ↓reduceIte, Nat.reduceEqDiff, Nat.reduceAdd, Nat.reduceMul, Nat.reduceLeDiff, Nat.reduceLT, Int.reduceNeg, DF, eff, Nat.reduceSub, fwrap_i64]
      refine (fin _ ((by simp [T.get_set, g1])) ((by simp [T.get_set, g6])) ((by simp [T.get_set, g7])) ((by simp [T.get_set, g8])) ((by simp [T.get_set])) .norm en' h' kp _ ?_).2
      intro en2 h8 v' L' pm' q1 q6 q7 q8 F8 gl8 lo8 rf8 G8
      simp (disch := omega) only [evs, ↓reduceIte, Nat.reduceEqDiff, Nat.reduceAdd, Nat.reduceMul, Nat.reduceLeDiff, Nat.reduceLT, Int.reduceNeg, DF, eff, Nat.reduceSub, fwrap_i64, q1, q6, q7, q8]
      refine (roundQ_norm _ _ _).2 ⟨S.length - (j + 1), by omega, j + 1, L', v', pm', F8, gl8, (by simp [T.get_set, q1]), (by simp [T.get_set, q6]), (by simp [T.get_set, q7]), (by simp [T.get_set]), by omega, lo8, rf8, G8, rfl⟩
      done
    · simp (disch := omega) only [evs, ↓reduceIte, Nat.reduceEqDiff, Nat.reduceAdd, Nat.reduceMul, Nat.reduceLeDiff, Nat.reduceLT, Int.reduceNeg, DF, eff, Nat.reduceSub, fwrap_i64, g1, g6, g7, g8, o7'.ld1, kr]
      refine W.mono (K3_ok F07.wf lo7 rf7 G o7 ok ((by simp [T.get_set, g6])) ((by simp [T.get_set, g7])) ((by simp [T.get_set]))) ?_
      intro e en' h' kp
      have he := kp.1
      subst he
      simp (disch := omega) only [evs, ↓reduceIte, Nat.reduceEqDiff, Nat.reduceAdd, Nat.reduceMul, Nat.reduceLeDiff, Nat.reduceLT, Int.reduceNeg, DF, eff, Nat.reduceSub, fwrap_i64]
      refine (fin _ ((by simp [T.get_set, g1])) ((by simp [T.get_set, g6])) ((by simp [T.get_set, g7])) ((by simp [T.get_set, g8])) ((by simp [T.get_set])) .norm en' h' kp _ ?_).2
      intro en2 h8 v' L' pm' q1 q6 q7 q8 F8 gl8 lo8 rf8 G8
      simp (disch := omega) only [evs, ↓reduceIte, Nat.reduceEqDiff, Nat.reduceAdd, Nat.reduceMul, Nat.reduceLeDiff, Nat.reduceLT, Int.reduceNeg, DF, eff, Nat.reduceSub, fwrap_i64, q1, q6, q7, q8]
      refine (roundQ_norm _ _ _).2 ⟨S.length - (j + 1), by omega, j + 1, L', v', pm', F8, gl8, (by simp [T.get_set, q1]), (by simp [T.get_set, q6]), (by simp [T.get_set, q7]), (by simp [T.get_set]), by omega, lo8, rf8, G8, rfl⟩
      done
    · simp (disch := omega) only [evs, ↓reduceIte, Nat.reduceEqDiff, Nat.reduceAdd, Nat.reduceMul, Nat.reduceLeDiff, Nat.reduceLT, Int.reduceNeg, DF, eff, Nat.reduceSub, fwrap_i64, g1, g6, g7, g8, o7'.ld1, kr]
      refine W.mono (K4_ok F07.wf lo7 rf7 G o7 ok ((by simp [T.get_set, g6])) ((by simp [T.get_set, g7])) ((by simp [T.get_set])) ((by simp [T.get_set]))) ?_
      intro e en' h' kp
      have he := kp.1
      subst he
      simp (disch := omega) only [evs, ↓reduceIte, Nat.reduceEqDiff, Nat.reduceAdd, Nat.reduceMul, Nat.reduceLeDiff, Nat.reduceLT, Int.reduceNeg, DF, eff, Nat.reduceSub, fwrap_i64]
      refine (fin _ ((by simp [T.get_set, g1])) ((by simp [T.get_set, g6])) ((by simp [T.get_set, g7])) ((by simp [T.get_set, g8])) ((by simp [T.get_set])) .norm en' h' kp _ ?_).2
      intro en2 h8 v' L' pm' q1 q6 q7 q8 F8 gl8 lo8 rf8 G8
      simp (disch := omega) only [evs, ↓reduceIte, Nat.reduceEqDiff, Nat.reduceAdd, Nat.reduceMul, Nat.reduceLeDiff, Nat.reduceLT, Int.reduceNeg, DF, eff, Nat.reduceSub, fwrap_i64, q1, q6, q7, q8]
      refine (roundQ_norm _ _ _).2 ⟨S.length - (j + 1), by omega, j + 1, L', v', pm', F8, gl8, (by simp [T.get_set, q1]), (by simp [T.get_set, q6]), (by simp [T.get_set, q7]), (by simp [T.get_set]), by omega, lo8, rf8, G8, rfl⟩
      done
  · have ej : j = S.length := by omega
    subst ej
    simp (disch := omega) only [evs, ↓reduceIte, Nat.reduceEqDiff, Nat.reduceAdd, Nat.reduceMul, Nat.reduceLeDiff, Nat.reduceLT, Int.reduceNeg, DF, eff, Nat.reduceSub, fwrap_i64, g1, g6, g7, g8, hlen, eq_false hlt]
    refine OQ_does (lives_ok gl) ?_
    rintro _ _ ⟨rfl, hh'⟩
    replace hh' := hh'.symm
    subst hh'
    simp (disch := omega) only [evs, ↓reduceIte, Nat.reduceEqDiff, Nat.reduceAdd, Nat.reduceMul, Nat.reduceLeDiff, Nat.reduceLT, Int.reduceNeg, DF, eff, Nat.reduceSub, fwrap_i64]
    exact ⟨b, hb0, FF⟩
end Go.Ev.Lay
