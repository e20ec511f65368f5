/- An evaluator of the program and contracts proved over it: the texts LayEa LayEb LayEc LayEd LayEe. -/
import Derived.Test.YtfhplbpjpmaoiaaGreatDoorLayK
set_option linter.unusedSimpArgs false
set_option linter.unusedVariables false
set_option linter.constructorNameAsVariable false
/- The nil layout: what each function answers. -/
namespace Go.Ev.Lay
set_option maxRecDepth 4000
theorem nilClamp {h : Heap} {view over x : Int} {lo : Bool} (w : WF h) : Does go 10 [.nilp, .agg [.int .i64 view, .int .i64 over, .bool lo], .int .i64 x] h fun u h' => u = .tup [.int .i64 0, .int .i64 2] ∧ Fr [] h h' := by
  obtain ⟨h1, e_h1⟩ : ∃ h1, h1 = halloc h [.int .i64 view, .int .i64 over, .bool lo] := ⟨_, rfl⟩
  have F_h1 : Fr [] h h1 := e_h1 ▸ Fr.halloc w _
  have o_h1 : Own h1 h.next [.int .i64 view, .int .i64 over, .bool lo] := e_h1 ▸ Own.new w _
  refine does_fn g10 rfl ?_
  simp (disch := omega) only [fn10, evs, ↓reduceIte, Nat.reduceEqDiff, Nat.reduceAdd, Nat.reduceMul, Nat.reduceLeDiff, Nat.reduceLT, Int.reduceNeg, DF, eff, Nat.reduceSub, fwrap_i64, ← e_h1]
  exact F_h1
theorem nilHead {h : Heap} {x : Int} : Does go 27 [.nilp, .int .i64 x] h fun u h' => u = .tup [.int .i64 0, .int .i64 2] ∧ h' = h := by
  refine does_fn g27 rfl ?_
  simp (disch := omega) only [fn27, evs, ↓reduceIte, Nat.reduceEqDiff, Nat.reduceAdd, Nat.reduceMul, Nat.reduceLeDiff, Nat.reduceLT, Int.reduceNeg, DF, eff, Nat.reduceSub, fwrap_i64]
theorem nilAt {h : Heap} {x : Int} : Does go 28 [.nilp, .int .i64 x] h fun u h' => u = .tup [.int .i64 0, .int .i64 0, .int .i64 2] ∧ h' = h := by
  refine does_fn g28 rfl ?_
  simp (disch := omega) only [fn28, evs, ↓reduceIte, Nat.reduceEqDiff, Nat.reduceAdd, Nat.reduceMul, Nat.reduceLeDiff, Nat.reduceLT, Int.reduceNeg, DF, eff, Nat.reduceSub, fwrap_i64]
theorem nilCopy {h : Heap} : Does go 33 [.nilp] h fun u h' => u = .nilp ∧ h' = h := by
  refine does_fn g33 rfl ?_
  simp (disch := omega) only [fn33, evs, ↓reduceIte, Nat.reduceEqDiff, Nat.reduceAdd, Nat.reduceMul, Nat.reduceLeDiff, Nat.reduceLT, Int.reduceNeg, DF, eff, Nat.reduceSub, fwrap_i64]
theorem nilLen {h : Heap} : Does go 42 [.nilp] h fun u h' => u = .int .i64 0 ∧ h' = h := by
  refine does_fn g42 rfl ?_
  simp (disch := omega) only [fn42, evs, ↓reduceIte, Nat.reduceEqDiff, Nat.reduceAdd, Nat.reduceMul, Nat.reduceLeDiff, Nat.reduceLT, Int.reduceNeg, DF, eff, Nat.reduceSub, fwrap_i64]
theorem nilTotal {h : Heap} : Does go 8 [.nilp] h fun u h' => u = .int .i64 0 ∧ h' = h := by
  refine does_fn g8 rfl ?_
  simp (disch := omega) only [fn8, evs, ↓reduceIte, Nat.reduceEqDiff, Nat.reduceAdd, Nat.reduceMul, Nat.reduceLeDiff, Nat.reduceLT, Int.reduceNeg, DF, eff, Nat.reduceSub, fwrap_i64]
theorem nilIns {h : Heap} {a : Int} {v v' : V} : Does go 9 [.nilp, .int .i64 a, v, v'] h fun u h' => u = .int .i64 2 ∧ h' = h := by
  refine does_fn g9 rfl ?_
  simp (disch := omega) only [fn9, evs, ↓reduceIte, Nat.reduceEqDiff, Nat.reduceAdd, Nat.reduceMul, Nat.reduceLeDiff, Nat.reduceLT, Int.reduceNeg, DF, eff, Nat.reduceSub, fwrap_i64]
theorem nilRem {h : Heap} {a n : Int} : Does go 36 [.nilp, .int .i64 a, .int .i64 n] h fun u h' => u = .int .i64 2 ∧ h' = h := by
  refine does_fn g36 rfl ?_
  simp (disch := omega) only [fn36, evs, ↓reduceIte, Nat.reduceEqDiff, Nat.reduceAdd, Nat.reduceMul, Nat.reduceLeDiff, Nat.reduceLT, Int.reduceNeg, DF, eff, Nat.reduceSub, fwrap_i64]
theorem nilMove {h : Heap} {a n t : Int} : Does go 38 [.nilp, .int .i64 a, .int .i64 n, .int .i64 t] h fun u h' => u = .int .i64 2 ∧ h' = h := by
  refine does_fn g38 rfl ?_
  simp (disch := omega) only [fn38, evs, ↓reduceIte, Nat.reduceEqDiff, Nat.reduceAdd, Nat.reduceMul, Nat.reduceLeDiff, Nat.reduceLT, Int.reduceNeg, DF, eff, Nat.reduceSub, fwrap_i64]
theorem nilSet {h : Heap} {a n : Int} {k : Bool} : Does go 40 [.nilp, .int .i64 a, .int .i64 n, .bool k] h fun u h' => u = .int .i64 2 ∧ h' = h := by
  refine does_fn g40 rfl ?_
  simp (disch := omega) only [fn40, evs, ↓reduceIte, Nat.reduceEqDiff, Nat.reduceAdd, Nat.reduceMul, Nat.reduceLeDiff, Nat.reduceLT, Int.reduceNeg, DF, eff, Nat.reduceSub, fwrap_i64]
theorem nilMark {h : Heap} {a : Int} {k : Bool} : Does go 41 [.nilp, .int .i64 a, .bool k] h fun u h' => u = .int .i64 2 ∧ h' = h := by
  refine does_fn g41 rfl ?_
  simp (disch := omega) only [fn41, evs, ↓reduceIte, Nat.reduceEqDiff, Nat.reduceAdd, Nat.reduceMul, Nat.reduceLeDiff, Nat.reduceLT, Int.reduceNeg, DF, eff, Nat.reduceSub, fwrap_i64]
theorem nilWindow {h : Heap} {view over x : Int} {lo : Bool} (w : WF h) : Does go 24 [.nilp, .agg [.int .i64 view, .int .i64 over, .bool lo], .int .i64 x] h fun u h' => u = .tup [.int .i64 0, .int .i64 0, .int .i64 2] ∧ Fr [] h h' := by
  obtain ⟨h1, e_h1⟩ : ∃ h1, h1 = halloc h [.int .i64 view, .int .i64 over, .bool lo] := ⟨_, rfl⟩
  have F_h1 : Fr [] h h1 := e_h1 ▸ Fr.halloc w _
  have o_h1 : Own h1 h.next [.int .i64 view, .int .i64 over, .bool lo] := e_h1 ▸ Own.new w _
  refine does_fn g24 rfl ?_
  simp (disch := omega) only [fn24, evs, ↓reduceIte, Nat.reduceEqDiff, Nat.reduceAdd, Nat.reduceMul, Nat.reduceLeDiff, Nat.reduceLT, Int.reduceNeg, DF, eff, Nat.reduceSub, fwrap_i64, ← e_h1, o_h1.ld]
  refine OQ_does (nilClamp F_h1.wf) ?_
  rintro _ h2 ⟨rfl, F2⟩
  simp (disch := omega) only [evs, ↓reduceIte, Nat.reduceEqDiff, Nat.reduceAdd, Nat.reduceMul, Nat.reduceLeDiff, Nat.reduceLT, Int.reduceNeg, DF, eff, Nat.reduceSub, fwrap_i64, eq_false (show ¬ (2 : Int) = 0 by omega)]
  exact F_h1.then F2
theorem nilSettle {h : Heap} {view over a d : Int} {lo : Bool} {v : V} (w : WF h) : Does go 14 [.nilp, .agg [.int .i64 view, .int .i64 over, .bool lo], .int .i64 a, .int .i64 d, v] h fun u h' => u = .tup [.int .i64 0, .int .i64 0, .int .i64 2] ∧ Fr [] h h' := by
  obtain ⟨h1, e_h1⟩ : ∃ h1, h1 = halloc h [.int .i64 view, .int .i64 over, .bool lo] := ⟨_, rfl⟩
  have F_h1 : Fr [] h h1 := e_h1 ▸ Fr.halloc w _
  have o_h1 : Own h1 h.next [.int .i64 view, .int .i64 over, .bool lo] := e_h1 ▸ Own.new w _
  refine does_fn g14 rfl ?_
  simp (disch := omega) only [fn14, evs, ↓reduceIte, Nat.reduceEqDiff, Nat.reduceAdd, Nat.reduceMul, Nat.reduceLeDiff, Nat.reduceLT, Int.reduceNeg, DF, eff, Nat.reduceSub, fwrap_i64, ← e_h1]
  refine W_scope0 ?_
  simp (disch := omega) only [evs, ↓reduceIte, Nat.reduceEqDiff, Nat.reduceAdd, Nat.reduceMul, Nat.reduceLeDiff, Nat.reduceLT, Int.reduceNeg, DF, eff, Nat.reduceSub, fwrap_i64]
  exact F_h1
end Go.Ev.Lay

/- Layouts: look. -/
namespace Go.Ev.Lay
set_option maxRecDepth 4000
/-- what a look makes of the rows: the error, the sizes, which are known, whether there was one that was not -/
def lookR (m : Int → Int) : List Int → List Int → List Bool → Bool → Int × List Int × List Bool × Bool
  | [], l, ks, mo => (0, l, ks, mo)
  | i :: A, l, ks, mo => if 0 ≤ i ∧ i < l.length then if ks.getD i.toNat false = true then lookR m A l ks mo else
      if xsetE l i (m i) = 0 then lookR m A (l.set i.toNat (m i)) (ks.set i.toNat true) true else (xsetE l i (m i), l, ks, mo) else (4, l, ks, mo)
/-- a frame that keeps every index -/
structure FrL (b : Nat) (h h' : Heap) : Prop where
  f : FrF b h h'
  ix : ∀ v l ks, Ix h v l ks → Ix h' v l ks
theorem FrL.trans {b : Nat} {h h1 h2 : Heap} (a : FrL b h h1) (c : FrL b h1 h2) : FrL b h h2 := ⟨a.f.trans c.f, fun v l ks i => c.ix v l ks (a.ix v l ks i)⟩
theorem frL {b : Nat} {h h' : Heap} (f : Fr [] h h') : FrL b h h' := ⟨frF f, fun _ _ _ i => i.fr f⟩
theorem nosp3 {x y z : V} : ∀ L : List (Int × Int), 0 < L.length → [x, y, z] ≠ L.flatMap sp := by
  intro L _ e
  have h1 := congrArg List.length e
  rw [flat_len (k := 2) (fun _ => rfl)] at h1
  simp at h1
  omega
theorem frLb {b : Nat} {h h' : Heap} {x y z : V} (f : Fr [b] h h') (o : Own h b [x, y, z]) : FrL b h h' := ⟨frFb f, fun _ _ _ i => i.frb f o (by simp) nosp3⟩
theorem i64_noflc (A : List Int) : ∀ n m ws, ws.length = 64 → A.map (V.int .i64) ≠ flc n m ws := by
  intro n m ws hl e
  cases ws with
  | nil => simp at hl
  | cons y ws =>
    have : uw y ∈ A.map (V.int .i64) := by rw [e]; simp [flc]
    simp [uw] at this
/-- the rows that are attached, as they lie -/
def Atl (h : Heap) (B : Nat) (v : V) (A : List Int) : Prop := (v = .nils ∧ A = []) ∨ ∃ c, v = .slice c 0 A.length A.length ∧ Own h c (A.map (V.int .i64)) ∧ B ≤ c
theorem Atl.ints {h : Heap} {B : Nat} {v : V} {A : List Int} (a : Atl h B v A) : Ints h v A := by
  rcases a with ⟨rfl, rfl⟩ | ⟨c, rfl, o, _⟩
  · exact (show Sl _ 1 _ _ _ from Recs.nil (f := ic))
  · exact Sl.lit o (by simp)
theorem Atl.fr {h h' : Heap} {B b : Nat} {v : V} {A : List Int} (a : Atl h B v A) (f : FrF b h h') (hb : b < B) : Atl h' B v A := by
  rcases a with x | ⟨c, e, o, q⟩
  · exact .inl x
  · exact .inr ⟨c, e, f.own _ _ (by omega) (i64_noflc A) o, q⟩
def AttL (l : List Int) (bs : List Bool) (view over s : Int) (A : List Int) : Prop := if l = [] then A = [] else AttS l bs view over s A
theorem att_range {l : List Int} {bs : List Bool} {view over s : Int} {A : List Int} (a : AttL l bs view over s A) (hl : bs.length = l.length) : ∀ i ∈ A, 0 ≤ i ∧ i < l.length := by
  unfold AttL at a
  split at a
  · subst a; simp
  · obtain ⟨hr, he, hs, rfl⟩ := a
    have f0 : 0 ≤ (winL l view over s).1 := by unfold winL; simp only []; omega
    have t0 : (winL l view over s).2 ≤ l.length := by unfold winL; simp only []; omega
    intro i hi
    rw [List.mem_append] at hi
    rcases hi with hi | hi
    · split at hi
      · rename_i c
        simp only [List.mem_singleton] at hi
        subst hi
        obtain ⟨_, _, p, rfl, hp⟩ := hs.zero c.1
        omega
      · simp at hi
    · simp only [rng, List.mem_map, List.mem_range] at hi
      obtain ⟨j, hj, rfl⟩ := hi
      omega
theorem att_len {l : List Int} {bs : List Bool} {view over s : Int} {A : List Int} (a : AttL l bs view over s A) : A.length ≤ l.length + 1 := by
  unfold AttL at a
  split at a
  · subst a; simp
  · obtain ⟨hr, he, hs, rfl⟩ := a
    have f0 : 0 ≤ (winL l view over s).1 := by unfold winL; simp only []; omega
    have t0 : (winL l view over s).2 ≤ l.length := by unfold winL; simp only []; omega
    rw [List.length_append, rng_len]
    split <;> simp <;> omega
theorem look_ok {h : Heap} {b N : Nat} {p pm : Option Nat} {vk : V} {l : List Int} {ks bs : List Bool} {s view over : Int} {lo : Bool} {m : Int → Int} (w : WF h) (g : Glb h) (o : Own h b [pv p, vk, pv pm]) (v1 : vk.one = true) (ix : Ix h (.agg [pv p, vk]) l ks)
    (mk : Mk h pm bs) (el : bs.length = l.length) (pos : ∀ x ∈ l, 1 ≤ x) (s0 : -9223372036854775808 ≤ s) (s1 : s ≤ 9223372036854775807) (ok : okF view over) (cl : clampL l view s = s)
    (hm : ∀ h i, 0 ≤ i → i < 1000000 → Does go N [.int .i64 i] h fun u h' => u = .int .i64 (m i) ∧ h' = h) (mb : ∀ i, -9223372036854775808 ≤ m i ∧ m i ≤ 9223372036854775807) :
    Does go 59 [.ptr b 0, .agg [.int .i64 view, .int .i64 over, .bool lo], .int .i64 s, .func (.func N) [] []] h fun u h' => ∃ A c d, AttL l bs view over s A ∧
      u = .tup [.bool (if (lookR m A l ks false).1 = 0 then (lookR m A l ks false).2.2.2 else false), .int .i64 (lookR m A l ks false).1] ∧ Own h' b [c, d, pv pm] ∧ c.one = true ∧ d.one = true ∧
      ((lookR m A l ks false).1 = 0 → Ix h' (.agg [c, d]) (lookR m A l ks false).2.1 (lookR m A l ks false).2.2.1) ∧ Mk h' pm bs ∧ FrL b h h' := by
  have a : Lo h b l ks bs := ⟨p, vk, pm, o, v1, ix, mk, el⟩
  have blt := o.lt w
  obtain ⟨h1, e_h1⟩ : ∃ h1, h1 = halloc h [.int .i64 view, .int .i64 over, .bool lo] := ⟨_, rfl⟩
  have F_h1 : Fr [] h h1 := e_h1 ▸ Fr.halloc w _
  have o_h1 : Own h1 h.next [.int .i64 view, .int .i64 over, .bool lo] := e_h1 ▸ Own.new w _
  refine does_fn g59 rfl ?_
  simp (disch := omega) only [fn59, evs, ↓reduceIte, Nat.reduceEqDiff, Nat.reduceAdd, Nat.reduceMul, Nat.reduceLeDiff, Nat.reduceLT, Int.reduceNeg, DF, eff, Nat.reduceSub, fwrap_i64, ← e_h1, o_h1.ld]
  refine OQ_does (LAtt_ok F_h1.wf (g.fr F_h1) (a.fr F_h1) pos s0 s1) ?_
  rintro u h2 ⟨F2, hu⟩
  have F12 := F_h1.then F2
  rw [if_pos ok, if_pos cl] at hu
  obtain ⟨A, rv, eu, at2, al⟩ : ∃ A rv, u = .tup [rv, .int .i64 0] ∧ Atl h2 h.next rv A ∧ AttL l bs view over s A := by
    unfold AttL
    by_cases c : l = []
    · rw [if_pos c] at hu
      exact ⟨[], .nils, hu, .inl ⟨rfl, rfl⟩, by rw [if_pos c]⟩
    · rw [if_neg c] at hu
      obtain ⟨A, q, e1, e2, e3, e4⟩ := hu
      exact ⟨A, _, e1, .inr ⟨q, rfl, e2, Nat.le_trans F_h1.next e3⟩, by rw [if_neg c]; exact e4⟩
  subst eu
  have lm := ix.fit.2.2
  have rg := att_range al el
  have len2 := at2.ints.len
  simp (disch := omega) only [evs, ↓reduceIte, Nat.reduceEqDiff, Nat.reduceAdd, Nat.reduceMul, Nat.reduceLeDiff, Nat.reduceLT, Int.reduceNeg, DF, eff, Nat.reduceSub, fwrap_i64, len2]
  have hA := att_len al
  refine W_loop (fun k env hh => ∃ (j : Nat) (p' : Option Nat) (vk' : V) (l' : List Int) (ks' : List Bool) (mo : Bool), env.get 29 = some (.int .i64 j) ∧ env.get 28 = some (.int .i64 A.length) ∧ env.get 27 = some rv ∧ env.get 0 = some (.ptr b 0) ∧ env.get 3 = some (.func (.func N) [] []) ∧ env.get 12 = some (.bool mo) ∧
    j ≤ A.length ∧ l'.length = l.length ∧ lookR m A l ks false = lookR m (A.drop j) l' ks' mo ∧ Own hh b [pv p', vk', pv pm] ∧ vk'.one = true ∧ Ix hh (.agg [pv p', vk']) l' ks' ∧ Mk hh pm bs ∧ FrL b h hh ∧ Atl hh h.next rv A ∧ k = A.length - j) A.length (by omega) ?_ ?_
  · exact ⟨0, p, vk, l, ks, false, (by simp [T.get_set]), (by simp [T.get_set]), (by simp [T.get_set]), (by simp [T.get_set]), (by simp [T.get_set]), (by simp [T.get_set]), by omega, rfl, rfl, F12.get o, v1, ix.fr F12, mk.fr F12, frL F12, at2, rfl⟩
  rintro k env hh ⟨j, p', vk', l', ks', mo, g29, g28, g27, g0, g3, g12, hj, ll, lr, oo, vv, ii, mm, FF, at', rfl⟩
  by_cases hlt : (j : Int) < A.length
  · obtain ⟨bb, ob, x, e1, e2, e3⟩ := at'.ints.ix .i64 j (by omega) hlt
    simp only [Int.toNat_natCast] at e3
    have rx := rg x (List.mem_of_getElem? e3)
    have dr : A.drop j = x :: A.drop (j + 1) := by
      have hj' : j < A.length := by omega
      rw [List.drop_eq_getElem_cons hj']
      congr 1
      rw [List.getElem?_eq_getElem hj'] at e3
      exact Option.some.inj e3
    have e2' : hload1 hh bb ob = some (.int .i64 x) := e2
    simp (disch := omega) only [evs, ↓reduceIte, Nat.reduceEqDiff, Nat.reduceAdd, Nat.reduceMul, Nat.reduceLeDiff, Nat.reduceLT, Int.reduceNeg, DF, eff, Nat.reduceSub, fwrap_i64, g29, g28, g27, g0, g3, g12, hlt, e1, e2', oo.ld]
    refine OQ_does (XKnown_ok FF.f.wf ii) ?_
    rintro _ h3 ⟨rfl, F3⟩
    rw [if_pos ⟨rx.1, by rw [ll]; exact rx.2⟩]
    have L3 : FrL b h h3 := FF.trans (frL F3)
    cases hk : ks'.getD x.toNat false
    · have lr1 : lookR m A l ks false = if xsetE l' x (m x) = 0 then lookR m (A.drop (j + 1)) (l'.set x.toNat (m x)) (ks'.set x.toNat true) true else (xsetE l' x (m x), l', ks', mo) := by
        rw [lr, dr, lookR, if_pos ⟨rx.1, by rw [ll]; exact rx.2⟩, hk]; rfl
      simp (disch := omega) only [evs, ↓reduceIte, Nat.reduceEqDiff, Nat.reduceAdd, Nat.reduceMul, Nat.reduceLeDiff, Nat.reduceLT, Int.reduceNeg, DF, eff, Nat.reduceSub, fwrap_i64, g29, g28, g27, g0, g3, g12, (F3.get oo).ld]
      refine OQ_does (hm h3 x rx.1 (by omega)) ?_
      rintro _ _ ⟨rfl, hh⟩
      replace hh := hh.symm
      subst hh
      simp (disch := omega) only [evs, ↓reduceIte, Nat.reduceEqDiff, Nat.reduceAdd, Nat.reduceMul, Nat.reduceLeDiff, Nat.reduceLT, Int.reduceNeg, DF, eff, Nat.reduceSub, fwrap_i64, g29, g28, g27, g0, g3, g12, (F3.get oo).ld]
      refine OQ_does (XSet_ok F3.wf (ii.fr F3) (mb x).1 (mb x).2 (by omega) (by omega)) ?_
      rintro _ h4 ⟨F4, c, d, rfl, hc, hd, hx⟩
      simp (disch := omega) only [evs, ↓reduceIte, Nat.reduceEqDiff, Nat.reduceAdd, Nat.reduceMul, Nat.reduceLeDiff, Nat.reduceLT, Int.reduceNeg, DF, eff, Nat.reduceSub, fwrap_i64, g29, g28, g27, g0, g3, g12, (F3.get oo).ld]
      refine store_step (c' := [c, d, pv pm]) F4.wf ((F3.then F4).get oo) rfl (by simp [onesB, V.cells, hc, hd]) rfl ?_
      rintro h5 o5 F5 n5
      have L4 : FrL b h h4 := L3.trans (frL F4)
      have L5 : FrL b h h5 := L4.trans (frLb F5 ((F3.then F4).get oo))
      have m5 : Mk h5 pm bs := ((mm.fr (F3.then F4))).frb F5 ((F3.then F4).get oo) rfl
      by_cases z : xsetE l' x (m x) = 0
      · rw [if_pos z] at lr1
        simp (disch := omega) only [evs, ↓reduceIte, Nat.reduceEqDiff, Nat.reduceAdd, Nat.reduceMul, Nat.reduceLeDiff, Nat.reduceLT, Int.reduceNeg, DF, eff, Nat.reduceSub, fwrap_i64, g29, g28, g27, g0, g3, g12, (F3.get oo).ld, eq_true z]
        have i4 := hx z
        obtain ⟨p5, rfl⟩ := i4.form
        have i5 := i4.frb F5 ((F3.then F4).get oo) (by simp) nosp3
        refine (roundQ_norm _ _ _).2 ⟨A.length - (j + 1), by omega, j + 1, p5, d, _, _, true, (by simp [T.get_set]), (by simp [T.get_set, g28]), (by simp [T.get_set, g27]), (by simp [T.get_set, g0]), (by simp [T.get_set, g3]), (by simp [T.get_set]), by omega, by simpa using ll, lr1, o5, hd, i5, m5, L5, (at'.fr (frF (F3.then F4)) blt).fr (frFb F5) blt, rfl⟩
        done
      · rw [if_neg z] at lr1
        simp (disch := omega) only [evs, ↓reduceIte, Nat.reduceEqDiff, Nat.reduceAdd, Nat.reduceMul, Nat.reduceLeDiff, Nat.reduceLT, Int.reduceNeg, DF, eff, Nat.reduceSub, fwrap_i64, g29, g28, g27, g0, g3, g12, (F3.get oo).ld, eq_false z]
        refine ⟨A, c, d, al, ?_, o5, hc, hd, fun q => ?_, m5, L5⟩
        · rw [lr1]; simp [z]
        · rw [lr1] at q; exact absurd q z
    · have lr1 : lookR m A l ks false = lookR m (A.drop (j + 1)) l' ks' mo := by
        rw [lr, dr, lookR, if_pos ⟨rx.1, by rw [ll]; exact rx.2⟩, if_pos hk]
      simp (disch := omega) only [evs, ↓reduceIte, Nat.reduceEqDiff, Nat.reduceAdd, Nat.reduceMul, Nat.reduceLeDiff, Nat.reduceLT, Int.reduceNeg, DF, eff, Nat.reduceSub, fwrap_i64, g29, g28, g27, g0, g3, g12, (F3.get oo).ld]
      refine (roundQ_norm _ _ _).2 ⟨A.length - (j + 1), by omega, j + 1, p', vk', l', ks', mo, (by simp [T.get_set]), (by simp [T.get_set, g28]), (by simp [T.get_set, g27]), (by simp [T.get_set, g0]), (by simp [T.get_set, g3]), (by simp [T.get_set, g12]), by omega, ll, lr1, F3.get oo, vv, ii.fr F3, mm.fr F3, L3, at'.fr (frF F3) blt, rfl⟩
      done
  · have ej : j = A.length := by omega
    have lr1 : lookR m A l ks false = (0, l', ks', mo) := by
      rw [lr, ej, List.drop_length]; rfl
    simp (disch := omega) only [evs, ↓reduceIte, Nat.reduceEqDiff, Nat.reduceAdd, Nat.reduceMul, Nat.reduceLeDiff, Nat.reduceLT, Int.reduceNeg, DF, eff, Nat.reduceSub, fwrap_i64, g29, g28, g27, g0, g3, g12, hlt]
    refine ⟨A, pv p', vk', al, ?_, oo, ?_, vv, fun _ => ?_, mm, FF⟩
    · rw [lr1]; simp
    · cases p' <;> rfl
    · rw [lr1]; exact ii
end Go.Ev.Lay

/- printed by cut2.py: parts of fn14 -/
namespace Go.Ev.Lay
def setl2 : IC := (.seq (.seq (.ops [⟨none, .p (.ib .eql) [.v 12, .c (.int .i64 0)], some 73⟩]) (.cond (.v 73) (.ops [⟨none, .ld 3 true (.v 6), none⟩, ⟨none, .p .mv [.v 10], none⟩, ⟨none, .cf 10 [.v 0, .l 1, .l 0], none⟩, ⟨none, .p (.ext 0) [.l 0], none⟩, ⟨none, .p (.ext 1) [.l 1], none⟩, ⟨none, .p .mv [.l 1], some 10⟩, ⟨none, .p .mv [.l 0], some 12⟩]) (.skip))) (.seq (.seq (.ops [⟨none, .p (.ib .eql) [.v 12, .c (.int .i64 0)], some 82⟩]) (.cond (.v 82) (.ops [⟨none, .ld 3 true (.v 6), none⟩, ⟨none, .cf 59 [.v 0, .l 0, .v 10, .v 4], none⟩, ⟨none, .p (.ext 0) [.l 0], none⟩, ⟨none, .p (.ext 1) [.l 1], none⟩, ⟨none, .p .mv [.l 1], some 14⟩, ⟨none, .p .mv [.l 0], some 12⟩]) (.skip))) (.seq (.seq (.ops [⟨none, .p (.ib .neq) [.v 12, .c (.int .i64 0)], some 92⟩]) (.cond (.v 92) (.seq (.ops [⟨none, .ld 2 true (.v 13), none⟩, ⟨none, .p .nilck [.v 0], none⟩, ⟨none, .p (.faddr 0) [.l 0], none⟩, ⟨none, .st 2 (.l 0) (.l 2), none⟩]) (.seq (.ops [⟨none, .p .mv [.v 12], none⟩, ⟨none, .p .mv [.c (.int .i64 0)], some 10⟩, ⟨none, .p .mv [.c (.int .i64 0)], some 11⟩, ⟨none, .p .mv [.l 0], some 12⟩]) (.ret))) (.skip))) (.seq (.seq (.ops [⟨none, .p .mv [.v 14], some 98⟩]) (.cond (.v 98) (.seq (.ops [⟨none, .p .mv [.v 11], none⟩, ⟨none, .p (.ib .add) [.l 0, .c (.int .i64 1)], none⟩, ⟨none, .p .mv [.l 0], some 11⟩]) (.goto 0)) (.skip))) (.seq (.ops [⟨none, .p .mv [.v 10], none⟩, ⟨none, .p .mv [.v 11], none⟩, ⟨none, .p .mv [.l 1], some 10⟩, ⟨none, .p .mv [.l 0], some 11⟩, ⟨none, .p .mv [.c (.int .i64 0)], some 12⟩]) (.ret))))))
def setl : IC := (.seq (.skip) (.seq (.seq (.ops [⟨none, .p (.ib .geq) [.v 2, .c (.int .i64 0)], none⟩, ⟨(some (.l 0, true)), .p .mv [.v 11], none⟩, ⟨(some (.l 1, true)), .p (.ib .eql) [.l 0, .c (.int .i64 0)], none⟩, ⟨(some (.l 2, true)), .p .mv [.l 0], none⟩, ⟨(some (.l 0, false)), .p (.faddr 2) [.v 6], none⟩, ⟨(some (.l 1, false)), .ld 1 false (.l 0), none⟩, ⟨(some (.l 2, false)), .p .not [.l 0], none⟩, ⟨(some (.l 6, true)), .p .pick [.l 3, .c (.bool true), .l 0], none⟩, ⟨none, .p .pick [.l 7, .l 0, .c (.bool false)], some 57⟩]) (.cond (.v 57) (.seq (.ops [⟨none, .p .nilck [.v 0], none⟩, ⟨none, .p (.faddr 0) [.l 0], none⟩, ⟨none, .ld 2 true (.l 0), none⟩, ⟨none, .cf 57 [.l 0, .v 2], none⟩, ⟨none, .p (.ext 0) [.l 0], none⟩, ⟨none, .p (.ext 1) [.l 1], none⟩, ⟨none, .p .mv [.l 1], some 10⟩, ⟨none, .p .mv [.l 0], some 12⟩]) (.seq (.ops [⟨none, .p (.ib .eql) [.v 12, .c (.int .i64 0)], some 68⟩]) (.cond (.v 68) (.ops [⟨none, .p .mv [.v 10], none⟩, ⟨none, .p (.ib .add) [.l 0, .v 3], none⟩, ⟨none, .p .mv [.l 0], some 10⟩]) (.skip)))) (.skip))) setl2))
def fn14x : IFn := ⟨5, .seq (.ops [⟨none, .bx (.v 1), some 6⟩, ⟨none, .p .mv [.c (.int .i64 0)], some 10⟩, ⟨none, .p .mv [.c (.int .i64 0)], some 11⟩, ⟨none, .p .mv [.c (.int .i64 0)], some 12⟩]) (.scope (.seq (.block 0 (.seq (.ops [⟨none, .p (.nil 0 false) [.v 0, .c .nilp], none⟩, ⟨none, .p .mv [.l 0], some 15⟩]) (.cond (.v 15) (.seq (.ops [⟨none, .p .mv [.c (.int .i64 0)], some 10⟩, ⟨none, .p .mv [.c (.int .i64 0)], some 11⟩, ⟨none, .p .mv [.c (.int .i64 2)], some 12⟩]) (.ret)) (.seq (.ops [⟨none, .ld 3 true (.v 6), none⟩, ⟨none, .cf 52 [.l 0], none⟩, ⟨none, .p .not [.l 0], none⟩, ⟨(some (.l 0, false)), .p .mv [.v 4], none⟩, ⟨(some (.l 1, false)), .p (.nil 3 false) [.l 0, .c .nilf], none⟩, ⟨none, .p .pick [.l 2, .c (.bool true), .l 0], none⟩, ⟨none, .p .mv [.l 0], some 18⟩]) (.cond (.v 18) (.seq (.ops [⟨none, .p .mv [.c (.int .i64 0)], some 10⟩, ⟨none, .p .mv [.c (.int .i64 0)], some 11⟩, ⟨none, .p .mv [.c (.int .i64 1)], some 12⟩]) (.ret)) (.seq (.ops [⟨none, .p (.ib .lss) [.v 2, .c (.int .i64 (-1))], none⟩, ⟨(some (.l 0, false)), .p .mv [.v 2], none⟩, ⟨(some (.l 1, false)), .p .mv [.v 0], none⟩, ⟨(some (.l 2, false)), .cf 42 [.l 0], none⟩, ⟨(some (.l 3, false)), .p (.ib .geq) [.l 2, .l 0], none⟩, ⟨none, .p .pick [.l 4, .c (.bool true), .l 0], none⟩, ⟨(some (.l 0, false)), .p .mv [.v 3], none⟩, ⟨(some (.l 1, false)), .p (.ib .lss) [.l 0, .c (.int .i64 0)], none⟩, ⟨none, .p .pick [.l 2, .c (.bool true), .l 0], none⟩, ⟨(some (.l 0, false)), .p .mv [.v 3], none⟩, ⟨(some (.l 1, false)), .p (.ib .gtr) [.l 0, .c (.int .i64 2305843009213693952)], none⟩, ⟨none, .p .pick [.l 2, .c (.bool true), .l 0], none⟩, ⟨none, .p .mv [.l 0], some 26⟩]) (.cond (.v 26) (.seq (.ops [⟨none, .p .mv [.c (.int .i64 0)], some 10⟩, ⟨none, .p .mv [.c (.int .i64 0)], some 11⟩, ⟨none, .p .mv [.c (.int .i64 4)], some 12⟩]) (.ret)) (.skip)))))))) (.seq (.ops [⟨none, .p .nilck [.v 0], none⟩, ⟨none, .p (.faddr 0) [.l 0], none⟩, ⟨none, .ld 2 true (.l 0), none⟩, ⟨none, .al [.nilp, .nils], some 13⟩, ⟨none, .st 2 (.v 13) (.l 0), none⟩]) (.seq (.ops [⟨none, .p .mv [.c (.bool false)], some 14⟩]) setl))) 0 setl), [.t 10, .t 11, .t 12], [0, 1, 2, 3, 4, 6, 10, 11, 12, 13, 14, 15, 18, 26, 57, 68, 73, 82, 92, 98]⟩
theorem g14x : F.get 14 = some fn14x := rfl
end Go.Ev.Lay

/- Layouts: Settle. -/
namespace Go.Ev.Lay
set_option maxRecDepth 4000
theorem xset_zero {l : List Int} {i x : Int} (h : xsetE l i x = 0) : 0 ≤ i ∧ i < l.length ∧ 1 ≤ x ∧ x ≤ 2305843009213693952 := by
  unfold xsetE at h
  split at h
  · rename_i c
    split at h
    · omega
    · omega
  · omega
theorem lookR_spec (m : Int → Int) : ∀ (A l : List Int) (ks : List Bool) (mo : Bool), ks.length = l.length → (∀ x ∈ l, 1 ≤ x) →
    (lookR m A l ks mo).2.1.length = l.length ∧ (lookR m A l ks mo).2.2.1.length = ks.length ∧ (∀ x ∈ (lookR m A l ks mo).2.1, 1 ≤ x) ∧ (lookR m A l ks mo).2.2.1.count false ≤ ks.count false ∧
    ((lookR m A l ks mo).2.2.2 = true → mo = true ∨ (lookR m A l ks mo).2.2.1.count false < ks.count false)
  | [], l, ks, mo, _, hp => ⟨rfl, rfl, hp, Nat.le_refl _, fun h => .inl h⟩
  | i :: A, l, ks, mo, hl, hp => by
    rw [lookR]
    by_cases c1 : 0 ≤ i ∧ i < l.length
    · rw [if_pos c1]
      by_cases c2 : ks.getD i.toNat false = true
      · rw [if_pos c2]; exact lookR_spec m A l ks mo hl hp
      · rw [if_neg c2]
        by_cases c3 : xsetE l i (m i) = 0
        · rw [if_pos c3]
          obtain ⟨_, _, x1, _⟩ := xset_zero c3
          have hi : i.toNat < ks.length := by omega
          have hk : ks[i.toNat] = false := by
            have : ks.getD i.toNat false = ks[i.toNat] := by simp [List.getD, hi]
            rw [this] at c2; simpa using c2
          have hc := List.count_set (a := true) (b := false) (l := ks) hi
          rw [hk] at hc
          simp at hc
          have hpos : 0 < ks.count false := List.count_pos_iff.2 (by rw [← hk]; exact List.getElem_mem hi)
          have ih := lookR_spec m A (l.set i.toNat (m i)) (ks.set i.toNat true) true (by simpa using hl) (fun x hx => by
            rcases List.mem_or_eq_of_mem_set hx with q | q
            · exact hp x q
            · omega)
          obtain ⟨a1, a2, a3, a4, _⟩ := ih
          refine ⟨by simpa using a1, by simpa using a2, a3, by omega, fun _ => .inr (by omega)⟩
        · rw [if_neg c3]; exact ⟨rfl, rfl, hp, Nat.le_refl _, fun h => .inl h⟩
    · rw [if_neg c1]; exact ⟨rfl, rfl, hp, Nat.le_refl _, fun h => .inl h⟩
structure SS (h : Heap) (env : T V) (b fb bb N : Nat) (p0 pm : Option Nat) (vk0 : V) (l0 : List Int) (ks0 bs : List Bool) (view over anchor delta : Int) (lo : Bool) (r : Nat) (l : List Int) (ks : List Bool) : Prop where
  wf : WF h
  glb : Glb h
  ob : ∃ p vk, Own h b [pv p, vk, pv pm] ∧ vk.one = true ∧ Ix h (.agg [pv p, vk]) l ks
  ms : Mk h pm bs
  el : bs.length = l.length
  pos : ∀ x ∈ l, 1 ≤ x
  fo : Own h fb [.int .i64 view, .int .i64 over, .bool lo]
  bo : Own h bb [pv p0, vk0]
  v0 : vk0.one = true
  ix0 : Ix h (.agg [pv p0, vk0]) l0 ks0
  el0 : bs.length = l0.length
  fne : fb ≠ b
  bne : bb ≠ b
  zne : 0 ≠ b
  g0 : env.get 0 = some (.ptr b 0)
  g2 : env.get 2 = some (.int .i64 anchor)
  g3 : env.get 3 = some (.int .i64 delta)
  g4 : env.get 4 = some (.func (.func N) [] [])
  g6 : env.get 6 = some (.ptr fb 0)
  g11 : env.get 11 = some (.int .i64 r)
  g12 : env.get 12 = some (.int .i64 0)
  g13 : env.get 13 = some (.ptr bb 0)
theorem len_noflc {c : List V} (h : c.length < 60) : ∀ n m ws, ws.length = 64 → c ≠ flc n m ws := by
  intro n m ws hl e
  have := congrArg List.length e
  simp [flc, hl] at this
  omega
theorem clamp_idem (l : List Int) (view s : Int) : clampL l view (clampL l view s) = clampL l view s := by unfold clampL; omega
theorem part2_ok {h : Heap} {env : T V} {b fb bb N r : Nat} {p0 pm : Option Nat} {vk0 : V} {l0 l : List Int} {ks0 bs ks : List Bool} {view over anchor delta s : Int} {lo : Bool} {m : Int → Int} {Q : Ex → T V → Heap → Prop}
    (S : SS h env b fb bb N p0 pm vk0 l0 ks0 bs view over anchor delta lo r l ks) (g10 : env.get 10 = some (.int .i64 s)) (ok : okF view over) (hr : r < 1000000)
    (hm : ∀ h i, 0 ≤ i → i < 1000000 → Does go N [.int .i64 i] h fun u h' => u = .int .i64 (m i) ∧ h' = h) (mb : ∀ i, -9223372036854775808 ≤ m i ∧ m i ≤ 9223372036854775807)
    (Kbad : ∀ env' h' A, AttL l bs view over (clampL l view s) A → (lookR m A l ks false).1 ≠ 0 → env'.get 10 = some (.int .i64 0) → env'.get 11 = some (.int .i64 0) → env'.get 12 = some (.int .i64 (lookR m A l ks false).1) → Lo h' b l0 ks0 bs → FrL b h h' → Q .ret env' h')
    (Kdone : ∀ env' h' A l' ks', AttL l bs view over (clampL l view s) A → lookR m A l ks false = (0, l', ks', false) → env'.get 10 = some (.int .i64 (clampL l view s)) → env'.get 11 = some (.int .i64 r) → env'.get 12 = some (.int .i64 0) → Lo h' b l' ks' bs → FrL b h h' → Q .ret env' h')
    (Kmore : ∀ env' h' A l' ks', AttL l bs view over (clampL l view s) A → lookR m A l ks false = (0, l', ks', true) → SS h' env' b fb bb N p0 pm vk0 l0 ks0 bs view over anchor delta lo (r + 1) l' ks' → env'.get 10 = some (.int .i64 (clampL l view s)) → FrL b h h' → Q (.goto 0) env' h') :
    W go setl2 env h Q := by
  obtain ⟨wf, glb, ⟨p, vk, o, v1, ix⟩, mk, el, pos, fo, bo, v0, ix0, el0, fne, bne, zne, g0, g2, g3, g4, g6, g11, g12, g13⟩ := S
  have a : Lo h b l ks bs := ⟨p, vk, pm, o, v1, ix, mk, el⟩
  have fit := ix.fit
  have f1 := fit.nn
  have f2 := fit.2.1
  simp (disch := omega) only [evs, ↓reduceIte, Nat.reduceEqDiff, Nat.reduceAdd, Nat.reduceMul, Nat.reduceLeDiff, Nat.reduceLT, Int.reduceNeg, DF, eff, Nat.reduceSub, fwrap_i64, setl2, g12, g6, g10, g0, fo.ld]
  refine OQ_does (LClamp_ok wf a) ?_
  rintro _ h1 ⟨rfl, F1⟩
  rw [if_pos ok]
  obtain ⟨s', hs'⟩ : ∃ s', s' = clampL l view s := ⟨_, rfl⟩
  rw [← hs'] at Kbad Kdone Kmore ⊢
  have sb : 0 ≤ s' ∧ s' ≤ 4611686018427387904 := by rw [hs']; unfold clampL; have := ok.1; omega
  have ci : clampL l view s' = s' := by rw [hs']; exact clamp_idem _ _ _
  simp (disch := omega) only [evs, ↓reduceIte, Nat.reduceEqDiff, Nat.reduceAdd, Nat.reduceMul, Nat.reduceLeDiff, Nat.reduceLT, Int.reduceNeg, DF, eff, Nat.reduceSub, fwrap_i64, g12, g6, g10, g0, g4, (F1.get fo).ld]
  refine OQ_does (look_ok F1.wf (glb.fr F1) (F1.get o) v1 (ix.fr F1) (mk.fr F1) el pos (by omega) (by omega) ok ci hm mb) ?_
  rintro _ h2 ⟨A, c, d, al, rfl, o2, hc, hd, hx, mk2, L2⟩
  have L02 : FrL b h h2 := (frL F1).trans L2
  have ff2 := L02.f.own _ _ fne (len_noflc (by simp)) fo
  have bb2 := L02.f.own _ _ bne (len_noflc (by simp)) bo
  have i02 := L02.ix _ _ _ ix0
  have g2' := glb.frF L02.f zne
  have sp := lookR_spec m A l ks false ix.len.1 pos
  obtain ⟨l', ks', mo, e, he⟩ : ∃ l' ks' mo e, lookR m A l ks false = (e, l', ks', mo) := ⟨_, _, _, _, rfl⟩
  have Kb := Kbad
  rw [he] at sp hx ⊢
  simp only [] at sp hx ⊢
  by_cases z : e = 0
  · subst z
    have i2 := hx rfl
    obtain ⟨p2, rfl⟩ := i2.form
    cases mo
    · simp (disch := omega) only [evs, ↓reduceIte, Nat.reduceEqDiff, Nat.reduceAdd, Nat.reduceMul, Nat.reduceLeDiff, Nat.reduceLT, Int.reduceNeg, DF, eff, Nat.reduceSub, fwrap_i64, g12, g6, g10, g0, g4, g11, g13]
      exact Kdone _ _ A l' ks' al he (by simp [T.get_set]) (by simp [T.get_set, g11]) (by simp [T.get_set]) ⟨p2, d, pm, o2, hd, i2, mk2, by omega⟩ L02
    · simp (disch := omega) only [evs, ↓reduceIte, Nat.reduceEqDiff, Nat.reduceAdd, Nat.reduceMul, Nat.reduceLeDiff, Nat.reduceLT, Int.reduceNeg, DF, eff, Nat.reduceSub, fwrap_i64, g12, g6, g10, g0, g4, g11, g13]
      refine Kmore _ _ A l' ks' al he ⟨L02.f.wf, g2', ⟨p2, d, o2, hd, i2⟩, mk2, by omega, sp.2.2.1, ff2, bb2, v0, i02, el0, fne, bne, zne, (by simp [T.get_set, g0]), (by simp [T.get_set, g2]), (by simp [T.get_set, g3]), (by simp [T.get_set, g4]), (by simp [T.get_set, g6]), (by simp [T.get_set]), (by simp [T.get_set]), (by simp [T.get_set, g13])⟩ (by simp [T.get_set]) L02
  · simp (disch := omega) only [evs, ↓reduceIte, Nat.reduceEqDiff, Nat.reduceAdd, Nat.reduceMul, Nat.reduceLeDiff, Nat.reduceLT, Int.reduceNeg, DF, eff, Nat.reduceSub, fwrap_i64, g12, g6, g10, g0, g4, g11, g13, eq_false z, bb2.ld]
    refine store_step (c' := [pv p0, vk0, pv pm]) L02.f.wf o2 rfl (by simp [onesB, V.cells, pv_one, v0]) rfl ?_
    rintro h3 o3 F3 n3
    simp (disch := omega) only [evs, ↓reduceIte, Nat.reduceEqDiff, Nat.reduceAdd, Nat.reduceMul, Nat.reduceLeDiff, Nat.reduceLT, Int.reduceNeg, DF, eff, Nat.reduceSub, fwrap_i64]
    refine Kbad _ _ A al (by rw [he]; exact z) (by simp [T.get_set]) (by simp [T.get_set]) (by rw [he]; simp [T.get_set]) ⟨p0, vk0, pm, o3, v0, i02.frb F3 o2 (by simp) nosp3, mk2.frb F3 o2 rfl, el0⟩ (L02.trans (frLb F3 o2))
end Go.Ev.Lay

/- Layouts: Settle, whole. -/
namespace Go.Ev.Lay
set_option maxRecDepth 4000
/-- the offset of a round -/
def sAt (l : List Int) (view anchor delta : Int) (lo : Bool) (r : Nat) (s : Int) : Int := clampL l view (if 0 ≤ anchor ∧ (r = 0 ∨ lo = false) then (l.take anchor.toNat).sum + delta else s)
/-- settling, from a round on -/
inductive SetS (m : Int → Int) (bs : List Bool) (view over anchor delta : Int) (lo : Bool) : Int → Nat → List Int → List Bool → Int → Int → Int → List Int → List Bool → Prop
  | bad {s : Int} {r : Nat} {l : List Int} {ks : List Bool} {A l' : List Int} {ks' : List Bool} : AttL l bs view over (sAt l view anchor delta lo r s) A → (lookR m A l ks false).1 ≠ 0 → SetS m bs view over anchor delta lo s r l ks 0 0 (lookR m A l ks false).1 l' ks'
  | done {s : Int} {r : Nat} {l : List Int} {ks : List Bool} {A l' : List Int} {ks' : List Bool} : AttL l bs view over (sAt l view anchor delta lo r s) A → lookR m A l ks false = (0, l', ks', false) → SetS m bs view over anchor delta lo s r l ks (sAt l view anchor delta lo r s) r 0 l' ks'
  | more {s : Int} {r : Nat} {l : List Int} {ks : List Bool} {A l' : List Int} {ks' : List Bool} {s2 n2 e2 : Int} {l2 : List Int} {ks2 : List Bool} : AttL l bs view over (sAt l view anchor delta lo r s) A → lookR m A l ks false = (0, l', ks', true) →
      SetS m bs view over anchor delta lo (sAt l view anchor delta lo r s) (r + 1) l' ks' s2 n2 e2 l2 ks2 → SetS m bs view over anchor delta lo s r l ks s2 n2 e2 l2 ks2
theorem round_ok {h : Heap} {env : T V} {b fb bb N r : Nat} {p0 pm : Option Nat} {vk0 : V} {l0 l : List Int} {ks0 bs ks : List Bool} {view over anchor delta s : Int} {lo : Bool} {m : Int → Int} {Q : Ex → T V → Heap → Prop}
    (S : SS h env b fb bb N p0 pm vk0 l0 ks0 bs view over anchor delta lo r l ks) (g10 : env.get 10 = some (.int .i64 s)) (ok : okF view over) (hr : r < 1000000) (ha : anchor < l.length) (d0 : 0 ≤ delta) (d1 : delta ≤ 2305843009213693952)
    (hm : ∀ h i, 0 ≤ i → i < 1000000 → Does go N [.int .i64 i] h fun u h' => u = .int .i64 (m i) ∧ h' = h) (mb : ∀ i, -9223372036854775808 ≤ m i ∧ m i ≤ 9223372036854775807)
    (Kbad : ∀ env' h' A, AttL l bs view over (sAt l view anchor delta lo r s) A → (lookR m A l ks false).1 ≠ 0 → env'.get 10 = some (.int .i64 0) → env'.get 11 = some (.int .i64 0) → env'.get 12 = some (.int .i64 (lookR m A l ks false).1) → Lo h' b l0 ks0 bs → FrL b h h' → Q .ret env' h')
    (Kdone : ∀ env' h' A l' ks', AttL l bs view over (sAt l view anchor delta lo r s) A → lookR m A l ks false = (0, l', ks', false) → env'.get 10 = some (.int .i64 (sAt l view anchor delta lo r s)) → env'.get 11 = some (.int .i64 r) → env'.get 12 = some (.int .i64 0) → Lo h' b l' ks' bs → FrL b h h' → Q .ret env' h')
    (Kmore : ∀ env' h' A l' ks', AttL l bs view over (sAt l view anchor delta lo r s) A → lookR m A l ks false = (0, l', ks', true) → SS h' env' b fb bb N p0 pm vk0 l0 ks0 bs view over anchor delta lo (r + 1) l' ks' → env'.get 10 = some (.int .i64 (sAt l view anchor delta lo r s)) → FrL b h h' → Q (.goto 0) env' h') :
    W go setl env h Q := by
  have S0 := S
  obtain ⟨wf, glb, ⟨p, vk, o, v1, ix⟩, mk, el, pos, fo, bo, v0, ix0, el0, fne, bne, zne, g0, g2, g3, g4, g6, g11, g12, g13⟩ := S
  have fit := ix.fit
  have f2 := fit.2.1
  unfold sAt at Kbad Kdone Kmore
  by_cases ca : 0 ≤ anchor
  · have top : 0 ≤ anchor ∧ (r = 0 ∨ lo = false) → W go (.seq (.ops [⟨none, .p .nilck [.v 0], none⟩, ⟨none, .p (.faddr 0) [.l 0], none⟩, ⟨none, .ld 2 true (.l 0), none⟩, ⟨none, .cf 57 [.l 0, .v 2], none⟩, ⟨none, .p (.ext 0) [.l 0], none⟩, ⟨none, .p (.ext 1) [.l 1], none⟩, ⟨none, .p .mv [.l 1], some 10⟩, ⟨none, .p .mv [.l 0], some 12⟩]) (.seq (.ops [⟨none, .p (.ib .eql) [.v 12, .c (.int .i64 0)], some 68⟩]) (.cond (.v 68) (.ops [⟨none, .p .mv [.v 10], none⟩, ⟨none, .p (.ib .add) [.l 0, .v 3], none⟩, ⟨none, .p .mv [.l 0], some 10⟩]) (.skip)))) (env.set 57 (.bool true)) h (thenQ go setl2 Q) := by
      intro c
      rw [if_pos c] at Kbad Kdone Kmore
      have b1 : 0 ≤ (l.take anchor.toNat).sum ∧ (l.take anchor.toNat).sum ≤ l.sum := by
        have := (fit.sub (List.take_sublist anchor.toNat l)).nn
        have h2 := List.sum_append (l₁ := l.take anchor.toNat) (l₂ := l.drop anchor.toNat)
        rw [List.take_append_drop] at h2
        have := (fit.sub (List.drop_sublist anchor.toNat l)).nn
        omega
      simp (disch := omega) only [evs, ↓reduceIte, Nat.reduceEqDiff, Nat.reduceAdd, Nat.reduceMul, Nat.reduceLeDiff, Nat.reduceLT, Int.reduceNeg, DF, eff, Nat.reduceSub, fwrap_i64, g0, g2, g3, o.ld]
      refine OQ_does (XTop_ok wf ix) ?_
      rintro _ h1 ⟨rfl, F1⟩
      rw [if_pos ⟨ca, by omega⟩]
      simp (disch := omega) only [evs, ↓reduceIte, Nat.reduceEqDiff, Nat.reduceAdd, Nat.reduceMul, Nat.reduceLeDiff, Nat.reduceLT, Int.reduceNeg, DF, eff, Nat.reduceSub, fwrap_i64, g0, g2, g3]
      have L1 : FrL b h h1 := frL F1
      exact part2_ok (s := (l.take anchor.toNat).sum + delta) ⟨F1.wf, glb.fr F1, ⟨p, vk, F1.get o, v1, ix.fr F1⟩, mk.fr F1, el, pos, F1.get fo, F1.get bo, v0, ix0.fr F1, el0, fne, bne, zne, (by simp [T.get_set, g0]), (by simp [T.get_set, g2]), (by simp [T.get_set, g3]), (by simp [T.get_set, g4]), (by simp [T.get_set, g6]), (by simp [T.get_set, g11]), (by simp [T.get_set]), (by simp [T.get_set, g13])⟩ (by simp [T.get_set]) ok hr hm mb
        (fun env' h' A a1 a2 a3 a4 a5 a6 a7 => Kbad env' h' A a1 a2 a3 a4 a5 a6 (L1.trans a7)) (fun env' h' A l' ks' a1 a2 a3 a4 a5 a6 a7 => Kdone env' h' A l' ks' a1 a2 a3 a4 a5 a6 (L1.trans a7)) (fun env' h' A l' ks' a1 a2 a3 a4 a5 => Kmore env' h' A l' ks' a1 a2 a3 a4 (L1.trans a5))
    by_cases cr : (r : Int) = 0
    · simp (disch := omega) only [evs, ↓reduceIte, Nat.reduceEqDiff, Nat.reduceAdd, Nat.reduceMul, Nat.reduceLeDiff, Nat.reduceLT, Int.reduceNeg, DF, eff, Nat.reduceSub, fwrap_i64, setl, g2, g11, eq_true ca, eq_true cr, g0, g3, o.ld]
      have t1 := top ⟨ca, .inl (by omega)⟩
      simp (disch := omega) only [evs, ↓reduceIte, Nat.reduceEqDiff, Nat.reduceAdd, Nat.reduceMul, Nat.reduceLeDiff, Nat.reduceLT, Int.reduceNeg, DF, eff, Nat.reduceSub, fwrap_i64, g0, g2, g3, o.ld] at t1
      exact t1
    · cases lo
      · simp (disch := omega) only [evs, ↓reduceIte, Nat.reduceEqDiff, Nat.reduceAdd, Nat.reduceMul, Nat.reduceLeDiff, Nat.reduceLT, Int.reduceNeg, DF, eff, Nat.reduceSub, fwrap_i64, setl, g2, g11, eq_true ca, eq_false cr, g6, fo.ld1, g0, g3, o.ld]
        have t1 := top ⟨ca, .inr rfl⟩
        simp (disch := omega) only [evs, ↓reduceIte, Nat.reduceEqDiff, Nat.reduceAdd, Nat.reduceMul, Nat.reduceLeDiff, Nat.reduceLT, Int.reduceNeg, DF, eff, Nat.reduceSub, fwrap_i64, g0, g2, g3, o.ld] at t1
        exact t1
      · have c : ¬ (0 ≤ anchor ∧ (r = 0 ∨ true = false)) := by simp; omega
        rw [if_neg c] at Kbad Kdone Kmore
        simp (disch := omega) only [evs, ↓reduceIte, Nat.reduceEqDiff, Nat.reduceAdd, Nat.reduceMul, Nat.reduceLeDiff, Nat.reduceLT, Int.reduceNeg, DF, eff, Nat.reduceSub, fwrap_i64, setl, g2, g11, eq_true ca, eq_false cr, g6, fo.ld1]
        exact part2_ok ⟨wf, glb, ⟨p, vk, o, v1, ix⟩, mk, el, pos, fo, bo, v0, ix0, el0, fne, bne, zne, (by simp [T.get_set, g0]), (by simp [T.get_set, g2]), (by simp [T.get_set, g3]), (by simp [T.get_set, g4]), (by simp [T.get_set, g6]), (by simp [T.get_set, g11]), (by simp [T.get_set, g12]), (by simp [T.get_set, g13])⟩ (by simp [T.get_set, g10]) ok hr hm mb Kbad Kdone Kmore
  · have c : ¬ (0 ≤ anchor ∧ (r = 0 ∨ lo = false)) := fun x => ca x.1
    rw [if_neg c] at Kbad Kdone Kmore
    simp (disch := omega) only [evs, ↓reduceIte, Nat.reduceEqDiff, Nat.reduceAdd, Nat.reduceMul, Nat.reduceLeDiff, Nat.reduceLT, Int.reduceNeg, DF, eff, Nat.reduceSub, fwrap_i64, setl, g2, g11, eq_false ca]
    exact part2_ok ⟨wf, glb, ⟨p, vk, o, v1, ix⟩, mk, el, pos, fo, bo, v0, ix0, el0, fne, bne, zne, (by simp [T.get_set, g0]), (by simp [T.get_set, g2]), (by simp [T.get_set, g3]), (by simp [T.get_set, g4]), (by simp [T.get_set, g6]), (by simp [T.get_set, g11]), (by simp [T.get_set, g12]), (by simp [T.get_set, g13])⟩ (by simp [T.get_set, g10]) ok hr hm mb Kbad Kdone Kmore
theorem nf1 : aP (.nil 3 false) [.nilf, .nilf] = some (.bool true) := rfl
theorem nf2 (N : Nat) : aP (.nil 3 false) [.func (.func N) [] [], .nilf] = some (.bool false) := rfl
theorem tabc_len' : tabc.length = 64 := by unfold tabc; rw [List.length_map]; rfl
/-- what Settle refuses -/
def setBad (l : List Int) (view over anchor delta : Int) (nil : Bool) : Int := if ¬ okF view over ∨ nil = true then 1 else if anchor < -1 ∨ l.length ≤ anchor ∨ delta < 0 ∨ 2305843009213693952 < delta then 4 else 0
theorem SettleBad_ok {h : Heap} {b : Nat} {l : List Int} {ks bs : List Bool} {view over anchor delta : Int} {lo : Bool} {f : V} {nil : Bool} (w : WF h) (a : Lo h b l ks bs) (hf : (nil = true ∧ f = .nilf) ∨ (nil = false ∧ ∃ N, f = .func (.func N) [] []))
    (hb : setBad l view over anchor delta nil ≠ 0) :
    Does go 14 [.ptr b 0, .agg [.int .i64 view, .int .i64 over, .bool lo], .int .i64 anchor, .int .i64 delta, f] h fun u h' => u = .tup [.int .i64 0, .int .i64 0, .int .i64 (setBad l view over anchor delta nil)] ∧ Fr [] h h' := by
  unfold setBad at hb ⊢
  obtain ⟨h1, e_h1⟩ : ∃ h1, h1 = halloc h [.int .i64 view, .int .i64 over, .bool lo] := ⟨_, rfl⟩
  have F_h1 : Fr [] h h1 := e_h1 ▸ Fr.halloc w _
  have o_h1 : Own h1 h.next [.int .i64 view, .int .i64 over, .bool lo] := e_h1 ▸ Own.new w _
  refine does_fn g14 rfl ?_
  simp (disch := omega) only [fn14, evs, ↓reduceIte, Nat.reduceEqDiff, Nat.reduceAdd, Nat.reduceMul, Nat.reduceLeDiff, Nat.reduceLT, Int.reduceNeg, DF, eff, Nat.reduceSub, fwrap_i64, ← e_h1]
  refine W_scope0 ?_
  simp (disch := omega) only [evs, ↓reduceIte, Nat.reduceEqDiff, Nat.reduceAdd, Nat.reduceMul, Nat.reduceLeDiff, Nat.reduceLT, Int.reduceNeg, DF, eff, Nat.reduceSub, fwrap_i64, o_h1.ld]
  refine OQ_does (valid_ok F_h1.wf) ?_
  rintro _ h2 ⟨rfl, F2⟩
  have F12 := F_h1.then F2
  by_cases c : okF view over
  · rcases hf with ⟨rfl, rfl⟩ | ⟨rfl, N, rfl⟩
    · simp (disch := omega) only [evs, ↓reduceIte, Nat.reduceEqDiff, Nat.reduceAdd, Nat.reduceMul, Nat.reduceLeDiff, Nat.reduceLT, Int.reduceNeg, DF, eff, Nat.reduceSub, fwrap_i64, eq_true c, nf1]
      exact ⟨by simp, F12⟩
    · rw [if_neg (by simp [c])] at hb ⊢
      by_cases c1 : anchor < -1
      · simp (disch := omega) only [evs, ↓reduceIte, Nat.reduceEqDiff, Nat.reduceAdd, Nat.reduceMul, Nat.reduceLeDiff, Nat.reduceLT, Int.reduceNeg, DF, eff, Nat.reduceSub, fwrap_i64, eq_true c, nf2 N, eq_true c1]
        exact ⟨by simp, F12⟩
      · simp (disch := omega) only [evs, ↓reduceIte, Nat.reduceEqDiff, Nat.reduceAdd, Nat.reduceMul, Nat.reduceLeDiff, Nat.reduceLT, Int.reduceNeg, DF, eff, Nat.reduceSub, fwrap_i64, eq_true c, nf2 N, eq_false c1]
        refine OQ_does (LLen_ok F2.wf (a.fr F12)) ?_
        rintro _ h3 ⟨rfl, F3⟩
        have F13 := F12.then F3
        by_cases c2 : (l.length : Int) ≤ anchor
        · simp (disch := omega) only [evs, ↓reduceIte, Nat.reduceEqDiff, Nat.reduceAdd, Nat.reduceMul, Nat.reduceLeDiff, Nat.reduceLT, Int.reduceNeg, DF, eff, Nat.reduceSub, fwrap_i64, eq_true c2]
          exact ⟨by simp, F13⟩
        · by_cases c3 : delta < 0
          · simp (disch := omega) only [evs, ↓reduceIte, Nat.reduceEqDiff, Nat.reduceAdd, Nat.reduceMul, Nat.reduceLeDiff, Nat.reduceLT, Int.reduceNeg, DF, eff, Nat.reduceSub, fwrap_i64, eq_false c2, eq_true c3]
            exact ⟨by simp, F13⟩
          · by_cases c4 : 2305843009213693952 < delta
            · simp (disch := omega) only [evs, ↓reduceIte, Nat.reduceEqDiff, Nat.reduceAdd, Nat.reduceMul, Nat.reduceLeDiff, Nat.reduceLT, Int.reduceNeg, DF, eff, Nat.reduceSub, fwrap_i64, eq_false c2, eq_false c3, eq_true c4]
              exact ⟨by simp, F13⟩
            · exfalso
              apply hb
              rw [if_neg (by omega)]
  · simp (disch := omega) only [evs, ↓reduceIte, Nat.reduceEqDiff, Nat.reduceAdd, Nat.reduceMul, Nat.reduceLeDiff, Nat.reduceLT, Int.reduceNeg, DF, eff, Nat.reduceSub, fwrap_i64, eq_false c]
    exact ⟨by simp, F12⟩
theorem Settle_ok {h : Heap} {b N : Nat} {l : List Int} {ks bs : List Bool} {view over anchor delta : Int} {lo : Bool} {m : Int → Int} (w : WF h) (g : Glb h) (a : Lo h b l ks bs) (pos : ∀ x ∈ l, 1 ≤ x) (hb : setBad l view over anchor delta false = 0)
    (hm : ∀ h i, 0 ≤ i → i < 1000000 → Does go N [.int .i64 i] h fun u h' => u = .int .i64 (m i) ∧ h' = h) (mb : ∀ i, -9223372036854775808 ≤ m i ∧ m i ≤ 9223372036854775807) :
    Does go 14 [.ptr b 0, .agg [.int .i64 view, .int .i64 over, .bool lo], .int .i64 anchor, .int .i64 delta, .func (.func N) [] []] h fun u h' => ∃ s n e l' ks', u = .tup [.int .i64 s, .int .i64 n, .int .i64 e] ∧
      SetS m bs view over anchor delta lo 0 0 l ks s n e l' ks' ∧ (if e = 0 then Lo h' b l' ks' bs else Lo h' b l ks bs) ∧ FrL b h h' := by
  have ok : okF view over := by
    unfold setBad at hb
    by_cases c : okF view over
    · exact c
    · rw [if_pos (.inl c)] at hb; omega
  have hb2 : ¬ (anchor < -1 ∨ l.length ≤ anchor ∨ delta < 0 ∨ 2305843009213693952 < delta) := by
    unfold setBad at hb
    rw [if_neg (by simp [ok])] at hb
    intro c
    rw [if_pos c] at hb; omega
  have al := a
  obtain ⟨p, vk, pm, o, v1, ix, mk, el⟩ := a
  have zne : 0 ≠ b := by
    rintro rfl
    have := congrArg List.length (g.own.uniq o)
    rw [tabc_len'] at this; simp at this
  have kl := ix.len
  have blt := o.lt w
  obtain ⟨h1, e_h1⟩ : ∃ h1, h1 = halloc h [.int .i64 view, .int .i64 over, .bool lo] := ⟨_, rfl⟩
  have F_h1 : Fr [] h h1 := e_h1 ▸ Fr.halloc w _
  have o_h1 : Own h1 h.next [.int .i64 view, .int .i64 over, .bool lo] := e_h1 ▸ Own.new w _
  refine does_fn g14x rfl ?_
  simp (disch := omega) only [evs, ↓reduceIte, Nat.reduceEqDiff, Nat.reduceAdd, Nat.reduceMul, Nat.reduceLeDiff, Nat.reduceLT, Int.reduceNeg, DF, eff, Nat.reduceSub, fwrap_i64, fn14x, ← e_h1]
  refine W_scope (fun k env hh => ∃ (s : Int) (r : Nat) (bb : Nat) (l' : List Int) (ks' : List Bool), SS hh env b h.next bb N p pm vk l ks bs view over anchor delta lo r l' ks' ∧ env.get 10 = some (.int .i64 s) ∧ FrL b h hh ∧ l'.length = l.length ∧ ks'.count false ≤ k ∧ r + ks'.count false ≤ 1024 ∧
    ∀ s2 n2 e2 l2 ks2, SetS m bs view over anchor delta lo s r l' ks' s2 n2 e2 l2 ks2 → SetS m bs view over anchor delta lo 0 0 l ks s2 n2 e2 l2 ks2) (ks.count false) ?_ ?_ ?_
  · have : ks.count false ≤ ks.length := List.count_le_length
    omega
  · simp (disch := omega) only [evs, ↓reduceIte, Nat.reduceEqDiff, Nat.reduceAdd, Nat.reduceMul, Nat.reduceLeDiff, Nat.reduceLT, Int.reduceNeg, DF, eff, Nat.reduceSub, fwrap_i64, o_h1.ld]
    refine OQ_does (valid_ok F_h1.wf) ?_
    rintro _ h2 ⟨rfl, F2⟩
    have F12 := F_h1.then F2
    simp (disch := omega) only [evs, ↓reduceIte, Nat.reduceEqDiff, Nat.reduceAdd, Nat.reduceMul, Nat.reduceLeDiff, Nat.reduceLT, Int.reduceNeg, DF, eff, Nat.reduceSub, fwrap_i64, eq_true ok, nf2 N, eq_false (show ¬ anchor < -1 by omega)]
    refine OQ_does (LLen_ok F2.wf (al.fr F12)) ?_
    rintro _ h3 ⟨rfl, F3⟩
    have F13 := F12.then F3
    obtain ⟨h4, e_h4⟩ : ∃ h4, h4 = halloc h3 [.nilp, .nils] := ⟨_, rfl⟩
    have F_h4 : Fr [] h3 h4 := e_h4 ▸ Fr.halloc F3.wf _
    have o_h4 : Own h4 h3.next [.nilp, .nils] := e_h4 ▸ Own.new F3.wf _
    simp (disch := omega) only [evs, ↓reduceIte, Nat.reduceEqDiff, Nat.reduceAdd, Nat.reduceMul, Nat.reduceLeDiff, Nat.reduceLT, Int.reduceNeg, DF, eff, Nat.reduceSub, fwrap_i64, eq_false (show ¬ (l.length : Int) ≤ anchor by omega), eq_false (show ¬ delta < 0 by omega), eq_false (show ¬ 2305843009213693952 < delta by omega), (F13.get o).ld, ← e_h4]
    refine store_step (c' := [pv p, vk]) F_h4.wf o_h4 rfl (by simp [onesB, V.cells, pv_one, v1]) rfl ?_
    rintro h5 o5 F5 n5
    have F35 : Fr [] h3 h5 := F_h4.fresh F5 F3.wf (Nat.le_refl _)
    have F05 := F13.then F35
    have F15 : Fr [] h1 h5 := (F2.then F3).then F35
    simp (disch := omega) only [evs, ↓reduceIte, Nat.reduceEqDiff, Nat.reduceAdd, Nat.reduceMul, Nat.reduceLeDiff, Nat.reduceLT, Int.reduceNeg, DF, eff, Nat.reduceSub, fwrap_i64]
    have hc : ks.count false ≤ ks.length := List.count_le_length
    refine round_ok (s := 0) (m := m) (r := 0) (anchor := anchor) (delta := delta) (lo := lo) (view := view) (over := over) ⟨F05.wf, g.fr F05, ⟨p, vk, F05.get o, v1, ix.fr F05⟩, mk.fr F05, el, pos, F15.get o_h1, o5, v1, ix.fr F05, el, by omega, by have := F13.next; omega, zne, (by simp [T.get_set]), (by simp [T.get_set]), (by simp [T.get_set]), (by simp [T.get_set]), (by simp [T.get_set]), (by simp [T.get_set]), (by simp [T.get_set]), (by simp [T.get_set])⟩ (by simp [T.get_set]) ok (by omega) (by omega) (by omega) (by omega) hm mb ?_ ?_ ?_
    · intro env' h' A a1 a2 a3 a4 a5 a6 a7
      refine (RetQ_ret _ _).2 ?_
      simp (disch := omega) only [evs, ↓reduceIte, Nat.reduceEqDiff, Nat.reduceAdd, Nat.reduceMul, Nat.reduceLeDiff, Nat.reduceLT, Int.reduceNeg, DF, eff, Nat.reduceSub, fwrap_i64, a3, a4, a5]
      exact ⟨_, _, _, l, ks, rfl, SetS.bad a1 a2, by rw [if_neg a2]; exact a6, (frL F05).trans a7⟩
    · intro env' h' A l' ks' a1 a2 a3 a4 a5 a6 a7
      refine (RetQ_ret _ _).2 ?_
      simp (disch := omega) only [evs, ↓reduceIte, Nat.reduceEqDiff, Nat.reduceAdd, Nat.reduceMul, Nat.reduceLeDiff, Nat.reduceLT, Int.reduceNeg, DF, eff, Nat.reduceSub, fwrap_i64, a3, a4, a5]
      exact ⟨_, _, _, l', ks', rfl, SetS.done a1 a2, by rw [if_pos rfl]; exact a6, (frL F05).trans a7⟩
    · intro env' h' A l' ks' a1 a2 a3 a4 a5
      have sp := lookR_spec m A l ks false kl.1 pos
      rw [a2] at sp
      simp only [] at sp
      have := sp.2.2.2.2 trivial
      simp at this
      exact ⟨rfl, _, 0 + 1, _, l', ks', a3, a4, (frL F05).trans a5, sp.1, sp.2.2.2.1, by omega, fun s2 n2 e2 l2 ks2 q => SetS.more a1 a2 q⟩
  · rintro k env hh ⟨s, r, bb, l', ks', S, g10, L, ll, hk, hr, up⟩
    have hl' : ks'.length = l'.length := by obtain ⟨_, _, _, _, i⟩ := S.ob; exact i.len.1
    have pos' := S.pos
    refine round_ok (m := m) S g10 ok (by omega) (by omega) (by omega) (by omega) hm mb ?_ ?_ ?_
    · intro env' h' A a1 a2 a3 a4 a5 a6 a7
      refine (RetQ_ret _ _).2 ?_
      simp (disch := omega) only [evs, ↓reduceIte, Nat.reduceEqDiff, Nat.reduceAdd, Nat.reduceMul, Nat.reduceLeDiff, Nat.reduceLT, Int.reduceNeg, DF, eff, Nat.reduceSub, fwrap_i64, a3, a4, a5]
      exact ⟨_, _, _, l, ks, rfl, up _ _ _ _ _ (SetS.bad a1 a2), by rw [if_neg a2]; exact a6, L.trans a7⟩
    · intro env' h' A l2 ks2 a1 a2 a3 a4 a5 a6 a7
      refine (RetQ_ret _ _).2 ?_
      simp (disch := omega) only [evs, ↓reduceIte, Nat.reduceEqDiff, Nat.reduceAdd, Nat.reduceMul, Nat.reduceLeDiff, Nat.reduceLT, Int.reduceNeg, DF, eff, Nat.reduceSub, fwrap_i64, a3, a4, a5]
      exact ⟨_, _, _, l2, ks2, rfl, up _ _ _ _ _ (SetS.done a1 a2), by rw [if_pos rfl]; exact a6, L.trans a7⟩
    · intro env' h' A l2 ks2 a1 a2 a3 a4 a5
      have sp := lookR_spec m A l' ks' false hl' pos'
      rw [a2] at sp
      simp only [] at sp
      have := sp.2.2.2.2 trivial
      simp at this
      exact ⟨rfl, ks2.count false, by omega, _, r + 1, bb, l2, ks2, a3, a4, L.trans a5, by omega, Nat.le_refl _, by omega, fun s2 n2 e2 l2 ks2 q => up _ _ _ _ _ (SetS.more a1 a2 q)⟩
end Go.Ev.Lay
