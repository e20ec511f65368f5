/- An evaluator of the program and contracts proved over it: the texts LaySy. -/
import Derived.Below
import Derived.Test.YtfhplbpjpmaoiaaGreatDoorP16
import Derived.Test.YtfhplbpjpmaoiaaGreatDoorP18
set_option linter.unusedSimpArgs false
set_option linter.unusedVariables false
set_option linter.constructorNameAsVariable false
/- LayoutsScript, called in a world. -/
open Go.RowKit
namespace Go.Ev
theorem Rdb.rd {h : Heap} {b : Nat} {c : List V} (o : Rdb h b c) : ∃ f k, h.bl.get b = some (.row c f k) ∧ rd h b f k = true := by
  rcases o with ⟨f, k, e, x⟩ | ⟨f, k, ow, e1, e2, _⟩
  · exact ⟨f, k, e, rd_owner (by rcases x with ⟨a, _⟩ | a; exact .inl a; exact .inr a)⟩
  · refine ⟨f, k, e1, ?_⟩
    unfold Ev.rd
    rw [e2]
    simp
theorem HRel.cellsR {m : M} {h : Heap} {w : World} (H : HRel m h w) {p : Nat} {loc : Loc} {c : List V} (hm : m p = some loc) (o : Rdb h p c) :
    ∃ C el fz, w.heap[loc.block]? = some (.cells C el fz) ∧ loc.base + loc.room ≤ C.size ∧ ∀ (i : Nat) v, c[i]? = some v → ∃ x, C[loc.base + i]? = some x ∧ VRel m v x := by
  obtain ⟨f, k, e, r⟩ := o.rd
  obtain ⟨b, hb, rel⟩ := H.blk p loc hm
  rw [e] at hb; cases hb
  obtain ⟨C, el, fz, a1, a2, _, a4, _⟩ := rel r
  exact ⟨C, el, fz, a1, a2, a4⟩
/-- a value that stands for one value of the model's -/
def Det (v : V) : Prop := ∀ m m' x x', Le m m' → VRel m v x → VRel m' v x' → x = x'
theorem det_int (k : IntKind) (n : Int) : Det (.int k n) := fun _ _ _ _ _ r r' => by simp only [VRel] at r r'; rw [r, r']
theorem det_nils : Det .nils := fun _ _ _ _ _ r r' => by simp only [VRel] at r r'; rw [r, r']
theorem det_z (a : Addr) (c : Nat) : Det (.sliceZ a c) := fun _ _ _ _ _ r r' => by simp only [VRel] at r r'; rw [r, r']
theorem det_slice (b o l c : Nat) : Det (.slice b o l c) := fun _ _ _ _ le ⟨loc, h1, _, e⟩ ⟨loc', h1', _, e'⟩ => by
  rw [le _ _ h1] at h1'; cases h1'; rw [e, e']
/-- nothing that was there has changed -/
theorem below_det {m m' : M} {h h' : Heap} {w w' : World} (H : HRel m h w) (H' : HRel m' h' w') (E : Ext m h w m' h' w')
    (flat : ∀ p loc, m p = some loc → ∃ c, Rdb h p c ∧ Rdb h' p c ∧ c.length = loc.room ∧ ∀ v ∈ c, Det v) : Below w.heap.size w w' := by
  refine ⟨E.os, E.tape, E.output, E.size, fun b hb => ?_⟩
  by_cases cc : ∃ p loc, m p = some loc ∧ loc.block = b
  · obtain ⟨p, loc, hp, rfl⟩ := cc
    obtain ⟨cs, o, o', len, ints⟩ := flat p loc hp
    obtain ⟨C, el, fz, hC, hsz, hcell⟩ := H.cellsR hp o
    obtain ⟨x', hx', k⟩ := E.out loc.block hb _ hC
    cases x' with
    | cells C' el' fz' =>
      obtain ⟨rfl, rfl, ksz, kout⟩ := k
      rw [hx', hC]
      have : C' = C := by
        apply Array.ext_getElem?
        intro j
        by_cases cv : Cov m loc.block j
        · obtain ⟨q, lq, hq, hbq, j1, j2⟩ := cv
          obtain ⟨cq, oq, oq', lenq, intq⟩ := flat q lq hq
          obtain ⟨C1, el1, fz1, hC1, _, hc1⟩ := H.cellsR hq oq
          obtain ⟨C2, el2, fz2, hC2, _, hc2⟩ := H'.cellsR (E.le _ _ hq) oq'
          rw [hbq] at hC1 hC2
          rw [hC] at hC1; cases hC1
          rw [hx'] at hC2; cases hC2
          have hlt : j - lq.base < cq.length := by omega
          have hd := intq cq[j - lq.base] (List.getElem_mem hlt)
          obtain ⟨x1, e1, r1⟩ := hc1 (j - lq.base) _ (List.getElem?_eq_getElem hlt)
          obtain ⟨x2, e2, r2⟩ := hc2 (j - lq.base) _ (List.getElem?_eq_getElem hlt)
          have := hd m m' x1 x2 E.le r1 r2
          rw [show lq.base + (j - lq.base) = j by omega] at e1 e2
          rw [e1, e2, this]
        · exact kout j cv
      rw [this]
    | _ => simp at k
  · exact E.keep b (fun p loc hp e => cc ⟨p, loc, hp, e⟩) hb
namespace Lay
/-- the package's variable -/
def Tab (W : World) : Prop := ∃ C t, W.heap[0]? = some (.cells C t (0, 0)) ∧ C.size = 64 ∧ ∀ (i : Nat) n, tab64[i]? = some n → C[i]? = some (.int .u8 (n : Int))
theorem tabc_get {i : Nat} {v : V} (h : tabc[i]? = some v) : ∃ n, tab64[i]? = some n ∧ v = .int .u8 (n : Int) := by
  unfold tabc at h
  rw [List.getElem?_map] at h
  cases e : tab64[i]? with
  | none => rw [e] at h; cases h
  | some n => rw [e] at h; cases h; exact ⟨n, rfl, rfl⟩
theorem tabc_u8 : ∀ v ∈ tabc, ∃ n, v = V.int .u8 n := by
  intro v hv
  obtain ⟨i, hi⟩ := List.getElem?_of_mem hv
  obtain ⟨n, _, e⟩ := tabc_get hi
  exact ⟨_, e⟩
theorem tabc_len : tabc.length = 64 := by unfold tabc; rw [List.length_map]; rfl
/-- blocks, one after another, in a family that nobody may write -/
noncomputable def put (t : T Blk) : List (List V) → Nat → T Blk
  | [], _ => t
  | c :: cs, i => put (t.set i (.row c 1 0)) cs (i + 1)
theorem put_get : ∀ (cs : List (List V)) (i : Nat) (t : T Blk) (p : Nat), (put t cs i).get p = if i ≤ p ∧ p < i + cs.length then (cs[p - i]?).map (fun c => .row c 1 0) else t.get p
  | [], i, t, p => by rw [if_neg (by simp)]; rfl
  | c :: cs, i, t, p => by
    show (put (t.set i (.row c 1 0)) cs (i + 1)).get p = _
    rw [put_get cs (i + 1), T.get_set]
    simp only [List.length_cons]
    by_cases q : p = i
    · subst q
      rw [if_neg (by omega), if_pos rfl, if_pos (by omega)]
      simp
    · rw [if_neg q]
      by_cases r : i + 1 ≤ p ∧ p < i + 1 + cs.length
      · rw [if_pos r, if_pos (by omega), show p - i = (p - (i + 1)) + 1 by omega]; simp
      · rw [if_neg r, if_neg (by omega)]
noncomputable def hS (Cs : List (List V)) : Heap := ⟨put ((T.e : T Blk).set 0 (.row tabc 0 0)) Cs 2, 2 + Cs.length, (T.e : T (Nat × Nat)).set 1 (1, 0)⟩
def mS (Ms : List (Option Loc)) : M := fun p => if p = 0 then some ⟨0, 0, 64, none⟩ else if 2 ≤ p then (Ms[p - 2]?).join else none
section
variable {Cs : List (List V)} {Ms : List (Option Loc)}
theorem hS_at {i : Nat} {c : List V} (h : Cs[i]? = some c) : (hS Cs).bl.get (2 + i) = some (.row c 1 0) := by
  have hi := (List.getElem?_eq_some_iff.1 h).1
  show (put _ Cs 2).get (2 + i) = _
  rw [put_get, if_pos (by omega), show 2 + i - 2 = i by omega, h]; rfl
theorem hS_0 : (hS Cs).bl.get 0 = some (.row tabc 0 0) := by
  show (put _ Cs 2).get 0 = _
  rw [put_get, if_neg (by omega), T.get_set_self]
theorem hS_1 : (hS Cs).bl.get 1 = none := by
  show (put _ Cs 2).get 1 = _
  rw [put_get, if_neg (by omega), T.get_set_ne _ _ (by omega)]; rfl
theorem hS_far {p : Nat} (h : 2 + Cs.length ≤ p) : (hS Cs).bl.get p = none := by
  show (put _ Cs 2).get p = _
  rw [put_get, if_neg (by omega), T.get_set_ne _ _ (by omega)]; rfl
theorem hS_f1 : (hS Cs).fams.get 1 = some (1, 0) := by show ((T.e : T (Nat × Nat)).set 1 (1, 0)).get 1 = _; exact T.get_set_self _ _ _
theorem hS_f {p : Nat} (h : p ≠ 1) : (hS Cs).fams.get p = none := by show ((T.e : T (Nat × Nat)).set 1 (1, 0)).get p = none; rw [T.get_set_ne _ _ h]; rfl
theorem hS_wf : WF (hS Cs) := fun p hp => ⟨hS_far hp, hS_f (by have : 2 + Cs.length ≤ p := hp; omega)⟩
theorem hS_glb : Glb (hS Cs) := ⟨⟨0, hS_0⟩, hS_f (by omega)⟩
theorem hS_rs {i : Nat} {c : List V} (h : Cs[i]? = some c) : Rs (hS Cs) (2 + i) c := ⟨1, 0, 1, hS_at h, hS_f1, hS_1, by show 1 < 2 + Cs.length; omega⟩
theorem mS_some {p : Nat} {loc : Loc} (h : mS Ms p = some loc) : (p = 0 ∧ loc = ⟨0, 0, 64, none⟩) ∨ ∃ i, p = 2 + i ∧ Ms[i]? = some (some loc) := by
  unfold mS at h
  by_cases c : p = 0
  · rw [if_pos c] at h; cases h; exact .inl ⟨c, rfl⟩
  · rw [if_neg c] at h
    by_cases d : 2 ≤ p
    · rw [if_pos d] at h
      refine .inr ⟨p - 2, by omega, ?_⟩
      cases e : Ms[p - 2]? with
      | none => rw [e] at h; cases h
      | some o => rw [e] at h; cases o with
        | none => cases h
        | some l => cases h; rfl
    · rw [if_neg d] at h; cases h
theorem mS_at {i : Nat} {loc : Loc} (h : Ms[i]? = some (some loc)) : mS Ms (2 + i) = some loc := by
  unfold mS
  rw [if_neg (by omega), if_pos (by omega), show 2 + i - 2 = i by omega, h]; rfl
/-- an array of the world that a block stands for -/
def Ent (W : World) (m : M) (loc : Loc) (c : List V) : Prop := loc.block ≠ 0 ∧ loc.lp = none ∧ c.length = loc.room ∧ ∃ C ty fz, W.heap[loc.block]? = some (.cells C ty fz) ∧ loc.base + loc.room ≤ C.size ∧
  (∀ (i : Nat) v, c[i]? = some v → ∃ x, C[loc.base + i]? = some x ∧ VRel m v x) ∧ ∀ i : Nat, i < loc.room → ¬ (fz.1 ≤ loc.base + i ∧ loc.base + i < fz.2)
theorem relS {W : World} (t : Tab W) (hl : Ms.length = Cs.length) (he : ∀ (i : Nat) loc c, Ms[i]? = some (some loc) → Cs[i]? = some c → Ent W (mS Ms) loc c) : HRel (mS Ms) (hS Cs) W := by
  have cget : ∀ (i : Nat) loc, Ms[i]? = some (some loc) → ∃ c, Cs[i]? = some c := fun i loc h => by
    have := (List.getElem?_eq_some_iff.1 h).1
    exact ⟨_, List.getElem?_eq_getElem (by omega)⟩
  refine ⟨⟨?_, hS_wf⟩, ?_, ?_, ?_⟩
  · intro p c f k hp
    by_cases q : p = 0
    · subst q; rw [hS_0] at hp; cases hp; rw [hS_f (by omega)]
    · by_cases q1 : p = 1
      · subst q1; rw [hS_1] at hp; cases hp
      · by_cases q2 : p < 2 + Cs.length
        · have hc : Cs[p - 2]? = some (Cs[p - 2]'(by omega)) := List.getElem?_eq_getElem (by omega)
          have := hS_at hc
          rw [show 2 + (p - 2) = p by omega, hp] at this
          cases this
          rw [hS_f1]; exact Nat.le_refl _
        · rw [hS_far (by omega)] at hp; cases hp
  · intro p loc hp
    rcases mS_some hp with ⟨rfl, rfl⟩ | ⟨i, rfl, h⟩
    · obtain ⟨C', ty', hC', hs', hc'⟩ := t
      refine ⟨_, hS_0, fun _ => ⟨C', ty', (0, 0), hC', by simp [hs'], by rw [tabc_len]; exact Nat.le_refl _, fun i v hi => ?_, fun i _ => by simp⟩⟩
      obtain ⟨n, hn, rfl⟩ := tabc_get hi
      exact ⟨_, by simpa using hc' i n hn, rfl⟩
    · obtain ⟨c, hc⟩ := cget i loc h
      obtain ⟨_, _, hcl, C, ty, fz, h1, h2, h3, h4⟩ := he i loc c h hc
      exact ⟨_, hS_at hc, fun _ => ⟨C, ty, fz, h1, h2, by omega, h3, h4⟩⟩
  · intro p loc hp
    rcases mS_some hp with ⟨rfl, rfl⟩ | ⟨i, rfl, h⟩
    · obtain ⟨C', ty', hC', _⟩ := t
      exact (Array.getElem?_eq_some_iff.1 hC').1
    · obtain ⟨c, hc⟩ := cget i loc h
      obtain ⟨_, _, _, C, ty, fz, h1, _⟩ := he i loc c h hc
      exact (Array.getElem?_eq_some_iff.1 h1).1
  · intro p q lp lq hp hq hbl hne
    rcases mS_some hp with ⟨rfl, rfl⟩ | ⟨i, rfl, h⟩ <;> rcases mS_some hq with ⟨rfl, rfl⟩ | ⟨j, rfl, h'⟩
    · exact absurd rfl hne
    · obtain ⟨c, hc⟩ := cget j lq h'
      exact absurd hbl.symm (he j lq c h' hc).1
    · obtain ⟨c, hc⟩ := cget i lp h
      exact absurd hbl (he i lp c h hc).1
    · obtain ⟨c, hc⟩ := cget i lp h
      obtain ⟨c', hc'⟩ := cget j lq h'
      refine ⟨c, c', 1, 0, 0, hS_at hc, hS_at hc', fun e hf => ?_⟩
      rw [hS_f1] at hf
      simp only [Option.some.injEq, Prod.mk.injEq] at hf
      omega
theorem globS (he : ∀ (i : Nat) loc c, Ms[i]? = some (some loc) → Cs[i]? = some c → loc.lp = none) (hl : Ms.length = Cs.length) : Glob KP 1 (mS Ms) := by
  refine ⟨fun g hg => ?_, fun p loc g hp hlp => ?_⟩
  · obtain rfl : g = 0 := by omega
    exact ⟨64, rfl⟩
  · rcases mS_some hp with ⟨rfl, rfl⟩ | ⟨i, rfl, h⟩
    · cases hlp
    · have hi := (List.getElem?_eq_some_iff.1 h).1
      rw [he i loc _ h (List.getElem?_eq_getElem (by omega))] at hlp; cases hlp
end
/-- a slice of pairs that came in -/
def Came (W : World) (x : Value) (ps : List (Nat × Nat)) : Prop :=
  (x = .slice none 0 0 ∧ ps = []) ∨ (∃ a cap, x = .slice (some a) 0 cap ∧ ps = []) ∨
  ∃ b off cap C t fz, x = .slice (some ⟨b, off, none⟩) ps.length cap ∧ ps.length ≤ cap ∧ 0 < ps.length ∧ W.heap[b]? = some (.cells C t fz) ∧ off + ps.length * 2 ≤ C.size ∧
    (∀ i : Nat, i < ps.length * 2 → ¬ (fz.1 ≤ off + i ∧ off + i < fz.2)) ∧ ∀ (i : Nat) v, (ps.flatMap uc)[i]? = some v → ∃ n : Nat, v = .int .u8 (n : Int) ∧ C[off + i]? = some (.int .u8 (n : Int))
theorem uc_u8 {ps : List (Nat × Nat)} : ∀ v ∈ ps.flatMap uc, ∃ n, v = V.int .u8 n := by
  intro v hv
  simp only [List.mem_flatMap, uc, List.mem_cons, List.not_mem_nil, or_false] at hv
  obtain ⟨p, _, rfl | rfl⟩ := hv
  · exact ⟨_, rfl⟩
  · exact ⟨_, rfl⟩
/-- how it is told to the evaluator, by block p -/
theorem pick {W : World} {x : Value} {ps : List (Nat × Nat)} (t : Tab W) (cm : Came W x ps) (p : Nat) : ∃ (v : V) (ml : Option Loc) (c : List V),
    (∀ m : M, (∀ loc, ml = some loc → m p = some loc) → m 0 = some ⟨0, 0, 64, none⟩ → VRel m v x) ∧ (∀ m loc, ml = some loc → Ent W m loc c) ∧ (∀ h, Glb h → (ml ≠ none → Rs h p c) → ARecs uc 2 h v ps) ∧ v.one = true ∧ Det v ∧ (∀ u ∈ c, Det u) := by
  have fl : (ps.flatMap uc).length = ps.length * 2 := flat_len uc_len ps
  rcases cm with ⟨rfl, rfl⟩ | ⟨a, cap, rfl, rfl⟩ | ⟨b, off, cap, C, ty, fz, rfl, hcap, hpos, hC, hsz, hfz, hcell⟩
  · exact ⟨.nils, none, [], fun m _ _ => rfl, (fun m loc h => by cases h), fun h _ _ => ⟨rfl, rfl⟩, rfl, det_nils, by simp⟩
  · exact ⟨.sliceZ a cap, none, [], fun m _ _ => rfl, (fun m loc h => by cases h), fun h _ _ => ⟨rfl, rfl⟩, rfl, det_z _ _, by simp⟩
  by_cases hb : b = 0
  · subst hb
    obtain ⟨C', ty', hC', hs', hc'⟩ := t
    rw [hC] at hC'; cases hC'
    have hin : off + ps.length * 2 ≤ 64 := by omega
    refine ⟨.slice 0 off ps.length cap, none, [], fun m _ h0 => ⟨_, h0, hcap, by simp⟩, (fun m loc h => by cases h), fun h gl _ => ⟨fl, rfl, hcap, tabc, .inl gl.own, by rw [tabc_len]; exact hin, ?_⟩, rfl, det_slice _ _ _ _, by simp⟩
    apply List.ext_getElem?
    intro i
    rw [List.getElem?_take]
    by_cases c : i < ps.length * 2
    · rw [if_pos c, List.getElem?_drop]
      obtain ⟨n, hn, hx⟩ := hcell i _ (List.getElem?_eq_getElem (by omega))
      have ht : tab64[off + i]? = some (tab64[off + i]'(by show off + i < 64; omega)) := List.getElem?_eq_getElem _
      have := hc' _ _ ht
      rw [hx] at this
      simp only [Option.some.injEq, Value.int.injEq, true_and] at this
      have e2 : tabc[off + i]? = some (.int .u8 (n : Int)) := by unfold tabc; rw [List.getElem?_map, ht, this]; rfl
      rw [e2, List.getElem?_eq_getElem (by omega), hn]
    · rw [if_neg c, List.getElem?_eq_none (by omega)]
  · refine ⟨.slice p 0 ps.length cap, some ⟨b, off, ps.length * 2, none⟩, ps.flatMap uc, fun m hm _ => ⟨_, hm _ rfl, hcap, by simp⟩, ?_, fun h gl rs => ⟨fl, rfl, hcap, _, .inr (rs (by simp)), by rw [fl]; omega, by rw [List.drop_zero, List.take_of_length_le (by omega)]⟩, rfl, det_slice _ _ _ _, ?_⟩
    · rintro m loc h
      cases h
      refine ⟨hb, rfl, fl, C, ty, fz, hC, hsz, fun i v hi => ?_, hfz⟩
      obtain ⟨n, rfl, hx⟩ := hcell i v hi
      exact ⟨_, hx, rfl⟩
    · intro u hu
      obtain ⟨n, rfl⟩ := uc_u8 u hu
      exact det_int _ _
/-- a step, as it came: its slice is a value of the model's -/
structure Sp0 where
  kd : Nat
  at' : Int
  n : Int
  x : Int
  size : Int
  y : Value
  P : List (Nat × Nat)
def stx (s : Sp0) : List Value := [.int .u8 (s.kd : Int), .int .i64 s.at', .int .i64 s.n, .int .i64 s.x, .int .i64 s.size, s.y]
structure Sp0.ok (W : World) (s : Sp0) : Prop where
  kd : s.kd < 256
  a0 : -9223372036854775808 ≤ s.at'
  a1 : s.at' ≤ 9223372036854775807
  n0 : -9223372036854775808 ≤ s.n
  n1 : s.n ≤ 9223372036854775807
  x0 : -9223372036854775808 ≤ s.x
  x1 : s.x ≤ 9223372036854775807
  s0 : -9223372036854775808 ≤ s.size
  s1 : s.size ≤ 9223372036854775807
  p : ∀ p ∈ s.P, p.1 < 256 ∧ p.2 < 256
  cm : Came W s.y s.P
def CameS (W : World) (x : Value) (S : List Sp0) : Prop :=
  (x = .slice none 0 0 ∧ S = []) ∨ (∃ a cap, x = .slice (some a) 0 cap ∧ S = []) ∨
  ∃ b off cap C t fz, x = .slice (some ⟨b, off, none⟩) S.length cap ∧ S.length ≤ cap ∧ 0 < S.length ∧ W.heap[b]? = some (.cells C t fz) ∧ off + S.length * 6 ≤ C.size ∧
    (∀ i : Nat, i < S.length * 6 → ¬ (fz.1 ≤ off + i ∧ off + i < fz.2)) ∧ ∀ (i : Nat) v, (S.flatMap stx)[i]? = some v → C[off + i]? = some v
/-- the steps, told to the evaluator: the i-th has block p + i -/
theorem picks {W : World} (t : Tab W) : ∀ (S : List Sp0) (p : Nat), (∀ s ∈ S, s.ok W) → ∃ (T : List Stp) (Ms : List (Option Loc)) (Cs : List (List V)), T.length = S.length ∧ Ms.length = S.length ∧ Cs.length = S.length ∧
    (∀ m : M, (∀ (i : Nat) loc, Ms[i]? = some (some loc) → m (p + i) = some loc) → m 0 = some ⟨0, 0, 64, none⟩ → ∀ (i : Nat) v, (T.flatMap stc)[i]? = some v → ∃ x, (S.flatMap stx)[i]? = some x ∧ VRel m v x) ∧
    (∀ m (i : Nat) loc c, Ms[i]? = some (some loc) → Cs[i]? = some c → Ent W m loc c) ∧
    (∀ h, Glb h → (∀ (i : Nat) c, Cs[i]? = some c → Rs h (p + i) c) → ∀ s ∈ T, ARecs uc 2 h s.v s.P) ∧ (∀ s ∈ T, s.ok ∧ s.v.one = true ∧ Det s.v) ∧ (∀ c ∈ Cs, ∀ u ∈ c, Det u)
  | [], p, _ => ⟨[], [], [], rfl, rfl, rfl, fun m _ _ i v h => by simp at h, fun m i loc c h => by simp at h, fun h _ _ s hs => by simp at hs, fun s hs => by simp at hs, fun c hc => by simp at hc⟩
  | s :: S, p, hs => by
    have ok := hs s (by simp)
    obtain ⟨v, ml, c, q1, q2, q3, q4, q5, q6⟩ := pick t ok.cm p
    obtain ⟨T, Ms, Cs, l1, l2, l3, r1, r2, r3, r4, r5⟩ := picks t S (p + 1) (fun s' h => hs s' (by simp [h]))
    refine ⟨⟨s.kd, s.at', s.n, s.x, s.size, v, s.P⟩ :: T, ml :: Ms, c :: Cs, by simp [l1], by simp [l2], by simp [l3], ?_, ?_, ?_, ?_, ?_⟩
    · intro m hm h0 i u hu
      have hv := q1 m (fun loc h => by have := hm 0 loc (by simp [h]); simpa using this) h0
      rw [List.flatMap_cons] at hu ⊢
      by_cases c6 : i < 6
      · rw [List.getElem?_append_left (by simpa [stc] using c6)] at hu
        rw [List.getElem?_append_left (by simpa [stx] using c6)]
        match i, c6, hu with
        | 0, _, hu => simp [stc] at hu; subst hu; exact ⟨_, rfl, rfl⟩
        | 1, _, hu => simp [stc] at hu; subst hu; exact ⟨_, rfl, rfl⟩
        | 2, _, hu => simp [stc] at hu; subst hu; exact ⟨_, rfl, rfl⟩
        | 3, _, hu => simp [stc] at hu; subst hu; exact ⟨_, rfl, rfl⟩
        | 4, _, hu => simp [stc] at hu; subst hu; exact ⟨_, rfl, rfl⟩
        | 5, _, hu => simp [stc] at hu; subst hu; exact ⟨_, rfl, hv⟩
      · rw [List.getElem?_append_right (by simp [stc]; omega)] at hu
        rw [List.getElem?_append_right (by simp [stx]; omega)]
        exact r1 m (fun i loc h => by have := hm (i + 1) loc (by simpa using h); rwa [show p + (i + 1) = p + 1 + i by omega] at this) h0 _ u (by simpa [stc, stx] using hu)
    · intro m i loc c' h1 h2
      cases i with
      | zero => simp at h1 h2; subst h2; exact q2 m loc h1
      | succ i => exact r2 m i loc c' (by simpa using h1) (by simpa using h2)
    · intro h gl rs s' hs'
      rcases List.mem_cons.1 hs' with rfl | hs'
      · exact q3 h gl (fun _ => by have := rs 0 c (by simp); simpa using this)
      · exact r3 h gl (fun i c' hc => by have := rs (i + 1) c' (by simpa using hc); rwa [show p + (i + 1) = p + 1 + i by omega] at this) s' hs'
    · intro s' hs'
      rcases List.mem_cons.1 hs' with rfl | hs'
      · exact ⟨⟨ok.kd, ok.a0, ok.a1, ok.n0, ok.n1, ok.x0, ok.x1, ok.s0, ok.s1, ok.p⟩, q4, q5⟩
      · exact r4 s' hs'
    · intro c' hc u hu
      rcases List.mem_cons.1 hc with rfl | hc
      · exact q6 u hu
      · exact r5 c' hc u hu
theorem Script_calls {W : World} {x y : Value} {ps : List (Nat × Nat)} {S : List Sp0} (t : Tab W) (cm : Came W x ps) (hp : ∀ p ∈ ps, p.1 < 256 ∧ p.2 < 256) (hs : ∀ s ∈ S, s.ok W) (cs : CameS W y S) :
    Calls Go.Proofs.Tryz.prog 5 #[.agg #[x], y] W fun e W' => e = .returned (.bool true) ∧ Below W.heap.size W W' := by
  obtain ⟨v, ml, c, q1, q2, q3, q4, q5, q6⟩ := pick t cm 2
  obtain ⟨T, Ms, Cs, l1, l2, l3, r1, r2, r3, r4, r5⟩ := picks t S 4 hs
  have fT : (T.flatMap stc).length = T.length * 6 := flat_len stc_len T
  -- the array of the steps
  obtain ⟨vs, mls, c3, p1, p2, p3, p4, p5⟩ : ∃ (vs : V) (mls : Option Loc) (c3 : List V),
      (∀ m : M, (∀ loc, mls = some loc → m 3 = some loc) → m 0 = some ⟨0, 0, 64, none⟩ → VRel m vs y) ∧ (∀ m : M, (∀ (i : Nat) loc, Ms[i]? = some (some loc) → m (4 + i) = some loc) → m 0 = some ⟨0, 0, 64, none⟩ → ∀ loc, mls = some loc → Ent W m loc c3) ∧
      (∀ h, (mls ≠ none → Rs h 3 c3) → ARecs stc 6 h vs T) ∧ (∀ u ∈ c3, Det u) ∧ aP .lenS [vs] = some (.int .i64 T.length) := by
    rcases cs with ⟨rfl, rfl⟩ | ⟨a, cap, rfl, rfl⟩ | ⟨b, off, cap, C, ty, fz, rfl, hcap, hpos, hC, hsz, hfz, hcell⟩
    · obtain rfl : T = [] := List.length_eq_zero_iff.1 (by simpa using l1)
      exact ⟨.nils, none, [], fun m _ _ => rfl, (fun m _ _ loc h => by cases h), fun h _ => ⟨rfl, rfl⟩, by simp, rfl⟩
    · obtain rfl : T = [] := List.length_eq_zero_iff.1 (by simpa using l1)
      exact ⟨.sliceZ a cap, none, [], fun m _ _ => rfl, (fun m _ _ loc h => by cases h), fun h _ => ⟨rfl, rfl⟩, by simp, rfl⟩
    · have hb : b ≠ 0 := by
        rintro rfl
        obtain ⟨C', ty', hC', hs', hc'⟩ := t
        rw [hC] at hC'; cases hC'
        cases S with
        | nil => simp at hpos
        | cons s S =>
          have h1 := hcell 1 (.int .i64 s.at') (by simp [stx])
          have ht : tab64[off + 1]? = some (tab64[off + 1]'(by show off + 1 < 64; omega)) := List.getElem?_eq_getElem _
          have := hc' _ _ ht
          rw [h1] at this
          simp at this
      refine ⟨.slice 3 0 T.length cap, some ⟨b, off, T.length * 6, none⟩, T.flatMap stc, fun m hm _ => ⟨_, hm _ rfl, by omega, by simp [l1]⟩, ?_, fun h rs => ⟨fT, rfl, by omega, _, .inr (rs (by simp)), by rw [fT]; omega, by rw [List.drop_zero, List.take_of_length_le (by omega)]⟩, ?_, rfl⟩
      · rintro m hm h0 loc h
        cases h
        refine ⟨hb, rfl, fT, C, ty, fz, hC, by simp only []; omega, fun i u hi => ?_, fun i hi => hfz i (by simp only [] at hi; omega)⟩
        obtain ⟨z, hz, rz⟩ := r1 m hm h0 i u hi
        exact ⟨z, hcell i z hz, rz⟩
      · intro u hu
        rw [List.mem_flatMap] at hu
        obtain ⟨s, hs', hu⟩ := hu
        simp only [stc, List.mem_cons, List.not_mem_nil, or_false] at hu
        rcases hu with rfl | rfl | rfl | rfl | rfl | rfl
        · exact det_int _ _
        · exact det_int _ _
        · exact det_int _ _
        · exact det_int _ _
        · exact det_int _ _
        · exact (r4 s hs').2.2
  obtain ⟨MM, hMM⟩ : ∃ MM, MM = ml :: mls :: Ms := ⟨_, rfl⟩
  obtain ⟨CC, hCC⟩ : ∃ CC, CC = c :: c3 :: Cs := ⟨_, rfl⟩
  have m0 : mS MM 0 = some ⟨0, 0, 64, none⟩ := rfl
  have m2 : ∀ loc, ml = some loc → mS MM 2 = some loc := fun loc h => by rw [show (2 : Nat) = 2 + 0 from rfl]; exact mS_at (by rw [hMM, h]; rfl)
  have m3 : ∀ loc, mls = some loc → mS MM 3 = some loc := fun loc h => by rw [show (3 : Nat) = 2 + 1 from rfl]; exact mS_at (by rw [hMM, h]; rfl)
  have m4 : ∀ (i : Nat) loc, Ms[i]? = some (some loc) → mS MM (4 + i) = some loc := fun i loc h => by rw [show 4 + i = 2 + (i + 2) by omega]; exact mS_at (by rw [hMM]; simpa using h)
  have ent : ∀ (i : Nat) loc c', MM[i]? = some (some loc) → CC[i]? = some c' → Ent W (mS MM) loc c' := by
    intro i loc c' h1 h2
    rw [hMM] at h1
    rw [hCC] at h2
    match i, h1, h2 with
    | 0, h1, h2 => simp at h1 h2; subst h2; exact q2 _ loc h1
    | 1, h1, h2 => simp at h1 h2; subst h2; exact p2 _ m4 m0 loc h1
    | i + 2, h1, h2 => exact r2 _ i loc c' (by simpa using h1) (by simpa using h2)
  have hlen : MM.length = CC.length := by rw [hMM, hCC]; simp [l2, l3]
  have H := relS t hlen ent
  have hG := globS (fun i loc c' h1 h2 => (ent i loc c' h1 h2).2.1) hlen
  have rs2 : Rs (hS CC) 2 c := by have := hS_rs (Cs := CC) (i := 0) (c := c) (by rw [hCC]; rfl); simpa using this
  have rs3 : Rs (hS CC) 3 c3 := by have := hS_rs (Cs := CC) (i := 1) (c := c3) (by rw [hCC]; rfl); simpa using this
  have rs4 : ∀ (i : Nat) c', Cs[i]? = some c' → Rs (hS CC) (4 + i) c' := fun i c' h => by
    have := hS_rs (Cs := CC) (i := i + 2) (c := c') (by rw [hCC]; simpa using h)
    rwa [show 2 + (i + 2) = 4 + i by omega] at this
  have hn : 0 < (hS CC).next := by show 0 < 2 + CC.length; omega
  obtain ⟨u, h', e, rfl, b, hb, F⟩ := Script_ok (v := v) (vs := vs) (ps := ps) (S := T) hS_wf hS_glb hn (q3 _ hS_glb (fun _ => rs2)) hp (fun s hs' => (r4 s hs').1) (fun s hs' => (r4 s hs').2.1) p5
    (fun b hh hb F => ⟨p3 hh (fun _ => F.ro _ _ rs3), r3 hh (hS_glb.frF F (by omega)) (fun i c' hc => F.ro _ _ (rs4 i c' hc))⟩)
  obtain ⟨_, SS⟩ := (goOK _ _ _ _ _ e).1 (by decide)
  have rel : VsRel (mS MM) [.agg [v], vs] [.agg #[x], y] := ⟨_, _, rfl, ⟨[x], rfl, x, [], rfl, q1 _ m2 m0, rfl⟩, _, _, rfl, p1 _ m3 m0, rfl⟩
  refine (SS (mS MM) W _ rel H hG).1.mono ?_
  rintro e' W' ⟨yv, m', he, ry, H', E⟩
  have : yv = .bool true := ry
  subst this
  refine ⟨he, below_det H H' E fun p loc hp' => ?_⟩
  rcases mS_some hp' with ⟨rfl, rfl⟩ | ⟨i, rfl, h1⟩
  · refine ⟨tabc, .inl hS_glb.own, .inl (hS_glb.frF F (by omega)).own, tabc_len, fun v hv => ?_⟩
    obtain ⟨n, rfl⟩ := tabc_u8 v hv
    exact det_int _ _
  · have hi := (List.getElem?_eq_some_iff.1 h1).1
    obtain ⟨c', hc'⟩ : ∃ c', CC[i]? = some c' := ⟨_, List.getElem?_eq_getElem (by omega)⟩
    have rr := hS_rs hc'
    refine ⟨c', .inr rr, .inr (F.ro _ _ rr), (ent i loc c' h1 hc').2.2.1, ?_⟩
    rw [hCC] at hc'
    match i, hc' with
    | 0, hc' => simp at hc'; subst hc'; exact q6
    | 1, hc' => simp at hc'; subst hc'; exact p4
    | i + 2, hc' => exact r5 c' (List.mem_of_getElem? (by simpa using hc'))
end Lay
end Go.Ev
