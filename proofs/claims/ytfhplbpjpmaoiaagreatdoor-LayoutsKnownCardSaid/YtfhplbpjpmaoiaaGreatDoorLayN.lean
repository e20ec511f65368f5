/- An evaluator of the program and contracts proved over it: the texts LaySc. -/
import Derived.Below
import Derived.Test.YtfhplbpjpmaoiaaGreatDoorLayK
import Derived.Test.YtfhplbpjpmaoiaaGreatDoorLayM
set_option linter.unusedSimpArgs false
set_option linter.unusedVariables false
set_option linter.constructorNameAsVariable false
/- LayoutsSee, called in a world. -/
open Go.RowKit
namespace Go.Ev
theorem Own.rd {h : Heap} {b : Nat} {c : List V} (o : Own h b c) : ∃ f k, h.bl.get b = some (.row c f k) ∧ rd h b f k = true := by
  obtain ⟨f, k, e, x⟩ := o
  exact ⟨f, k, e, rd_owner (by rcases x with ⟨a, _⟩ | a; exact .inl a; exact .inr a)⟩
theorem HRel.cells {m : M} {h : Heap} {w : World} (H : HRel m h w) {p : Nat} {loc : Loc} {c : List V} (hm : m p = some loc) (o : Own h p c) :
    ∃ C el fz, w.heap[loc.block]? = some (.cells C el fz) ∧ loc.base + loc.room ≤ C.size ∧ ∀ (i : Nat) v, c[i]? = some v → ∃ x, C[loc.base + i]? = some x ∧ VRel m v x := by
  obtain ⟨f, k, e, r⟩ := o.rd
  obtain ⟨b, hb, rel⟩ := H.blk p loc hm
  rw [e] at hb; cases hb
  obtain ⟨C, el, fz, a1, a2, _, a4, _⟩ := rel r
  exact ⟨C, el, fz, a1, a2, a4⟩
/-- nothing that was there has changed -/
theorem below_of {m m' : M} {h h' : Heap} {w w' : World} (H : HRel m h w) (H' : HRel m' h' w') (E : Ext m h w m' h' w')
    (flat : ∀ p loc, m p = some loc → ∃ c, Own h p c ∧ Own h' p c ∧ c.length = loc.room ∧ ∀ v ∈ c, ∃ k n, v = V.int k n) : Below w.heap.size w w' := by
  refine ⟨E.os, E.tape, E.output, E.size, fun b hb => ?_⟩
  by_cases cc : ∃ p loc, m p = some loc ∧ loc.block = b
  · obtain ⟨p, loc, hp, rfl⟩ := cc
    obtain ⟨cs, o, o', len, ints⟩ := flat p loc hp
    obtain ⟨C, el, fz, hC, hsz, hcell⟩ := H.cells hp o
    obtain ⟨x', hx', k⟩ := E.out loc.block hb _ hC
    cases x' with
    | cells C' el' fz' =>
      obtain ⟨rfl, rfl, ksz, kout⟩ := k
      rw [hx', hC]
      have : C' = C := by
        apply Array.ext_getElem?
        intro j
        by_cases cv : Cov m loc.block j
        · obtain ⟨q, lq, hq, hbq, j1, j2⟩ := cv
          obtain ⟨cq, oq, oq', lenq, intq⟩ := flat q lq hq
          obtain ⟨C1, el1, fz1, hC1, _, hc1⟩ := H.cells hq oq
          obtain ⟨C2, el2, fz2, hC2, _, hc2⟩ := H'.cells (E.le _ _ hq) oq'
          rw [hbq] at hC1 hC2
          rw [hC] at hC1; cases hC1
          rw [hx'] at hC2; cases hC2
          have hlt : j - lq.base < cq.length := by omega
          obtain ⟨k, n, hv⟩ := intq cq[j - lq.base] (List.getElem_mem hlt)
          obtain ⟨x1, e1, r1⟩ := hc1 (j - lq.base) _ (List.getElem?_eq_getElem hlt)
          obtain ⟨x2, e2, r2⟩ := hc2 (j - lq.base) _ (List.getElem?_eq_getElem hlt)
          rw [hv] at r1 r2
          simp only [VRel] at r1 r2
          rw [show lq.base + (j - lq.base) = j by omega] at e1 e2
          rw [e1, e2, r1, r2]
        · exact kout j cv
      rw [this]
    | _ => simp at k
  · exact E.keep b (fun p loc hp e => cc ⟨p, loc, hp, e⟩) hb
namespace Lay
theorem u8_noflc {c : List V} (h : ∀ v ∈ c, ∃ n, v = V.int .u8 n) : ∀ n m ws, ws.length = 64 → c ≠ flc n m ws := by
  intro n m ws _ e
  obtain ⟨k, hk⟩ := h (.int .i64 n) (by rw [e]; simp [flc])
  cases hk
theorem run_below {m : M} {h : Heap} {W : World} {v : V} {x : Value} {ps : List (Nat × Nat)} {z0 z1 : Nat} {s : Int} (H : HRel m h W) (hG : Glob 1 m) (w : WF h) (g : Glb h) (hn : 0 < h.next)
    (fl : ∀ p loc, m p = some loc → p < h.next ∧ ∃ c, Own h p c ∧ c.length = loc.room ∧ ∀ v ∈ c, ∃ n, v = V.int .u8 n) (a : Recs uc 2 h v ps) (hp : ∀ p ∈ ps, p.1 < 256 ∧ p.2 < 256) (hz0 : z0 < 65536) (hz1 : z1 < 65536)
    (s0 : -9223372036854775808 ≤ s) (s1 : s ≤ 9223372036854775807) (rx : VRel m v x) :
    Calls Go.Proofs.Tryz.prog 4 #[.agg #[x], .agg #[.int .u16 (z0 : Int), .int .u16 (z1 : Int)], .int .i64 s] W fun e W' => e = .returned (.bool true) ∧ Below W.heap.size W W' := by
  obtain ⟨u, h', e, rfl, b, hb, F⟩ := See_ok w g hn a hp hz0 hz1 s0 s1
  obtain ⟨_, S⟩ := goOK _ _ _ _ _ e
  have rel : VsRel m [.agg [v], .agg [.int .u16 (z0 : Int), .int .u16 (z1 : Int)], .int .i64 s] [.agg #[x], .agg #[.int .u16 (z0 : Int), .int .u16 (z1 : Int)], .int .i64 s] :=
    ⟨_, _, rfl, ⟨[x], rfl, x, [], rfl, rx, rfl⟩, _, _, rfl, ⟨[.int .u16 (z0 : Int), .int .u16 (z1 : Int)], rfl, _, _, rfl, rfl, _, _, rfl, rfl, rfl⟩, _, _, rfl, rfl, rfl⟩
  refine (S m W _ rel H hG).mono fun e W' ⟨y, m', he, ry, H', E⟩ => ?_
  have : y = .bool true := ry
  subst this
  refine ⟨he, below_of H H' E fun p loc hp => ?_⟩
  obtain ⟨hlt, c, o, hl, hi⟩ := fl p loc hp
  exact ⟨c, o, F.own _ _ (by omega) (u8_noflc hi) o, hl, fun v hv => by obtain ⟨n, hn⟩ := hi v hv; exact ⟨_, n, hn⟩⟩
/-- the package's variable -/
def Tab (W : World) : Prop := ∃ C t, W.heap[0]? = some (.cells C t (0, 0)) ∧ C.size = 64 ∧ ∀ (i : Nat) n, tab64[i]? = some n → C[i]? = some (.int .u8 (n : Int))
def mA : M := fun p => if p = 0 then some ⟨0, 0, 64⟩ else none
theorem mA_some {p : Nat} {loc : Loc} (h : mA p = some loc) : p = 0 ∧ loc = ⟨0, 0, 64⟩ := by
  unfold mA at h
  by_cases c : p = 0
  · simp only [if_pos c, Option.some.injEq] at h; exact ⟨c, h.symm⟩
  · simp [if_neg c] at h
theorem h0_get : h0.bl.get 0 = some (.row tabc 0 0) := by unfold h0; rw [T.get_set_self]
theorem h0_none (p : Nat) (hp : p ≠ 0) : h0.bl.get p = none := by unfold h0; rw [T.get_set_ne _ _ hp]; rfl
theorem h0_wf : WF h0 := fun p hp => ⟨h0_none p (by have : 1 ≤ p := hp; omega), rfl⟩
theorem h0_glb : Glb h0 := ⟨⟨0, h0_get⟩, rfl⟩
theorem tabc_get {i : Nat} {v : V} (h : tabc[i]? = some v) : ∃ n, tab64[i]? = some n ∧ v = .int .u8 (n : Int) := by
  unfold tabc at h
  rw [List.getElem?_map] at h
  cases e : tab64[i]? with
  | none => rw [e] at h; cases h
  | some n => rw [e] at h; cases h; exact ⟨n, rfl, rfl⟩
theorem tabc_u8 : ∀ v ∈ tabc, ∃ n, v = V.int .u8 n := by
  intro v hv
  obtain ⟨i, hi⟩ := List.getElem?_of_mem hv
  obtain ⟨n, _, e⟩ := tabc_get hi
  exact ⟨_, e⟩
theorem tabc_len : tabc.length = 64 := by unfold tabc; rw [List.length_map]; rfl
theorem relA {W : World} (t : Tab W) : HRel mA h0 W := by
  obtain ⟨C, ty, hC, hs, hc⟩ := t
  refine ⟨⟨?_, h0_wf⟩, ?_, ?_, ?_⟩
  · intro p c f k hp
    by_cases q : p = 0
    · subst q; rw [h0_get] at hp; cases hp; rfl
    · rw [h0_none p q] at hp; cases hp
  · intro p loc hp
    obtain ⟨rfl, rfl⟩ := mA_some hp
    refine ⟨_, h0_get, fun _ => ⟨C, ty, (0, 0), hC, by simp [hs], by rw [tabc_len]; exact Nat.le_refl _, fun i v hi => ?_, fun i _ => by simp⟩⟩
    obtain ⟨n, hn, rfl⟩ := tabc_get hi
    exact ⟨_, by simpa using hc i n hn, rfl⟩
  · intro p loc hp
    obtain ⟨rfl, rfl⟩ := mA_some hp
    exact (Array.getElem?_eq_some_iff.1 hC).1
  · intro p q lp lq hp hq _ hne
    exact absurd ((mA_some hp).1.trans (mA_some hq).1.symm) hne
theorem globA : Glob 1 mA := by
  intro g hg
  obtain rfl : g = 0 := by omega
  exact ⟨64, rfl⟩
/-- a slice of pairs that came in -/
def Came (W : World) (x : Value) (ps : List (Nat × Nat)) : Prop :=
  (x = .slice none 0 0 ∧ ps = []) ∨ (∃ a cap, x = .slice (some a) 0 cap ∧ ps = []) ∨
  ∃ b off cap C t fz, x = .slice (some ⟨b, off, none⟩) ps.length cap ∧ ps.length ≤ cap ∧ 0 < ps.length ∧ W.heap[b]? = some (.cells C t fz) ∧ off + ps.length * 2 ≤ C.size ∧
    (∀ i : Nat, i < ps.length * 2 → ¬ (fz.1 ≤ off + i ∧ off + i < fz.2)) ∧ ∀ (i : Nat) v, (ps.flatMap uc)[i]? = some v → ∃ n : Nat, v = .int .u8 (n : Int) ∧ C[off + i]? = some (.int .u8 (n : Int))
theorem See_calls {W : World} {x : Value} {ps : List (Nat × Nat)} {z0 z1 : Nat} {s : Int} (t : Tab W) (cm : Came W x ps) (hp : ∀ p ∈ ps, p.1 < 256 ∧ p.2 < 256) (hz0 : z0 < 65536) (hz1 : z1 < 65536)
    (s0 : -9223372036854775808 ≤ s) (s1 : s ≤ 9223372036854775807) :
    Calls Go.Proofs.Tryz.prog 4 #[.agg #[x], .agg #[.int .u16 (z0 : Int), .int .u16 (z1 : Int)], .int .i64 s] W fun e W' => e = .returned (.bool true) ∧ Below W.heap.size W W' := by
  have HA := relA t
  have flA : ∀ p loc, mA p = some loc → p < h0.next ∧ ∃ c, Own h0 p c ∧ c.length = loc.room ∧ ∀ v ∈ c, ∃ n, v = V.int .u8 n := by
    intro p loc hp
    obtain ⟨rfl, rfl⟩ := mA_some hp
    exact ⟨Nat.zero_lt_one, tabc, h0_glb.own, tabc_len, tabc_u8⟩
  rcases cm with ⟨rfl, rfl⟩ | ⟨a, cap, rfl, rfl⟩ | ⟨b, off, cap, C, ty, fz, rfl, hcap, hpos, hC, hsz, hfz, hcell⟩
  · exact run_below (v := .nils) (ps := []) HA globA h0_wf h0_glb Nat.zero_lt_one flA ⟨rfl, rfl⟩ hp hz0 hz1 s0 s1 rfl
  · exact run_below (v := .sliceE) (ps := []) HA globA h0_wf h0_glb Nat.zero_lt_one flA ⟨rfl, rfl⟩ hp hz0 hz1 s0 s1 ⟨a, cap, rfl⟩
  have fl : (ps.flatMap uc).length = ps.length * 2 := flat_len uc_len ps
  by_cases hb : b = 0
  · subst hb
    obtain ⟨C', ty', hC', hs', hc'⟩ := t
    rw [hC] at hC'; cases hC'
    have hin : off + ps.length * 2 ≤ 64 := by omega
    refine run_below (v := .slice 0 off ps.length cap) (ps := ps) HA globA h0_wf h0_glb Nat.zero_lt_one flA ⟨fl, rfl, hcap, tabc, h0_glb.own, by rw [tabc_len]; exact hin, ?_⟩ hp hz0 hz1 s0 s1 ⟨_, rfl, hcap, by simp⟩
    apply List.ext_getElem?
    intro i
    rw [List.getElem?_take]
    by_cases c : i < ps.length * 2
    · rw [if_pos c, List.getElem?_drop]
      obtain ⟨n, hn, hx⟩ := hcell i _ (List.getElem?_eq_getElem (by omega))
      have ht : tab64[off + i]? = some (tab64[off + i]'(by show off + i < 64; omega)) := List.getElem?_eq_getElem _
      have := hc' _ _ ht
      rw [hx] at this
      simp only [Option.some.injEq, Value.int.injEq, true_and] at this
      have e2 : tabc[off + i]? = some (.int .u8 (n : Int)) := by unfold tabc; rw [List.getElem?_map, ht, this]; rfl
      rw [e2, List.getElem?_eq_getElem (by omega), hn]
    · rw [if_neg c, List.getElem?_eq_none (by omega)]
  · have hu8 : ∀ v ∈ ps.flatMap uc, ∃ n, v = V.int .u8 n := by
      intro v hv
      simp only [List.mem_flatMap, uc, List.mem_cons, List.not_mem_nil, or_false] at hv
      obtain ⟨p, _, rfl | rfl⟩ := hv
      · exact ⟨_, rfl⟩
      · exact ⟨_, rfl⟩
    obtain ⟨mB, hmB⟩ : ∃ mB, mB = mset mA 1 ⟨b, off, ps.length * 2⟩ := ⟨_, rfl⟩
    obtain ⟨hB, ehB⟩ : ∃ hB, hB = halloc h0 (ps.flatMap uc) := ⟨_, rfl⟩
    have F : Fr [] h0 hB := ehB ▸ Fr.halloc h0_wf _
    have o1 : Own hB 1 (ps.flatMap uc) := ehB ▸ Own.new h0_wf _
    have nB : hB.next = 2 := by rw [ehB]; rfl
    have z1' : mB 1 = some ⟨b, off, ps.length * 2⟩ := by rw [hmB]; exact mset_self _ _ _
    have zB : ∀ p loc, mB p = some loc → (p = 0 ∧ loc = ⟨0, 0, 64⟩) ∨ (p = 1 ∧ loc = ⟨b, off, ps.length * 2⟩) := by
      intro p loc hq
      rw [hmB] at hq
      by_cases c : p = 1
      · subst c; rw [mset_self] at hq; cases hq; exact .inr ⟨rfl, rfl⟩
      · rw [mset_ne _ _ c] at hq; exact .inl (mA_some hq)
    have g0 : hB.bl.get 0 = some (.row tabc 0 0) := by rw [ehB, halloc, T.get_set_ne _ _ (by show (0 : Nat) ≠ 1; omega)]; exact h0_get
    have g1 : hB.bl.get 1 = some (.row (ps.flatMap uc) 1 0) := by rw [ehB]; show (h0.bl.set 1 (.row (ps.flatMap uc) 1 0)).get 1 = _; exact T.get_set_self _ _ _
    have gf : ∀ f, hB.fams.get f = none := fun f => by rw [ehB]; rfl
    have HB : HRel mB hB W := by
      refine ⟨⟨?_, F.wf⟩, ?_, ?_, ?_⟩
      · intro p c f k hq
        rw [gf]
        by_cases q : p = 0
        · subst q; rw [g0] at hq; cases hq; rfl
        · by_cases q1 : p = 1
          · subst q1; rw [g1] at hq; cases hq; rfl
          · rw [ehB, halloc, T.get_set_ne _ _ (by show p ≠ 1; exact q1), h0_none p q] at hq; cases hq
      · intro p loc hq
        rcases zB p loc hq with ⟨rfl, rfl⟩ | ⟨rfl, rfl⟩
        · obtain ⟨C', ty', hC', hs', hc'⟩ := t
          refine ⟨_, g0, fun _ => ⟨C', ty', (0, 0), hC', by simp [hs'], by rw [tabc_len]; exact Nat.le_refl _, fun i v hi => ?_, fun i _ => by simp⟩⟩
          obtain ⟨n, hn, rfl⟩ := tabc_get hi
          exact ⟨_, by simpa using hc' i n hn, rfl⟩
        · refine ⟨_, g1, fun _ => ⟨C, ty, fz, hC, hsz, by rw [fl]; exact Nat.le_refl _, fun i v hi => ?_, hfz⟩⟩
          obtain ⟨n, rfl, hx⟩ := hcell i v hi
          exact ⟨_, hx, rfl⟩
      · intro p loc hq
        rcases zB p loc hq with ⟨rfl, rfl⟩ | ⟨rfl, rfl⟩
        · obtain ⟨C', ty', hC', _⟩ := t
          exact (Array.getElem?_eq_some_iff.1 hC').1
        · exact (Array.getElem?_eq_some_iff.1 hC).1
      · intro p q lp lq hq hq' he hne
        rcases zB p lp hq with ⟨rfl, rfl⟩ | ⟨rfl, rfl⟩ <;> rcases zB q lq hq' with ⟨rfl, rfl⟩ | ⟨rfl, rfl⟩
        · exact absurd rfl hne
        · exact absurd he.symm hb
        · exact absurd he hb
        · exact absurd rfl hne
    have GB : Glob 1 mB := by
      intro g hg
      obtain rfl : g = 0 := by omega
      exact ⟨64, by rw [hmB, mset_ne _ _ (by omega)]; rfl⟩
    refine run_below (v := .slice 1 0 ps.length cap) (ps := ps) HB GB F.wf (h0_glb.fr F) (by omega) ?_ ⟨fl, rfl, hcap, _, o1, by rw [fl]; omega, by rw [List.drop_zero, List.take_of_length_le (by omega)]⟩ hp hz0 hz1 s0 s1 ⟨_, z1', hcap, by simp⟩
    intro p loc hq
    rcases zB p loc hq with ⟨rfl, rfl⟩ | ⟨rfl, rfl⟩
    · exact ⟨by omega, tabc, F.get h0_glb.own, tabc_len, tabc_u8⟩
    · exact ⟨by omega, _, o1, fl, hu8⟩
end Lay
end Go.Ev
