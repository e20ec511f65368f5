/- An evaluator of the program and contracts proved over it: the texts LaySd. -/
import Derived.Test.YtfhplbpjpmaoiaaGreatDoorLayR
import Derived.Test.YtfhplbpjpmaoiaaGreatDoorLayN
set_option linter.unusedSimpArgs false
set_option linter.unusedVariables false
set_option linter.constructorNameAsVariable false
/- A law that takes rows and other things, called in a world. -/
open Go.RowKit
namespace Go.Ev
namespace Lay
theorem run_gen {f : Nat} {mk : V → List V} {mkx : Value → List Value} (rel : ∀ m v x, VRel m v x → VsRel m (mk v) (mkx x))
    (ok : ∀ h v ps, WF h → Glb h → 0 < h.next → Recs uc 2 h v ps → (∀ p ∈ ps, p.1 < 256 ∧ p.2 < 256) → Does go f (mk v) h fun u h' => u = .bool true ∧ ∀ x c, x < h.next → (∀ n m ws, ws.length = 64 → c ≠ flc n m ws) → Own h x c → Own h' x c)
    {m : M} {h : Heap} {W : World} {v : V} {x : Value} {ps : List (Nat × Nat)} (H : HRel m h W) (hG : Glob 1 m) (w : WF h) (g : Glb h) (hn : 0 < h.next)
    (fl : ∀ p loc, m p = some loc → p < h.next ∧ ∃ c, Own h p c ∧ c.length = loc.room ∧ ∀ v ∈ c, ∃ n, v = V.int .u8 n) (a : Recs uc 2 h v ps) (hp : ∀ p ∈ ps, p.1 < 256 ∧ p.2 < 256) (rx : VRel m v x) :
    Calls Go.Proofs.Tryz.prog f (mkx x).toArray W fun e W' => e = .returned (.bool true) ∧ Below W.heap.size W W' := by
  obtain ⟨u, h', e, rfl, F⟩ := ok h v ps w g hn a hp
  obtain ⟨_, S⟩ := goOK _ _ _ _ _ e
  refine (S m W _ (rel m v x rx) H hG).mono fun e W' ⟨y, m', he, ry, H', E⟩ => ?_
  have : y = .bool true := ry
  subst this
  refine ⟨he, below_of H H' E fun p loc hp => ?_⟩
  obtain ⟨hlt, c, o, hl, hi⟩ := fl p loc hp
  exact ⟨c, o, F _ _ hlt (u8_noflc hi) o, hl, fun v hv => by obtain ⟨n, hn⟩ := hi v hv; exact ⟨_, n, hn⟩⟩
theorem calls_gen {f : Nat} {mk : V → List V} {mkx : Value → List Value} (rel : ∀ m v x, VRel m v x → VsRel m (mk v) (mkx x))
    (ok : ∀ h v ps, WF h → Glb h → 0 < h.next → Recs uc 2 h v ps → (∀ p ∈ ps, p.1 < 256 ∧ p.2 < 256) → Does go f (mk v) h fun u h' => u = .bool true ∧ ∀ x c, x < h.next → (∀ n m ws, ws.length = 64 → c ≠ flc n m ws) → Own h x c → Own h' x c)
    {W : World} {x : Value} {ps : List (Nat × Nat)} (t : Tab W) (cm : Came W x ps) (hp : ∀ p ∈ ps, p.1 < 256 ∧ p.2 < 256) :
    Calls Go.Proofs.Tryz.prog f (mkx x).toArray W fun e W' => e = .returned (.bool true) ∧ Below W.heap.size W W' := by
  have HA := relA t
  have flA : ∀ p loc, mA p = some loc → p < h0.next ∧ ∃ c, Own h0 p c ∧ c.length = loc.room ∧ ∀ v ∈ c, ∃ n, v = V.int .u8 n := by
    intro p loc hp
    obtain ⟨rfl, rfl⟩ := mA_some hp
    exact ⟨Nat.zero_lt_one, tabc, h0_glb.own, tabc_len, tabc_u8⟩
  rcases cm with ⟨rfl, rfl⟩ | ⟨a, cap, rfl, rfl⟩ | ⟨b, off, cap, C, ty, fz, rfl, hcap, hpos, hC, hsz, hfz, hcell⟩
  · exact run_gen rel ok (v := .nils) (ps := []) HA globA h0_wf h0_glb Nat.zero_lt_one flA ⟨rfl, rfl⟩ hp rfl
  · exact run_gen rel ok (v := .sliceE) (ps := []) HA globA h0_wf h0_glb Nat.zero_lt_one flA ⟨rfl, rfl⟩ hp ⟨a, cap, rfl⟩
  have fl : (ps.flatMap uc).length = ps.length * 2 := flat_len uc_len ps
  by_cases hb : b = 0
  · subst hb
    obtain ⟨C', ty', hC', hs', hc'⟩ := t
    rw [hC] at hC'; cases hC'
    have hin : off + ps.length * 2 ≤ 64 := by omega
    refine run_gen rel ok (v := .slice 0 off ps.length cap) (ps := ps) HA globA h0_wf h0_glb Nat.zero_lt_one flA ⟨fl, rfl, hcap, tabc, h0_glb.own, by rw [tabc_len]; exact hin, ?_⟩ hp ⟨_, rfl, hcap, by simp⟩
    apply List.ext_getElem?
    intro i
    rw [List.getElem?_take]
    by_cases c : i < ps.length * 2
    · rw [if_pos c, List.getElem?_drop]
      obtain ⟨n, hn, hx⟩ := hcell i _ (List.getElem?_eq_getElem (by omega))
      have ht : tab64[off + i]? = some (tab64[off + i]'(by show off + i < 64; omega)) := List.getElem?_eq_getElem _
      have := hc' _ _ ht
      rw [hx] at this
      simp only [Option.some.injEq, Value.int.injEq, true_and] at this
      have e2 : tabc[off + i]? = some (.int .u8 (n : Int)) := by unfold tabc; rw [List.getElem?_map, ht, this]; rfl
      rw [e2, List.getElem?_eq_getElem (by omega), hn]
    · rw [if_neg c, List.getElem?_eq_none (by omega)]
  · have hu8 : ∀ v ∈ ps.flatMap uc, ∃ n, v = V.int .u8 n := by
      intro v hv
      simp only [List.mem_flatMap, uc, List.mem_cons, List.not_mem_nil, or_false] at hv
      obtain ⟨p, _, rfl | rfl⟩ := hv
      · exact ⟨_, rfl⟩
      · exact ⟨_, rfl⟩
    obtain ⟨mB, hmB⟩ : ∃ mB, mB = mset mA 1 ⟨b, off, ps.length * 2⟩ := ⟨_, rfl⟩
    obtain ⟨hB, ehB⟩ : ∃ hB, hB = halloc h0 (ps.flatMap uc) := ⟨_, rfl⟩
    have F : Fr [] h0 hB := ehB ▸ Fr.halloc h0_wf _
    have o1 : Own hB 1 (ps.flatMap uc) := ehB ▸ Own.new h0_wf _
    have nB : hB.next = 2 := by rw [ehB]; rfl
    have z1' : mB 1 = some ⟨b, off, ps.length * 2⟩ := by rw [hmB]; exact mset_self _ _ _
    have zB : ∀ p loc, mB p = some loc → (p = 0 ∧ loc = ⟨0, 0, 64⟩) ∨ (p = 1 ∧ loc = ⟨b, off, ps.length * 2⟩) := by
      intro p loc hq
      rw [hmB] at hq
      by_cases c : p = 1
      · subst c; rw [mset_self] at hq; cases hq; exact .inr ⟨rfl, rfl⟩
      · rw [mset_ne _ _ c] at hq; exact .inl (mA_some hq)
    have g0 : hB.bl.get 0 = some (.row tabc 0 0) := by rw [ehB, halloc, T.get_set_ne _ _ (by show (0 : Nat) ≠ 1; omega)]; exact h0_get
    have g1 : hB.bl.get 1 = some (.row (ps.flatMap uc) 1 0) := by rw [ehB]; show (h0.bl.set 1 (.row (ps.flatMap uc) 1 0)).get 1 = _; exact T.get_set_self _ _ _
    have gf : ∀ f, hB.fams.get f = none := fun f => by rw [ehB]; rfl
    have HB : HRel mB hB W := by
      refine ⟨⟨?_, F.wf⟩, ?_, ?_, ?_⟩
      · intro p c f k hq
        rw [gf]
        by_cases q : p = 0
        · subst q; rw [g0] at hq; cases hq; rfl
        · by_cases q1 : p = 1
          · subst q1; rw [g1] at hq; cases hq; rfl
          · rw [ehB, halloc, T.get_set_ne _ _ (by show p ≠ 1; exact q1), h0_none p q] at hq; cases hq
      · intro p loc hq
        rcases zB p loc hq with ⟨rfl, rfl⟩ | ⟨rfl, rfl⟩
        · obtain ⟨C', ty', hC', hs', hc'⟩ := t
          refine ⟨_, g0, fun _ => ⟨C', ty', (0, 0), hC', by simp [hs'], by rw [tabc_len]; exact Nat.le_refl _, fun i v hi => ?_, fun i _ => by simp⟩⟩
          obtain ⟨n, hn, rfl⟩ := tabc_get hi
          exact ⟨_, by simpa using hc' i n hn, rfl⟩
        · refine ⟨_, g1, fun _ => ⟨C, ty, fz, hC, hsz, by rw [fl]; exact Nat.le_refl _, fun i v hi => ?_, hfz⟩⟩
          obtain ⟨n, rfl, hx⟩ := hcell i v hi
          exact ⟨_, hx, rfl⟩
      · intro p loc hq
        rcases zB p loc hq with ⟨rfl, rfl⟩ | ⟨rfl, rfl⟩
        · obtain ⟨C', ty', hC', _⟩ := t
          exact (Array.getElem?_eq_some_iff.1 hC').1
        · exact (Array.getElem?_eq_some_iff.1 hC).1
      · intro p q lp lq hq hq' he hne
        rcases zB p lp hq with ⟨rfl, rfl⟩ | ⟨rfl, rfl⟩ <;> rcases zB q lq hq' with ⟨rfl, rfl⟩ | ⟨rfl, rfl⟩
        · exact absurd rfl hne
        · exact absurd he.symm hb
        · exact absurd he hb
        · exact absurd rfl hne
    have GB : Glob 1 mB := by
      intro g hg
      obtain rfl : g = 0 := by omega
      exact ⟨64, by rw [hmB, mset_ne _ _ (by omega)]; rfl⟩
    refine run_gen rel ok (v := .slice 1 0 ps.length cap) (ps := ps) HB GB F.wf (h0_glb.fr F) (by omega) ?_ ⟨fl, rfl, hcap, _, o1, by rw [fl]; omega, by rw [List.drop_zero, List.take_of_length_le (by omega)]⟩ hp ⟨_, z1', hcap, by simp⟩
    intro p loc hq
    rcases zB p loc hq with ⟨rfl, rfl⟩ | ⟨rfl, rfl⟩
    · exact ⟨by omega, tabc, F.get h0_glb.own, tabc_len, tabc_u8⟩
    · exact ⟨by omega, _, o1, fl, hu8⟩
theorem Err_calls {W : World} {x : Value} {ps : List (Nat × Nat)} {view over anchor delta : Int} {lo me : Bool} (t : Tab W) (cm : Came W x ps) (hp : ∀ p ∈ ps, p.1 < 256 ∧ p.2 < 256) (a0 : -9223372036854775808 ≤ anchor) (a1 : anchor ≤ 9223372036854775807) :
    Calls Go.Proofs.Tryz.prog 6 #[.agg #[x], .agg #[.int .i64 view, .int .i64 over, .bool lo], .agg #[.int .i64 anchor, .int .i64 delta, .bool me]] W fun e W' => e = .returned (.bool true) ∧ Below W.heap.size W W' :=
  calls_gen (f := 6) (mk := fun v => [.agg [v], .agg [.int .i64 view, .int .i64 over, .bool lo], .agg [.int .i64 anchor, .int .i64 delta, .bool me]]) (mkx := fun x => [.agg #[x], .agg #[.int .i64 view, .int .i64 over, .bool lo], .agg #[.int .i64 anchor, .int .i64 delta, .bool me]])
    (fun m v x rx => ⟨_, _, rfl, ⟨[x], rfl, x, [], rfl, rx, rfl⟩, _, _, rfl, ⟨[.int .i64 view, .int .i64 over, .bool lo], rfl, _, _, rfl, rfl, _, _, rfl, rfl, _, _, rfl, rfl, rfl⟩, _, _, rfl, ⟨[.int .i64 anchor, .int .i64 delta, .bool me], rfl, _, _, rfl, rfl, _, _, rfl, rfl, _, _, rfl, rfl, rfl⟩, rfl⟩)
    (fun h v ps w g hn a hp => LErr_ok w g hn a hp a0 a1) t cm hp
end Lay
end Go.Ev
