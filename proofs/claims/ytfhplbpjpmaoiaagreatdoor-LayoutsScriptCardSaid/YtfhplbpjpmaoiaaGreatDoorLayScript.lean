/- The function LayoutsScript returns true at every input, and each argument reads behind the call as it read before; the table of math/bits that it reads is tied to the program text (the tied card). The walk: an evaluator of the program, proved sound for every order of evaluation and every capacity that the runtime may choose (the texts Ev), and contracts of the program functions proved over it (the texts Lay). -/
import Derived.Test.YtfhplbpjpmaoiaaGreatDoorCards
import Derived.Test.YtfhplbpjpmaoiaaGreatDoorTie
import Derived.SevenTiedAt
import Derived.Test.YtfhplbpjpmaoiaaGreatDoorP20
set_option linter.unusedSimpArgs false
set_option linter.unusedVariables false
set_option linter.constructorNameAsVariable false
/- LayoutsScript: the row, and the card. -/
namespace Go.Proofs.YtfhplbpjpmaoiaaGreatDoor
open Go.ChangeShapes Go.WideShapes Go.ChangeAt Go.WideMaps Go.WideElems Go.RowKit Go.Deep
open Go.Ev.Lay (Tab tab64 Came uc CameS Sp0 stx)
theorem add_add1 (a : Addr) (x : Nat) : (a.add x).add 1 = a.add (x + 1) := by
  unfold Addr.add
  by_cases c : x = 0
  · subst c; simp
  · simp [c, Nat.add_assoc]
theorem add_none (b off j : Nat) : (⟨b, off, none⟩ : Addr).add j = ⟨b, off + j, none⟩ := by
  unfold Addr.add
  by_cases c : j = 0
  · subst c; simp
  · simp [c]
/-- a slice of pairs of bytes -/
theorem came {H : Type} {enc : TypeId × Value → H} {W : World} {n : Nat} {x : Value} {y : DataW H × List MemPlace} (h : DataW.trod enc Tryz.prog W 0 (fun _ => true) true n 48 [x] = some y)
    (hfz : ∀ b off, MemPlace.cell b off ∈ y.2 → W.frozen? ⟨b, off, none⟩ = false) : ∃ ps : List (Nat × Nat), Came W x ps ∧ ∀ p ∈ ps, p.1 < 256 ∧ p.2 < 256 := by
  rcases open_slice Tryz.underlying48 h with ⟨e, _⟩ | ⟨a, len, cap, m, k, D, Pl, hcs, hb, hle, hmx, hmm, hx, hel⟩
  · obtain rfl : x = .slice none 0 0 := by simpa using e
    exact ⟨[], .inl ⟨rfl, rfl⟩, by simp⟩
  obtain rfl : x = .slice (some a) len cap := by simpa using hcs
  have hm : m = cap := by simpa using hmm
  subst hm
  by_cases h0 : len = 0
  · subst h0
    exact ⟨[], .inr (.inl ⟨a, m, rfl, rfl⟩), by simp⟩
  rw [c73] at hel hx
  have each : ∀ i, i < m → ∃ p : Nat × Nat, (p.1 < 256 ∧ p.2 < 256) ∧ W.cell? (a.add (i * 2)) = some (.int .u8 (p.1 : Int)) ∧ W.cell? (a.add (i * 2 + 1)) = some (.int .u8 (p.2 : Int)) := by
    intro i hi
    obtain ⟨cs', h1, h2⟩ := hel i hi
    obtain ⟨_, hl, hg⟩ := World.cells?_some h1
    obtain ⟨xs, m1, rfl, _, hlen, hn, he⟩ := DataW.trod_array Tryz.underlying73 h2
    rw [c5] at he
    have hx0 : xs[0]? = some (xs[0]'(by omega)) := List.getElem?_eq_getElem _
    have hx1 : xs[1]? = some (xs[1]'(by omega)) := List.getElem?_eq_getElem _
    obtain ⟨k0, e0, _, w0⟩ := DataW.trod_int Tryz.underlying5 ((he 0 (by omega)).trans hx0)
    obtain ⟨k1, e1, _, w1⟩ := DataW.trod_int Tryz.underlying5 ((he 1 (by omega)).trans hx1)
    have b0 := bounds_u8 w0
    have b1 := bounds_u8 w1
    have g0 := hg 0 (by omega)
    have g1 := hg 1 (by omega)
    rw [take_one e0] at g0
    rw [take_one e1] at g1
    refine ⟨(k0.toNat, k1.toNat), ⟨by simp only []; omega, by simp only []; omega⟩, ?_, ?_⟩
    · rw [show ((k0.toNat : Nat) : Int) = k0 by omega]; exact g0
    · rw [show ((k1.toNat : Nat) : Int) = k1 by omega, ← add_add1]; exact g1
  obtain ⟨f, hf⟩ : ∃ f : Nat → Nat × Nat, ∀ i, i < m → ((f i).1 < 256 ∧ (f i).2 < 256) ∧ W.cell? (a.add (i * 2)) = some (.int .u8 ((f i).1 : Int)) ∧ W.cell? (a.add (i * 2 + 1)) = some (.int .u8 ((f i).2 : Int)) := by
    refine ⟨fun i => if h : i < m then Classical.choose (each i h) else (0, 0), fun i hi => ?_⟩
    simp only [dif_pos hi]
    exact Classical.choose_spec (each i hi)
  have first := (hf 0 (by omega)).2.1
  obtain ⟨b, off, spot⟩ := a
  have hfirst : spot = none ∧ ∃ C t fz, W.heap[b]? = some (.cells C t fz) := by
    rw [Nat.zero_mul] at first
    have : W.cell? ⟨b, off, spot⟩ = some (.int .u8 ((f 0).1 : Int)) := first
    unfold World.cell? at this
    simp only [] at this
    split at this
    · rename_i C t fz hC
      cases spot with
      | none => exact ⟨rfl, C, t, fz, hC⟩
      | some z => simp at this
    · cases this
  obtain ⟨rfl, C, t, fz, hC⟩ := hfirst
  have cellC : ∀ j v, W.cell? ((⟨b, off, none⟩ : Addr).add j) = some v → C[off + j]? = some v := by
    intro j v hv
    rw [add_none] at hv
    unfold World.cell? at hv
    simp only [hC] at hv
    simpa using hv
  have hall : ∀ j, j < m * 2 → ∃ p : Nat, C[off + j]? = some (.int .u8 (p : Int)) ∧ p = if j % 2 = 0 then (f (j / 2)).1 else (f (j / 2)).2 := by
    intro j hj
    have := (hf (j / 2) (by omega)).2
    by_cases c : j % 2 = 0
    · rw [if_pos c]
      exact ⟨_, by rw [show j = j / 2 * 2 by omega]; rw [show j / 2 * 2 / 2 = j / 2 by omega]; exact cellC _ _ this.1, rfl⟩
    · rw [if_neg c]
      exact ⟨_, by have h2 := cellC _ _ this.2; rw [show j / 2 * 2 + 1 = j by omega] at h2; exact h2, rfl⟩
  refine ⟨(List.range len).map f, .inr (.inr ⟨b, off, m, C, t, fz, by simp, by simpa using hle, by simp; omega, hC, ?_, ?_, ?_⟩), ?_⟩
  · obtain ⟨p, hp, _⟩ := hall (len * 2 - 1) (by omega)
    have := (Array.getElem?_eq_some_iff.1 hp).1
    simp; omega
  · intro i hi
    simp only [List.length_map, List.length_range] at hi
    have := hfz b (off + i) (by rw [hx]; simp [MemPlace.row]; exact .inl (by omega))
    unfold World.frozen? at this
    simp only [hC] at this
    simpa using this
  · intro i v hv
    obtain ⟨p, hp, rfl⟩ := flat_uc _ i v hv
    rw [List.getElem?_map] at hp
    have hlt : i / 2 < len := by
      rcases Nat.lt_or_ge (i / 2) len with q | q
      · exact q
      · rw [List.getElem?_eq_none (by simpa using q)] at hp; cases hp
    rw [List.getElem?_range hlt] at hp
    simp only [Option.map_some, Option.some.injEq] at hp
    subst hp
    obtain ⟨q, h1, h2⟩ := hall i (by omega)
    exact ⟨_, rfl, by rw [← h2]; exact h1⟩
  · intro p hp
    simp only [List.mem_map, List.mem_range] at hp
    obtain ⟨i, hi, rfl⟩ := hp
    exact (hf i (by omega)).1
theorem agg_one {cs : Array Value} (h : cs.size = 1) : ∃ x, cs = #[x] := by
  obtain ⟨l⟩ := cs
  match l, h with
  | [x], _ => exact ⟨x, rfl⟩
theorem door_met (os : Os) (args : Array Value) : laidMetH Tryz.prog laid1 ((World.doorLaid Tryz.prog 400 os).forCall (fun _ _ => 0) ⟨#[], args, []⟩).memory :=
  laidMetH_of_parts3 (fuel := 8) (laidMet_of_run' 8 (by kernel_rfl) (by kernel_rfl)) (by kernel_rfl) (by kernel_rfl)
theorem add_adds (a : Addr) (x j : Nat) : (a.add x).add j = a.add (x + j) := by
  unfold Addr.add
  by_cases c : x = 0
  · subst c; simp
  · by_cases d : j = 0
    · subst d; simp
    · simp [c, d, Nat.add_assoc]
theorem flat_stx : ∀ (S : List Sp0) (i : Nat) (v : Value), (S.flatMap stx)[i]? = some v → ∃ s, S[i / 6]? = some s ∧ (stx s)[i % 6]? = some v
  | [], i, v, h => by simp at h
  | s :: S, i, v, h => by
    rw [List.flatMap_cons] at h
    by_cases c : i < 6
    · rw [List.getElem?_append_left (by simpa [stx] using c)] at h
      exact ⟨s, by rw [Nat.div_eq_of_lt c]; rfl, by rw [Nat.mod_eq_of_lt c]; exact h⟩
    · rw [List.getElem?_append_right (by simp [stx]; omega)] at h
      have hl : (stx s).length = 6 := rfl
      rw [hl] at h
      obtain ⟨q, h1, h2⟩ := flat_stx S (i - 6) v h
      refine ⟨q, ?_, ?_⟩
      · rw [show i / 6 = (i - 6) / 6 + 1 by omega]; simpa using h1
      · rw [show i % 6 = (i - 6) % 6 by omega]; exact h2
theorem c71 : Tryz.prog.cellsOf 71 = 6 := by kernel_rfl
theorem c3 : Tryz.prog.cellsOf 3 = 1 := by kernel_rfl
theorem c2 : Tryz.prog.cellsOf 2 = 1 := by kernel_rfl
theorem six {α : Type} {l : List α} (h : l.length = 6) : ∃ a b c d e f, l = [a, b, c, d, e, f] := by
  match l, h with
  | [a, b, c, d, e, f], _ => exact ⟨a, b, c, d, e, f, rfl⟩
/-- one step -/
theorem step {H : Type} {enc : TypeId × Value → H} {W : World} {n : Nat} {cs : List Value} {y : DataW H × List MemPlace} (h : DataW.trod enc Tryz.prog W 0 (fun _ => true) true n 71 cs = some y)
    (hfz : ∀ b off, MemPlace.cell b off ∈ y.2 → W.frozen? ⟨b, off, none⟩ = false) : ∃ s : Sp0, s.ok W ∧ cs = stx s := by
  obtain ⟨xs, n1, _, rfl, hl, hlen, hf⟩ := DataW.trod_struct Tryz.underlying71 h
  rw [c71] at hl
  obtain ⟨v0, v1, v2, v3, v4, v5, rfl⟩ := six hl
  obtain ⟨x0, x1, x2, x3, x4, x5, rfl⟩ := six hlen
  have h0 : DataW.trod enc Tryz.prog W 0 (fun _ => true) true n1 5 (([v0, v1, v2, v3, v4, v5].drop 0).take (Tryz.prog.cellsOf 5)) = some x0 := (hf 0 _ rfl).trans rfl
  rw [c5] at h0
  have h1 : DataW.trod enc Tryz.prog W 0 (fun _ => true) true n1 3 (([v0, v1, v2, v3, v4, v5].drop 1).take (Tryz.prog.cellsOf 3)) = some x1 := (hf 1 _ rfl).trans rfl
  rw [c3] at h1
  have h2 : DataW.trod enc Tryz.prog W 0 (fun _ => true) true n1 3 (([v0, v1, v2, v3, v4, v5].drop 2).take (Tryz.prog.cellsOf 3)) = some x2 := (hf 2 _ rfl).trans rfl
  rw [c3] at h2
  have h3 : DataW.trod enc Tryz.prog W 0 (fun _ => true) true n1 3 (([v0, v1, v2, v3, v4, v5].drop 3).take (Tryz.prog.cellsOf 3)) = some x3 := (hf 3 _ rfl).trans rfl
  rw [c3] at h3
  have h4 : DataW.trod enc Tryz.prog W 0 (fun _ => true) true n1 2 (([v0, v1, v2, v3, v4, v5].drop 4).take (Tryz.prog.cellsOf 2)) = some x4 := (hf 4 _ rfl).trans rfl
  rw [c2] at h4
  have h5 : DataW.trod enc Tryz.prog W 0 (fun _ => true) true n1 48 (([v0, v1, v2, v3, v4, v5].drop 5).take (Tryz.prog.cellsOf 48)) = some x5 := (hf 5 _ rfl).trans rfl
  rw [c48] at h5
  obtain ⟨k0, e0, _, w0⟩ := DataW.trod_int Tryz.underlying5 h0
  obtain ⟨k1, e1, _, w1⟩ := DataW.trod_int Tryz.underlying3 h1
  obtain ⟨k2, e2, _, w2⟩ := DataW.trod_int Tryz.underlying3 h2
  obtain ⟨k3, e3, _, w3⟩ := DataW.trod_int Tryz.underlying3 h3
  obtain ⟨k4, e4, _, w4⟩ := DataW.trod_int Tryz.underlying2 h4
  have g5 : DataW.trod enc Tryz.prog W 0 (fun _ => true) true n1 48 [v5] = some x5 := h5
  obtain ⟨P, cm, hP⟩ := came g5 (fun b off hm => hfz b off (by simp [hm]))
  have b0 := bounds_u8 w0
  have b1 := bounds_i64 w1
  have b2 := bounds_i64 w2
  have b3 := bounds_i64 w3
  have b4 := bounds_i64 w4
  have e0' : v0 = .int .u8 k0 := by have : [v0] = [.int .u8 k0] := e0; simpa using this
  have e1' : v1 = .int .i64 k1 := by have : [v1] = [.int .i64 k1] := e1; simpa using this
  have e2' : v2 = .int .i64 k2 := by have : [v2] = [.int .i64 k2] := e2; simpa using this
  have e3' : v3 = .int .i64 k3 := by have : [v3] = [.int .i64 k3] := e3; simpa using this
  have e4' : v4 = .int .i64 k4 := by have : [v4] = [.int .i64 k4] := e4; simpa using this
  subst e0' e1' e2' e3' e4'
  obtain ⟨kk, rfl⟩ : ∃ n : Nat, k0 = n := ⟨k0.toNat, by omega⟩
  exact ⟨⟨kk, k1, k2, k3, k4, v5, P⟩, ⟨by simp only []; omega, b1.1, b1.2, b2.1, b2.2, b3.1, b3.2, b4.1, b4.2, hP, cm⟩, rfl⟩
/-- the steps -/
theorem cameS {H : Type} {enc : TypeId × Value → H} {W : World} {n : Nat} {x : Value} {y : DataW H × List MemPlace} (h : DataW.trod enc Tryz.prog W 0 (fun _ => true) true n 69 [x] = some y)
    (hfz : ∀ b off, MemPlace.cell b off ∈ y.2 → W.frozen? ⟨b, off, none⟩ = false) : ∃ S : List Sp0, CameS W x S ∧ ∀ s ∈ S, s.ok W := by
  rcases open_slice Tryz.underlying69 h with ⟨e, _⟩ | ⟨a, len, cap, m, k, D, Pl, hcs, hb, hle, hmx, hmm, hx, hel⟩
  · obtain rfl : x = .slice none 0 0 := by simpa using e
    exact ⟨[], .inl ⟨rfl, rfl⟩, by simp⟩
  obtain rfl : x = .slice (some a) len cap := by simpa using hcs
  have hm : m = cap := by simpa using hmm
  subst hm
  by_cases h0 : len = 0
  · subst h0
    exact ⟨[], .inr (.inl ⟨a, m, rfl, rfl⟩), by simp⟩
  rw [c71] at hel hx
  have each : ∀ i, i < m → ∃ s : Sp0, s.ok W ∧ ∀ j, j < 6 → W.cell? (a.add (i * 6 + j)) = (stx s)[j]? := by
    intro i hi
    obtain ⟨cs', h1, h2⟩ := hel i hi
    obtain ⟨_, hl, hg⟩ := World.cells?_some h1
    obtain ⟨s, ok, rfl⟩ := step h2 (fun b off hm => hfz b off (by
      rw [hx]
      simp only [List.mem_append, List.mem_flatMap, List.mem_range]
      exact .inr ⟨i, hi, hm⟩))
    exact ⟨s, ok, fun j hj => by rw [← add_adds]; exact hg j hj⟩
  obtain ⟨f, hf⟩ : ∃ f : Nat → Sp0, ∀ i, i < m → (f i).ok W ∧ ∀ j, j < 6 → W.cell? (a.add (i * 6 + j)) = (stx (f i))[j]? := by
    refine ⟨fun i => if h : i < m then Classical.choose (each i h) else ⟨0, 0, 0, 0, 0, .slice none 0 0, []⟩, fun i hi => ?_⟩
    simp only [dif_pos hi]
    exact Classical.choose_spec (each i hi)
  have first := (hf 0 (by omega)).2 0 (by omega)
  obtain ⟨b, off, spot⟩ := a
  have hfirst : spot = none ∧ ∃ C t fz, W.heap[b]? = some (.cells C t fz) := by
    have : W.cell? ⟨b, off, spot⟩ = some (.int .u8 ((f 0).kd : Int)) := first
    unfold World.cell? at this
    simp only [] at this
    split at this
    · rename_i C t fz hC
      cases spot with
      | none => exact ⟨rfl, C, t, fz, hC⟩
      | some z => simp at this
    · cases this
  obtain ⟨rfl, C, t, fz, hC⟩ := hfirst
  have cellC : ∀ j v, W.cell? ((⟨b, off, none⟩ : Addr).add j) = some v → C[off + j]? = some v := by
    intro j v hv
    rw [add_none] at hv
    unfold World.cell? at hv
    simp only [hC] at hv
    simpa using hv
  have hall : ∀ j, j < m * 6 → ∀ v, (stx (f (j / 6)))[j % 6]? = some v → C[off + j]? = some v := by
    intro j hj v hv
    have := (hf (j / 6) (by omega)).2 (j % 6) (by omega)
    rw [show j / 6 * 6 + j % 6 = j by omega, hv] at this
    exact cellC _ _ this
  refine ⟨(List.range len).map f, .inr (.inr ⟨b, off, m, C, t, fz, by simp, by simpa using hle, by simp; omega, hC, ?_, ?_, ?_⟩), ?_⟩
  · have hl : (stx (f ((len * 6 - 1) / 6))).length = 6 := rfl
    have hp := hall (len * 6 - 1) (by omega) _ (List.getElem?_eq_getElem (by rw [hl]; omega))
    have := (Array.getElem?_eq_some_iff.1 hp).1
    simp; omega
  · intro i hi
    simp only [List.length_map, List.length_range] at hi
    have := hfz b (off + i) (by rw [hx]; simp [MemPlace.row]; exact .inl (by omega))
    unfold World.frozen? at this
    simp only [hC] at this
    simpa using this
  · intro i v hv
    obtain ⟨s, hp, h2⟩ := flat_stx _ i v hv
    rw [List.getElem?_map] at hp
    have hlt : i / 6 < len := by
      rcases Nat.lt_or_ge (i / 6) len with q | q
      · exact q
      · rw [List.getElem?_eq_none (by simpa using q)] at hp; cases hp
    rw [List.getElem?_range hlt] at hp
    simp only [Option.map_some, Option.some.injEq] at hp
    subst hp
    exact hall i (by omega) v h2
  · intro s hs
    simp only [List.mem_map, List.mem_range] at hs
    obtain ⟨i, hi, rfl⟩ := hs
    exact (hf i (by omega)).1
set_option maxRecDepth 100000 in
theorem script_lifted (os : Os) (started : os.Started) (H : Type) (enc : TypeId × Value → H) :
    ReturnsInHanded {} Tryz.checked os 5 .any (fun w args => (Rows.layoutsScriptSpec.pre enc Tryz.prog Tryz.f5 [] false w args ∧ laidMetH Tryz.prog laid1 w) ∧ sizedMet enc Tryz.prog Tryz.f5 (OpenSpec.ofChange Rows.layoutsScriptSpec) false w args)
      (Rows.layoutsScriptSpec.post enc Tryz.prog Tryz.f5 false true false false) := by
  refine returnsInHanded_of_change_and (C := Tryz.checked) (X := fun w _ => laidMetH Tryz.prog laid1 w) (fun _ _ _ hh h => h.of_heap hh) own started (by kernel_rfl) Tryz.func5
    (ChangeSpec.witness_shaped (enc := enc) (C := Tryz.checked) (os := os) (X := fun w _ => laidMetH Tryz.prog laid1 w) false (World.doorLaid Tryz.prog 400 os) #[.agg #[.slice none 0 0], .slice none 0 0] 8 rfl (World.shaped_of_RefB (by kernel_rfl) (by kernel_rfl)) (by kernel_rfl) (by kernel_rfl) (by kernel_rfl) (door_met os _)) ?_
  intro W base args ds gs before hval0 hW _ _ hL _
  have hval : ∀ (j : Nat) t v, Tryz.f5.params[j]? = some t → args[j]? = some v → Value.okWide Tryz.prog W .any base t v := hval0
  have hW' := hW
  obtain ⟨p, q, hA0, hV, rfl, hfz, hnd⟩ := hW
  have hA : DataW.TrodAll enc Tryz.prog W 0 (fun _ => true) true Tryz.f5.params.toList args.toList ds p := hA0
  rw [Tryz.params5] at hA hval
  obtain ⟨v0, v1, d0, d1, p0, p1, rfl, rfl, rfl, t0, t1⟩ := trodAll_two hA
  obtain ⟨rfl, rfl⟩ := trodVars_none hV
  obtain ⟨cs0, rfl, hs0⟩ := okWide_struct Tryz.underlying50 (hval 0 50 v0 rfl rfl)
  rw [c50] at hs0
  obtain ⟨x, rfl⟩ := agg_one hs0
  obtain ⟨sa, sl, sc, rfl⟩ := okWide_slice Tryz.underlying69 (hval 1 69 v1 rfl rfl)
  have k0 := t0
  have k1 := t1
  obtain ⟨fu0, hf0⟩ := t0
  obtain ⟨y0, n0, hx0, _, hy0⟩ := trod_struct1 Tryz.underlying50 hf0
  rw [c48] at hy0
  have hy : DataW.trod enc Tryz.prog W 0 (fun _ => true) true n0 48 [x] = some y0 := hy0
  have ep0 : p0 = y0.2 := by simpa using (Prod.mk.inj hx0).2
  obtain ⟨ps, cm, hps⟩ := came hy (fun b off hm => hfz b off (by rw [← ep0] at hm; simp [hm]))
  obtain ⟨fu1, hf1⟩ := t1
  have hy1 : DataW.trod enc Tryz.prog W 0 (fun _ => true) true fu1 69 [.slice sa sl sc] = some (d1, p1) := hf1
  obtain ⟨S, cs, hs⟩ := cameS hy1 (fun b off hm => hfz b off (by simp [hm]))
  simp only [List.append_nil] at hW'
  have hlt := hW'.lt
  refine (Ev.Lay.Script_calls (of_laid hL) cm hps hs cs).mono fun e W' ⟨he, hB⟩ => ?_
  subst he
  refine ⟨_, rfl, _, _, _, [], p0 ++ p1, [], hW', ?_, ?_, ?_, hB.frame _, fun h => by cases h⟩
  · exact trodAll_mk1 (shut_bool Tryz.underlying4 true)
  · exact trodAll_mk2 (Below.trod laidOut (by kernel_rfl) (of_decide_eq_true (by kernel_rfl)) k0 hB (fun y hy => hlt y (by simp [hy]))) (Below.trod laidOut (by kernel_rfl) (of_decide_eq_true (by kernel_rfl)) k1 hB (fun y hy => hlt y (by simp [hy])))
  · rfl
theorem script_holds : Rows.LayoutsScriptSaid :=
  OpenClaim.holds_of_wide 5 Tryz.f5 rfl rfl rfl rfl rfl rfl rfl ⟨rfl, rfl, rfl, rfl, rfl⟩ rfl rfl rfl rfl rfl (by kernel_rfl) Tryz.func5 (by kernel_rfl)
    (of_decide_eq_true (by kernel_rfl)) (by unfold Func.isWrapper; rw [if_neg (of_decide_eq_false (by kernel_rfl))]; exact ⟨rfl, rfl⟩)
    (fun os started H enc _ => script_lifted os started H enc)
theorem script_card : Rows.LayoutsScriptCardSaid :=
  Claim7.holds_tied_plain_at .later [] [.data] true (true, "df1959a2318382bb92074abfa2bc69c74d18cf94375fe3b24e4ccf490c945f91") false
    script_holds (fun _ h => by cases h) (by kernel_rfl) (fun _ h => by cases h) layoutsScript_row_tie rfl ⟨rfl, rfl⟩ (by kernel_rfl) rfl
    (fun f fn hf hfn => by
      obtain rfl : f = 5 := Option.some.inj ((show Tryz.prog.funcNamed "paternoster/paternosterlaw34.LayoutsScript" = some 5 by kernel_rfl).symm.trans hf) |>.symm
      obtain rfl : fn = Tryz.f5 := (Option.some.inj (Tryz.func5.symm.trans hfn)).symm
      exact ⟨by kernel_rfl, fun j t ht => by
        rw [Tryz.params5] at ht
        have h3 : t = 50 ∨ t = 69 := by
          rcases j with _ | _ | j
          · left; simpa using ht.symm
          · right; simpa using ht.symm
          · simp at ht
        rcases h3 with rfl | rfl
        · exact (show Tryz.prog.wantsStandIn 50 = false by kernel_rfl)
        · exact (show Tryz.prog.wantsStandIn 69 = false by kernel_rfl)⟩)
    (by kernel_rfl)
end Go.Proofs.YtfhplbpjpmaoiaaGreatDoor
