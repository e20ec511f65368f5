/- An evaluator of the program, and contracts over it: TrTl to TrTl. -/
import Derived.Test.YthhhghfnhbocnaaGreatDoorProg
import Derived.ProofKit
import Derived.LaidMore
import Derived.OpenShut
import Derived.Stop.Joined
import Derived.Deep.Slices
import Derived.Deep.Strs
import Derived.Carry
import Derived.SizedLaws
import Derived.Lib.SmallJoins
import Derived.Test.YthhhghfnhbocnaaGreatDoorQY
set_option linter.unusedSimpArgs false
set_option linter.unusedVariables false
set_option linter.constructorNameAsVariable false
set_option linter.unnecessarySimpa false
namespace Go.Proofs.YthhhghfnhbocnaaGreatDoor
open Go.ChangeShapes Go.WideShapes Go.ChangeAt Go.WideMaps Go.WideElems Go.RowKit Go.Deep
open Go.Ev (TU HasR V ARecs)
open Go.Ev.Lay
theorem s2 : Tryz.prog.cellsOf 2 = 1 := by kernel_rfl
theorem s5 : Tryz.prog.cellsOf 5 = 1 := by kernel_rfl
theorem s24 : Tryz.prog.cellsOf 24 = 1 := by kernel_rfl
theorem s30 : Tryz.prog.cellsOf 30 = 1 := by kernel_rfl
theorem s32 : Tryz.prog.cellsOf 32 = 3 := by kernel_rfl
theorem s50 : Tryz.prog.cellsOf 50 = 3 := by kernel_rfl
theorem s51 : Tryz.prog.cellsOf 51 = 1 := by kernel_rfl
theorem s53 : Tryz.prog.cellsOf 53 = 3 := by kernel_rfl
theorem s55 : Tryz.prog.cellsOf 55 = 6 := by kernel_rfl
theorem w5 : Tryz.prog.bytesOf 5 = 1 := by kernel_rfl
theorem w55 : Tryz.prog.bytesOf 55 = 56 := by kernel_rfl
theorem add_adds (a : Addr) (x j : Nat) : (a.add x).add j = a.add (x + j) := by
  unfold Addr.add
  by_cases c : x = 0
  · subst c; simp
  · by_cases d : j = 0
    · subst d; simp
    · simp [c, d, Nat.add_assoc]
theorem add_none (b off j : Nat) : (⟨b, off, none⟩ : Addr).add j = ⟨b, off + j, none⟩ := by
  unfold Addr.add
  by_cases c : j = 0
  · subst c; simp
  · simp [c]
theorem flatten_at {β : Type} {k : Nat} (kp : 0 < k) : ∀ (ys : List (List β)), (∀ y ∈ ys, y.length = k) → ∀ (j : Nat) (x : β), ys.flatten[j]? = some x → ∃ y, ys[j / k]? = some y ∧ y[j % k]? = some x
  | [], _, j, x, h => by simp at h
  | y :: ys, hl, j, x, h => by
    have ly := hl y (by simp)
    rw [List.flatten_cons] at h
    by_cases c : j < k
    · rw [List.getElem?_append_left (by omega)] at h
      exact ⟨y, by rw [Nat.div_eq_of_lt c]; rfl, by rw [Nat.mod_eq_of_lt c]; exact h⟩
    · rw [List.getElem?_append_right (by omega), ly] at h
      obtain ⟨z, h1, h2⟩ := flatten_at kp ys (fun y m => hl y (by simp [m])) (j - k) x h
      refine ⟨z, ?_, ?_⟩
      · rw [show j = (j - k) + k by omega, Nat.add_div_right _ kp]; simpa using h1
      · rw [show j = (j - k) + k by omega, Nat.add_mod_right]; exact h2
section
variable {H : Type} {enc : TypeId × Value → H} {W : World}
theorem wAll {P : Program} {e : TypeId} : ∀ {ds : List (DataW H)} {d : DataW H}, d ∈ ds → ∀ w ∈ d.weights P e, w ∈ DataW.weightsAll P e ds
  | _ :: _, _, m, w, hw => by
    simp only [DataW.weightsAll, List.mem_append]
    rcases List.mem_cons.1 m with rfl | m
    · exact .inl hw
    · exact .inr (wAll m w hw)
theorem tellS {α : Type} {k bs : Nat} {f : α → List V} {Φ : Go.Ev.Heap → α → Prop} {Q : α → Prop} {tS tE : TypeId} {n p : Nat} {x : Value} {y : DataW H × List MemPlace} (ht : Tryz.prog.underlying tS = some (.slice tE)) (ck : Tryz.prog.cellsOf tE = k) (bk : Tryz.prog.bytesOf tE = bs) (kp : 0 < k) (fl : ∀ a, (f a).length = k)
    (nuf : ∀ a, ∃ v ∈ f a, ∀ n, v ≠ V.int .u64 n)
    (el : ∀ n cs (z : DataW H × List MemPlace), SizeOf.sizeOf z.1 < SizeOf.sizeOf y.1 → DataW.trod enc Tryz.prog W 0 (fun _ => true) true n tE cs = some z → (∀ b off, MemPlace.cell b off ∈ z.2 → W.frozen? ⟨b, off, none⟩ = false) → (∀ w ∈ z.1.weights Tryz.prog tE, w ≤ reachBytes) →
      ∀ p, ∃ a Ms Cs, TU W p (f a) cs Ms Cs ∧ (∀ h, HasR h p Cs → Φ h a) ∧ Q a)
    (h : DataW.trod enc Tryz.prog W 0 (fun _ => true) true n tS [x] = some y) (hfz : ∀ b off, MemPlace.cell b off ∈ y.2 → W.frozen? ⟨b, off, none⟩ = false) (hw : ∀ w ∈ y.1.weights Tryz.prog tS, w ≤ reachBytes) :
    ∃ (v : V) (L : List α) (Ms : List (Option Go.Ev.Loc)) (Cs : List (List V)), TU W p [v] [x] Ms Cs ∧ (∀ h, HasR h p Cs → ARecs f k h v L ∧ ∀ a ∈ L, Φ h a) ∧ (∀ a ∈ L, Q a) ∧ L.length * bs ≤ reachBytes ∧ Go.Ev.aP .lenS [v] = some (.int .i64 (L.length : Nat)) := by
  rcases open_slice ht h with ⟨e, _⟩ | ⟨a, len, cap, m, n', D, Pl, hcs, hb, hle, hmx, hmm, hx, hel⟩
  · obtain rfl : x = .slice none 0 0 := by simpa using e
    refine ⟨.nils, [], [], [], Go.Ev.TU.flat (fun m => ⟨_, [], rfl, rfl, rfl⟩) (fun u hu => ?_), fun h _ => ⟨⟨by simp, rfl⟩, by simp⟩, by simp, by simp, rfl⟩
    rw [List.mem_singleton.1 hu]; exact Go.Ev.VEx.nils
  obtain rfl : x = .slice (some a) len cap := by simpa using hcs
  have hm : m = cap := by simpa using hmm
  subst hm
  by_cases h0 : len = 0
  · subst h0
    refine ⟨.sliceZ a m, [], [], [], Go.Ev.TU.flat (fun _ => ⟨_, [], rfl, rfl, rfl⟩) (fun u hu => ?_), fun h _ => ⟨⟨by simp, rfl⟩, by simp⟩, by simp, by simp, rfl⟩
    rw [List.mem_singleton.1 hu]; exact Go.Ev.VEx.sliceZ _ _
  rw [ck] at hel hx
  obtain ⟨g, hg⟩ : ∃ g : Nat → List Value, ∀ i, i < m → W.cells? 0 (a.add (i * k)) k = some (g i) ∧ DataW.trod enc Tryz.prog W 0 (fun _ => true) true n' tE (g i) = some (D i, Pl i) := by
    refine ⟨fun i => if h : i < m then Classical.choose (hel i h) else [], fun i hi => ?_⟩
    simp only [dif_pos hi]
    exact Classical.choose_spec (hel i hi)
  have hgl : ∀ i, i < m → (g i).length = k ∧ ∀ j, j < k → W.cell? (a.add (i * k + j)) = (g i)[j]? := fun i hi => by
    obtain ⟨_, hl, hc⟩ := World.cells?_some (hg i hi).1
    exact ⟨hl, fun j hj => by rw [← add_adds]; exact hc j hj⟩
  have hfD : ∀ i, i < len → (∀ b off, MemPlace.cell b off ∈ Pl i → W.frozen? ⟨b, off, none⟩ = false) ∧ ∀ w ∈ (D i).weights Tryz.prog tE, w ≤ reachBytes := fun i hi => by
    refine ⟨fun b off hm => hfz b off ?_, fun w hm => hw w ?_⟩
    · rw [hx]
      exact List.mem_append.2 (.inr (List.mem_flatMap.2 ⟨i, List.mem_range.2 (by omega), hm⟩))
    · rw [hx]
      simp only [DataW.weights, ht, List.mem_cons, List.mem_append]
      exact .inr (.inl (wAll (List.mem_map.2 ⟨i, List.mem_range.2 hi, rfl⟩) w hm))
  obtain ⟨L, Ms, Cs, ll, t, ph, q⟩ := Go.Ev.tu_list (W := W) (f := f) (Φ := Φ) (Q := Q) ((List.range len).map g) (p + 1) fun y hy p => by
    obtain ⟨i, hi, rfl⟩ := List.mem_map.1 hy
    have hi := List.mem_range.1 hi
    have hD : SizeOf.sizeOf (D i) < SizeOf.sizeOf y.1 := by
      rw [hx]
      have h1 : SizeOf.sizeOf (D i) < SizeOf.sizeOf ((List.range len).map D) := List.sizeOf_lt_of_mem (List.mem_map.2 ⟨i, List.mem_range.2 hi, rfl⟩)
      simp only [DataW.slice.sizeOf_spec]
      omega
    exact el _ _ _ hD (hg i (by omega)).2 (hfD i hi).1 (hfD i hi).2 p
  obtain ⟨z0, hz0⟩ : ∃ z, (g 0)[0]? = some z := ⟨_, List.getElem?_eq_getElem (by rw [(hgl 0 (by omega)).1]; exact kp)⟩
  have first := (hgl 0 (by omega)).2 0 kp
  rw [hz0] at first
  obtain ⟨b, off, spot⟩ := a
  have hfirst : spot = none ∧ ∃ C t fz, W.heap[b]? = some (.cells C t fz) := by
    have := first
    rw [Nat.zero_mul, Nat.zero_add] at this
    have : W.cell? ⟨b, off, spot⟩ = some _ := this
    unfold World.cell? at this
    simp only [] at this
    split at this
    · rename_i C t fz hC
      cases spot with
      | none => exact ⟨rfl, C, t, fz, hC⟩
      | some z => simp at this
    · cases this
  obtain ⟨rfl, C, ty, fz, hC⟩ := hfirst
  have cellC : ∀ j v, W.cell? ((⟨b, off, none⟩ : Addr).add j) = some v → C[off + j]? = some v := by
    intro j v hv
    rw [add_none] at hv
    unfold World.cell? at hv
    simp only [hC] at hv
    simpa using hv
  have lk : len * k ≤ m * k := Nat.mul_le_mul_right _ hle
  have lp : 0 < len * k := Nat.mul_pos (by omega) kp
  have hall : ∀ j, j < m * k → ∀ v, (g (j / k))[j % k]? = some v → C[off + j]? = some v := by
    intro j hj v hv
    have := (hgl (j / k) ((Nat.div_lt_iff_lt_mul kp).2 hj)).2 (j % k) (Nat.mod_lt _ kp)
    rw [show j / k * k + j % k = j by rw [Nat.mul_comm]; exact Nat.div_add_mod j k, hv] at this
    exact cellC _ _ this
  have ll' : L.length = len := by simpa using ll
  have lf : (L.flatMap f).length = len * k := by rw [Go.Ev.flat_len' fl, ll']
  refine ⟨_, L, _, _, t.arr (b := b) (off := off) (n := len) (k := k) (cap := m) hC ?_ ?_ ?_ lf hle ?_, fun h hr => ⟨?_, ph h hr.tail⟩, q, ?_, by rw [ll']; rfl⟩
  · have hj : (len * k - 1) / k < m := (Nat.div_lt_iff_lt_mul kp).2 (by omega)
    have hp := hall (len * k - 1) (by omega) _ (List.getElem?_eq_getElem (by rw [(hgl _ hj).1]; exact Nat.mod_lt _ kp))
    have := (Array.getElem?_eq_some_iff.1 hp).1
    omega
  · intro i hi
    have := hfz b (off + i) (by rw [hx]; simp [MemPlace.row]; exact .inl (by omega))
    unfold World.frozen? at this
    simp only [hC] at this
    simpa using this
  · intro j u hu
    obtain ⟨y, h1, h2⟩ := flatten_at kp _ (fun y hy => by
      obtain ⟨i, hi, rfl⟩ := List.mem_map.1 hy
      exact (hgl i (by have := List.mem_range.1 hi; omega)).1) j u hu
    rw [List.getElem?_map] at h1
    have hlt : j / k < len := by
      rcases Nat.lt_or_ge (j / k) len with q | q
      · exact q
      · rw [List.getElem?_eq_none (by simpa using q)] at h1; cases h1
    rw [List.getElem?_range hlt] at h1
    simp only [Option.map_some, Option.some.injEq] at h1
    subst h1
    have hj := (Nat.div_lt_iff_lt_mul kp).1 hlt
    exact hall j (by omega) _ h2
  · obtain ⟨a0, l0, eL⟩ : ∃ a0 l0, L = a0 :: l0 := by cases L with | nil => simp at ll'; omega | cons a0 l0 => exact ⟨a0, l0, rfl⟩
    obtain ⟨v, hv, ne⟩ := nuf a0
    exact ⟨v, by rw [eL, List.flatMap_cons]; exact List.mem_append.2 (.inl hv), ne⟩
  · refine ⟨by rw [ll']; exact lf, ll'.symm, by rw [ll']; exact hle, _, .inr (hr 0 _ rfl), by rw [ll', lf]; omega, by rw [List.drop_zero, List.take_of_length_le (by rw [ll', lf]; omega)]⟩
  · have := hw ((len + (m - len)) * bs) (by rw [hx]; simp [DataW.weights, ht, bk])
    rw [ll']
    exact Nat.le_trans (Nat.mul_le_mul_right _ (by omega)) this
end
theorem len3 {α : Type} {l : List α} (h : l.length = 3) : ∃ a0 a1 a2, l = [a0, a1, a2] := by
  match l, h with
  | [a0, a1, a2], _ => exact ⟨a0, a1, a2, rfl⟩
theorem len4 {α : Type} {l : List α} (h : l.length = 4) : ∃ a0 a1 a2 a3, l = [a0, a1, a2, a3] := by
  match l, h with
  | [a0, a1, a2, a3], _ => exact ⟨a0, a1, a2, a3, rfl⟩
theorem len6 {α : Type} {l : List α} (h : l.length = 6) : ∃ a0 a1 a2 a3 a4 a5, l = [a0, a1, a2, a3, a4, a5] := by
  match l, h with
  | [a0, a1, a2, a3, a4, a5], _ => exact ⟨a0, a1, a2, a3, a4, a5, rfl⟩
theorem HasR.st {h : Go.Ev.Heap} {p : Nat} {Cs : List (List V)} {Φ : Go.Ev.Heap → Prop} (r : ∀ h, HasR h p Cs → Φ h) (hr : HasR h p Cs) : Stab (fun _ => False) h Φ := fun _ h' _ f => r h' fun i c e => f.ro _ _ (hr i c e)
section
variable {H : Type} {enc : TypeId × Value → H} {W : World}
theorem elB {n : Nat} {cs : List Value} {y : DataW H × List MemPlace} (h : DataW.trod enc Tryz.prog W 0 (fun _ => true) true n 5 cs = some y) : ∃ k : Nat, k < 256 ∧ cs = [.int .u8 (k : Int)] := by
  obtain ⟨k0, e0, _, w0⟩ := DataW.trod_int Tryz.underlying5 h
  have b0 := bounds_u8 w0
  obtain ⟨kk, rfl⟩ : ∃ n : Nat, k0 = n := ⟨k0.toNat, by omega⟩
  exact ⟨kk, by omega, e0⟩
theorem elU {n : Nat} {cs : List Value} {y : DataW H × List MemPlace} (h : DataW.trod enc Tryz.prog W 0 (fun _ => true) true n 24 cs = some y) : ∃ k : Int, (0 ≤ k ∧ k ≤ 18446744073709551615) ∧ cs = [.int .u64 k] := by
  obtain ⟨k0, e0, _, w0⟩ := DataW.trod_int Tryz.underlying24 h
  have b0 := bounds_u64 w0
  exact ⟨k0, ⟨by omega, by omega⟩, e0⟩
theorem elZ {n : Nat} {cs : List Value} {y : DataW H × List MemPlace} (h : DataW.trod enc Tryz.prog W 0 (fun _ => true) true n 2 cs = some y) : ∃ k : Int, R64 k ∧ cs = [.int .i64 k] := by
  obtain ⟨k0, e0, _, w0⟩ := DataW.trod_int Tryz.underlying2 h
  have b0 := bounds_i64 w0
  exact ⟨k0, ⟨by omega, by omega⟩, e0⟩
theorem tI {p : Nat} (k : IntKind) (n : Int) : TU W p [.int k n] [.int k n] [] [] := Go.Ev.TU.flat (fun m => ⟨_, _, rfl, rfl, rfl⟩) (fun u hu => by rw [List.mem_singleton.1 hu]; exact Go.Ev.VEx.int _ _)
theorem tA {p : Nat} {vs vs' : List V} {xs xs' : List Value} {Ms : List (Option Go.Ev.Loc)} {Cs : List (List V)} (s : TU W p vs xs [] []) (t : TU W p vs' xs' Ms Cs) : TU W p (vs ++ vs') (xs ++ xs') Ms Cs := s.app t
theorem elC (n : Nat) (cs : List Value) (y : DataW H × List MemPlace) (h : DataW.trod enc Tryz.prog W 0 (fun _ => true) true n 5 cs = some y) (p : Nat) :
    ∃ (a : Nat) (Ms : List (Option Go.Ev.Loc)) (Cs : List (List V)), TU W p (u8C a) cs Ms Cs ∧ (∀ h, HasR h p Cs → (fun (_ : Go.Ev.Heap) (_ : Nat) => True) h a) ∧ (fun c : Nat => c < 256) a := by
  obtain ⟨k, hk, e⟩ := elB h
  cases e
  exact ⟨k, [], [], tI .u8 (k : Int), fun _ _ => trivial, hk⟩
/-- a tree as plain data -/
theorem elN (n : Nat) (cs : List Value) (y : DataW H × List MemPlace) (h : DataW.trod enc Tryz.prog W 0 (fun _ => true) true n 53 cs = some y) (hfz : ∀ b off, MemPlace.cell b off ∈ y.2 → W.frozen? ⟨b, off, none⟩ = false) (hw : ∀ w ∈ y.1.weights Tryz.prog 53, w ≤ reachBytes) (p : Nat) :
    ∃ (a : Dn) (Ms : List (Option Go.Ev.Loc)) (Cs : List (List V)), TU W p a.cells cs Ms Cs ∧ (∀ h, HasR h p Cs → DnH h a) := by
  obtain ⟨xs, n1, _, rfl, hl, hlen, hf⟩ := DataW.trod_struct Tryz.underlying53 h
  rw [s53] at hl
  obtain ⟨v0, v1, v2, rfl⟩ := len3 hl
  obtain ⟨y0, y1, y2, rfl⟩ := len3 hlen
  have h0 : DataW.trod enc Tryz.prog W 0 (fun _ => true) true n1 5 (([v0, v1, v2].drop 0).take (Tryz.prog.cellsOf 5)) = some y0 := hf 0 _ rfl
  rw [s5] at h0
  have h0 : DataW.trod enc Tryz.prog W 0 (fun _ => true) true n1 5 [v0] = some y0 := h0
  have h1 : DataW.trod enc Tryz.prog W 0 (fun _ => true) true n1 5 (([v0, v1, v2].drop 1).take (Tryz.prog.cellsOf 5)) = some y1 := hf 1 _ rfl
  rw [s5] at h1
  have h1 : DataW.trod enc Tryz.prog W 0 (fun _ => true) true n1 5 [v1] = some y1 := h1
  have h2 : DataW.trod enc Tryz.prog W 0 (fun _ => true) true n1 51 (([v0, v1, v2].drop 2).take (Tryz.prog.cellsOf 51)) = some y2 := hf 2 _ rfl
  rw [s51] at h2
  have h2 : DataW.trod enc Tryz.prog W 0 (fun _ => true) true n1 51 [v2] = some y2 := h2
  obtain ⟨k0, hk0, e0⟩ := elB h0
  obtain ⟨k1, hk1, e1⟩ := elB h1
  obtain ⟨v, L, Ms, Cs, T, r, hQ, hL, _⟩ := tellS (p := p) (f := u8C) Tryz.underlying51 s5 w5 (by omega) u8C_len (fun a => ⟨_, List.mem_singleton.2 rfl, fun n e => by cases e⟩) (fun n cs z _ g _ _ p => elC n cs z g p) h2 (fun b off m => hfz b off (by simp [m])) (fun w m => hw w (by
    simp only [DataW.weights, Tryz.underlying53, DataW.weightsEach, List.map_cons, List.mem_append]
    simp [m]))
  cases e0; cases e1
  have rb := reachBytes_lt
  exact ⟨⟨k0, k1, v, L⟩, Ms, Cs, tA (tI .u8 (k0 : Int)) (tA (tI .u8 (k1 : Int)) T), fun h hr => ⟨hk1, hQ, by show L.length < 281474976710656; omega, HasR.st (fun h hr => (r h hr).1) hr⟩⟩
/-- a row as plain data -/
theorem elW (n : Nat) (cs : List Value) (y : DataW H × List MemPlace) (h : DataW.trod enc Tryz.prog W 0 (fun _ => true) true n 55 cs = some y) (hfz : ∀ b off, MemPlace.cell b off ∈ y.2 → W.frozen? ⟨b, off, none⟩ = false) (hw : ∀ w ∈ y.1.weights Tryz.prog 55, w ≤ reachBytes) (p : Nat) :
    ∃ (a : Dw) (Ms : List (Option Go.Ev.Loc)) (Cs : List (List V)), TU W p a.cells cs Ms Cs ∧ (∀ h, HasR h p Cs → (fun h a => DwH h a) h a) ∧ (fun _ : Dw => True) a := by
  obtain ⟨xs, n1, _, rfl, hl, hlen, hf⟩ := DataW.trod_struct Tryz.underlying55 h
  rw [s55] at hl
  obtain ⟨v0, v1, v2, v3, v4, v5, rfl⟩ := len6 hl
  obtain ⟨y0, y1, y2, y3, rfl⟩ := len4 hlen
  have h0 : DataW.trod enc Tryz.prog W 0 (fun _ => true) true n1 24 (([v0, v1, v2, v3, v4, v5].drop 0).take (Tryz.prog.cellsOf 24)) = some y0 := hf 0 _ rfl
  rw [s24] at h0
  have h0 : DataW.trod enc Tryz.prog W 0 (fun _ => true) true n1 24 [v0] = some y0 := h0
  have h1 : DataW.trod enc Tryz.prog W 0 (fun _ => true) true n1 2 (([v0, v1, v2, v3, v4, v5].drop 1).take (Tryz.prog.cellsOf 2)) = some y1 := hf 1 _ rfl
  rw [s2] at h1
  have h1 : DataW.trod enc Tryz.prog W 0 (fun _ => true) true n1 2 [v1] = some y1 := h1
  have h2 : DataW.trod enc Tryz.prog W 0 (fun _ => true) true n1 2 (([v0, v1, v2, v3, v4, v5].drop 2).take (Tryz.prog.cellsOf 2)) = some y2 := hf 2 _ rfl
  rw [s2] at h2
  have h2 : DataW.trod enc Tryz.prog W 0 (fun _ => true) true n1 2 [v2] = some y2 := h2
  have h3 : DataW.trod enc Tryz.prog W 0 (fun _ => true) true n1 53 (([v0, v1, v2, v3, v4, v5].drop 3).take (Tryz.prog.cellsOf 53)) = some y3 := hf 3 _ rfl
  rw [s53] at h3
  have h3 : DataW.trod enc Tryz.prog W 0 (fun _ => true) true n1 53 [v3, v4, v5] = some y3 := h3
  obtain ⟨k0, hk0, e0⟩ := elU h0
  obtain ⟨k1, hk1, e1⟩ := elZ h1
  obtain ⟨k2, hk2, e2⟩ := elZ h2
  obtain ⟨a, Ms, Cs, T, r⟩ := elN n1 _ y3 h3 (fun b off m => hfz b off (by simp [m])) (fun w m => hw w (by
    simp only [DataW.weights, Tryz.underlying55, DataW.weightsEach, List.map_cons, List.mem_append]
    simp [m])) p
  cases e0; cases e1; cases e2
  exact ⟨⟨k0, k1, k2, a⟩, Ms, Cs, tA (tI .u64 k0) (tA (tI .i64 k1) (tA (tI .i64 k2) T)), fun h hr => ⟨r h hr, hk0, hk1, hk2⟩, trivial⟩
theorem dw_nu (a : Dw) : ∃ v ∈ a.cells, ∀ n, v ≠ V.int .u64 n := ⟨.int .i64 a.top, by simp [Dw.cells], fun n e => by cases e⟩
/-- a slice as plain data -/
theorem tellT {n p : Nat} {cs : List Value} {y : DataW H × List MemPlace} (h : DataW.trod enc Tryz.prog W 0 (fun _ => true) true n 32 cs = some y) (hfz : ∀ b off, MemPlace.cell b off ∈ y.2 → W.frozen? ⟨b, off, none⟩ = false) (hw : ∀ w ∈ y.1.weights Tryz.prog 32, w ≤ reachBytes) :
    ∃ (x : Dt) (Ms : List (Option Go.Ev.Loc)) (Cs : List (List V)), cs.length = 3 ∧ TU W p x.cells cs Ms Cs ∧ (∀ h, HasR h p Cs → DtH h x) ∧ R64 x.off := by
  obtain ⟨xs, n1, _, rfl, hl, hlen, hf⟩ := DataW.trod_struct Tryz.underlying32 h
  rw [s32] at hl
  obtain ⟨v0, v1, v2, rfl⟩ := len3 hl
  obtain ⟨y0, y1, y2, rfl⟩ := len3 hlen
  have h0 : DataW.trod enc Tryz.prog W 0 (fun _ => true) true n1 2 (([v0, v1, v2].drop 0).take (Tryz.prog.cellsOf 2)) = some y0 := hf 0 _ rfl
  rw [s2] at h0
  have h0 : DataW.trod enc Tryz.prog W 0 (fun _ => true) true n1 2 [v0] = some y0 := h0
  have h1 : DataW.trod enc Tryz.prog W 0 (fun _ => true) true n1 30 (([v0, v1, v2].drop 1).take (Tryz.prog.cellsOf 30)) = some y1 := hf 1 _ rfl
  rw [s30] at h1
  have h1 : DataW.trod enc Tryz.prog W 0 (fun _ => true) true n1 30 [v1] = some y1 := h1
  have h2 : DataW.trod enc Tryz.prog W 0 (fun _ => true) true n1 30 (([v0, v1, v2].drop 2).take (Tryz.prog.cellsOf 30)) = some y2 := hf 2 _ rfl
  rw [s30] at h2
  have h2 : DataW.trod enc Tryz.prog W 0 (fun _ => true) true n1 30 [v2] = some y2 := h2
  obtain ⟨k0, hk0, e0⟩ := elZ h0
  obtain ⟨vr, L, Ms, Cs, T, r, _, hL, _⟩ := tellS (p := p) (f := Dw.cells) Tryz.underlying30 s55 w55 (by omega) Dw.len dw_nu (fun n cs z _ g f w p => elW n cs z g f w p) h1 (fun b off m => hfz b off (by simp [m])) (fun w m => hw w (by
    simp only [DataW.weights, Tryz.underlying32, DataW.weightsEach, List.map_cons, List.mem_append]
    simp [m]))
  obtain ⟨vh, L', Ms', Cs', T', r', _, hL', _⟩ := tellS (p := p + Ms.length) (f := Dw.cells) Tryz.underlying30 s55 w55 (by omega) Dw.len dw_nu (fun n cs z _ g f w p => elW n cs z g f w p) h2 (fun b off m => hfz b off (by simp [m])) (fun w m => hw w (by
    simp only [DataW.weights, Tryz.underlying32, DataW.weightsEach, List.map_cons, List.mem_append]
    simp [m]))
  cases e0
  have rb := reachBytes_lt
  refine ⟨⟨k0, vr, L, vh, L'⟩, _, _, rfl, tA (tI .i64 k0) (T.app T'), fun h hr => ⟨⟨?_, ?_, by show L.length < _; omega⟩, ⟨?_, ?_, by show L'.length < _; omega⟩⟩, hk0⟩
  · exact HasR.st (fun h hr => (r h hr).1) hr.left
  · exact (r h hr.left).2
  · exact HasR.st (fun h hr => (r' h hr).1) (by rw [T.l]; exact hr.right)
  · exact (r' h (by rw [T.l]; exact hr.right)).2
end
end Go.Proofs.YthhhghfnhbocnaaGreatDoor
