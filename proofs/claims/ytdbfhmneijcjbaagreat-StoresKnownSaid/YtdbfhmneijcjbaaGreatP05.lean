/- An evaluator of the program, and contracts over it: EvWd to LayAb. -/
import Derived.Test.YtdbfhmneijcjbaaGreatP04
set_option linter.unusedSimpArgs false
set_option linter.unusedVariables false
set_option linter.constructorNameAsVariable false
namespace Go.Ev
theorem abound_ok (k : IntKind) (i : Int) (y : Nat) (h0 : 0 ≤ i) (h1 : i ≤ y) : abound (.int k i) y = some i.toNat := by
 obtain ⟨n, rfl⟩ : ∃ n : Nat, i = n := ⟨i.toNat, by omega⟩
 have : Nat.ble n y = true := (Nat.ble_eq ..).mpr (by omega)
 show (bif Nat.ble n y then some n else none) = _
 rw [this]; rfl
theorem beq_ff {a b : Nat} (h : a ≠ b) : Nat.beq a b = false := by
 cases hb : Nat.beq a b
 · rfl
 · exact absurd (Nat.eq_of_beq_eq_true hb) h
theorem beq_tt {a b : Nat} (h : a = b) : Nat.beq a b = true := by subst h; simp
theorem blt_ff {a b : Nat} (h : ¬ a < b) : Nat.blt a b = false := by
 cases hb : Nat.blt a b
 · rfl
 · exact absurd ((Nat.blt_eq ..).mp hb) h
theorem ble_ff {a b : Nat} (h : ¬ a ≤ b) : Nat.ble a b = false := by
 cases hb : Nat.ble a b
 · rfl
 · exact absurd ((Nat.ble_eq ..).mp hb) h
theorem Sl.part {h : Heap} {esz : Nat} {v : V} {n : Nat} {cs : List V} (a : Sl h esz v n cs) (he : 0 < esz) (hv : v ≠ .sliceE) (lo hi : Bool) (bs : List V) (l u : Nat) (hu : u ≤ n) (hl : l ≤ u)
 (hb : ∀ y, n ≤ y → abounds n y lo hi false bs = some (l, u, none)) :
 ∃ v', aP (.sl none esz lo hi false) (v :: bs) = some v' ∧ Sl h esz v' (u - l) ((cs.drop (l * esz)).take ((u - l) * esz)) := by
 obtain ⟨hlen, a⟩ := a
 have hm : l * esz + (u - l) * esz ≤ n * esz := by rw [← Nat.add_mul]; exact Nat.mul_le_mul_right _ (by omega)
 have hlen' : ((cs.drop (l * esz)).take ((u - l) * esz)).length = (u - l) * esz := by simp; omega
 have main : ∀ (b o : Nat) (c : List V), Own h b c → o + n * esz ≤ c.length → cs = (c.drop o).take (n * esz) →
  (cs.drop (l * esz)).take ((u - l) * esz) = (c.drop (o + l * esz)).take ((u - l) * esz) := by
  intro b o c _ hlen e
  subst e
  rw [List.drop_take, List.drop_drop, List.take_take]
  congr 1
  omega
 cases v with
 | slice b o len cap =>
  obtain ⟨rfl, hcap, c, hc, hlen2, e⟩ := a
  refine ⟨.slice b (bif Nat.beq cap l then o else o + l * esz) (u - l) (cap - l), by simp only [aP, aslice, hb cap hcap, Option.map_some, Option.getD_none], hlen', rfl, by omega, c, hc, ?_⟩
  by_cases hcl : cap = l
  · have h0 : u - l = 0 := by omega
    rw [beq_tt hcl, h0]; simp; omega
  · rw [beq_ff hcl]
    exact ⟨by simp only [cond_false]; omega, main b o c hc hlen2 e⟩
 | sliceU b o len q =>
  obtain ⟨rfl, rfl, c, hc, hlen2, e⟩ := a
  have hq : (Nat.beq q q && Nat.blt 0 q) = true := by simp [Nat.blt_eq, he]
  by_cases h1 : l < len
  · refine ⟨.sliceU b (o + l * q) (u - l) q, ?_, hlen', rfl, rfl, c, hc, by omega, main b o c hc hlen2 e⟩
    simp only [aP, aslice, hq, cond_true, hb len (Nat.le_refl _), Option.bind_some, (Nat.blt_eq ..).mpr h1]
  · have hl0 : u - l = 0 := by omega
    by_cases h2 : l = 0
    · subst h2
      refine ⟨.sliceU b o (u - 0) q, ?_, hlen', rfl, rfl, c, hc, by omega, by simpa using main b o c hc hlen2 e⟩
      simp only [aP, aslice, hq, cond_true, hb len (Nat.le_refl _), Option.bind_some, blt_ff h1, cond_false, show Nat.beq 0 0 = true from rfl]
    · refine ⟨.sliceE, ?_, hlen', hl0⟩
      simp only [aP, aslice, hq, cond_true, hb len (Nat.le_refl _), Option.bind_some, blt_ff h1, cond_false, beq_ff h2]
 | nils =>
  have a : n = 0 := a
  subst a
  refine ⟨.nils, ?_, hlen', by omega⟩
  simp only [aP, aslice, hb 0 (Nat.le_refl _), Option.map_some]
 | sliceE => exact absurd rfl hv
 | _ => exact a.elim
theorem Sl.ne {h : Heap} {esz : Nat} {v : V} {n : Nat} {cs : List V} (a : Sl h esz v n cs) (hn : 0 < n) : v ≠ .sliceE := by
 rintro rfl
 have : n = 0 := a.2
 omega
theorem Sl.from' {h : Heap} {esz : Nat} {v : V} {n : Nat} {cs : List V} (a : Sl h esz v n cs) (he : 0 < esz) (hv : v ≠ .sliceE) (k : IntKind) (i : Int) (h0 : 0 ≤ i) (h1 : i ≤ n) :
 ∃ v', aP (.sl none esz true false false) [v, .int k i] = some v' ∧ Sl h esz v' (n - i.toNat) (cs.drop (i.toNat * esz)) := by
 obtain ⟨v', e, s⟩ := a.part he hv true false [.int k i] i.toNat n (Nat.le_refl _) (by omega) (fun y _ => by simp only [abounds, abound_ok k i n h0 h1, Option.map_some])
 refine ⟨v', e, ?_⟩
 have hm : i.toNat * esz + (n - i.toNat) * esz = n * esz := by rw [← Nat.add_mul]; congr 1; omega
 rwa [List.take_of_length_le (by simp [a.1]; omega)] at s
theorem Sl.upto {h : Heap} {esz : Nat} {v : V} {n : Nat} {cs : List V} (a : Sl h esz v n cs) (he : 0 < esz) (hv : v ≠ .sliceE) (k : IntKind) (i : Int) (h0 : 0 ≤ i) (h1 : i ≤ n) :
 ∃ v', aP (.sl none esz false true false) [v, .int k i] = some v' ∧ Sl h esz v' i.toNat (cs.take (i.toNat * esz)) := by
 obtain ⟨v', e, s⟩ := a.part he hv false true [.int k i] 0 i.toNat (by omega) (by omega) (fun y hy => by simp only [abounds, abound_ok k i y h0 (by omega), Option.map_some])
 exact ⟨v', e, by simpa using s⟩
theorem Sl.range {h : Heap} {esz : Nat} {v : V} {n : Nat} {cs : List V} (a : Sl h esz v n cs) (he : 0 < esz) (hv : v ≠ .sliceE) (k k' : IntKind) (i j : Int) (h0 : 0 ≤ i) (h1 : i ≤ j) (h2 : j ≤ n) :
 ∃ v', aP (.sl none esz true true false) [v, .int k i, .int k' j] = some v' ∧ Sl h esz v' (j.toNat - i.toNat) ((cs.drop (i.toNat * esz)).take ((j.toNat - i.toNat) * esz)) := by
 obtain ⟨v', e, s⟩ := a.part he hv true true [.int k i, .int k' j] i.toNat j.toNat (by omega) (by omega) (fun y hy => by
  simp only [abounds, abound_ok k' j y (by omega) (by omega), Option.bind_some, abound_ok k i j.toNat h0 (by omega), Option.map_some])
 exact ⟨v', e, s⟩
def Gs (h : Heap) (B : Nat) (esz : Nat) (v : V) (cs : List V) : Prop := (v = .nils ∧ cs = []) ∨ ∃ b n, v = .sliceU b 0 n esz ∧ cs.length = n * esz ∧ 0 < n ∧ B ≤ b ∧ Own h b cs
theorem Gs.sl {h : Heap} {B esz : Nat} {v : V} {cs : List V} {n : Nat} (a : Gs h B esz v cs) (hn : cs.length = n * esz) (he : 0 < esz) : Sl h esz v n cs := by
 rcases a with ⟨rfl, rfl⟩ | ⟨b, m, rfl, hm, _, _, o⟩
 · refine ⟨hn, ?_⟩
   have : 0 = n * esz := hn
   rcases Nat.eq_zero_or_pos n with h | h
   · exact h
   · have := Nat.mul_pos h he; omega
 · have : m = n := Nat.eq_of_mul_eq_mul_right he (by omega)
   subst this
   exact ⟨hn, rfl, rfl, cs, o, by omega, by simp [← hn]⟩
theorem Gs.one {h : Heap} {B esz : Nat} {v : V} {cs : List V} (a : Gs h B esz v cs) : v.one = true := by
 rcases a with ⟨rfl, rfl⟩ | ⟨b, m, rfl, _⟩ <;> rfl
theorem Gs.fr {h h' : Heap} {B esz : Nat} {v : V} {cs : List V} (a : Gs h B esz v cs) (f : Fr [] h h') : Gs h' B esz v cs := by
 rcases a with ⟨rfl, rfl⟩ | ⟨b, m, rfl, h1, h2, h3, o⟩
 · exact .inl ⟨rfl, rfl⟩
 · exact .inr ⟨b, m, rfl, h1, h2, h3, f.get o⟩
structure Up (B : Nat) (h h' : Heap) : Prop where
 next : h.next ≤ h'.next
 wf : WF h'
 own : ∀ b c, b < B → Own h b c → Own h' b c
 pl : ∀ b c, b < B → Pl h b c → Pl h' b c
 lp : ∀ b x, isLp x = true → h.bl.get b = some x → h'.bl.get b = some x
 ro : ∀ b c, Rs h b c → Rs h' b c
theorem Fr.up {S : List Nat} {h h' : Heap} {B : Nat} (f : Fr S h h') (hs : ∀ x ∈ S, B ≤ x) : Up B h h' :=
 ⟨f.next, f.wf, fun b c hb o => f.own b c (fun m => by have := hs b m; omega) o, fun b c hb o => f.pl b c (fun m => by have := hs b m; omega) o, f.lp, f.ro⟩
theorem Fr.ups {h0 h h' : Heap} (f : Fr [] h0 h) (w : WF h0) (u : Up h0.next h h') : Fr [] h0 h' :=
 ⟨Nat.le_trans f.next u.next, u.wf, fun b c _ o => u.own b c (o.lt w) (f.get o), fun b c _ o => u.pl b c (o.own.lt w) (f.pl b c (by simp) o), fun b x hx o => u.lp b x hx (f.lp b x hx o), fun b c r => u.ro b c (f.ro b c r)⟩
theorem Up.refl {B : Nat} {h : Heap} (w : WF h) : Up B h h := ⟨Nat.le_refl _, w, fun _ _ _ o => o, fun _ _ _ o => o, fun _ _ _ o => o, fun _ _ o => o⟩
theorem Up.trans {B : Nat} {h h1 h2 : Heap} (a : Up B h h1) (b : Up B h1 h2) : Up B h h2 :=
 ⟨Nat.le_trans a.next b.next, b.wf, fun x c hx o => b.own x c hx (a.own x c hx o), fun x c hx o => b.pl x c hx (a.pl x c hx o), fun x k hk o => b.lp x k hk (a.lp x k hk o), fun x c r => b.ro x c (a.ro x c r)⟩
theorem Fr.fresh {h h1 h2 : Heap} {b : Nat} (a : Fr [] h h1) (c : Fr [b] h1 h2) (w : WF h) (hb : h.next ≤ b) : Fr [] h h2 :=
 a.trans c w (by simp) (by simp; exact hb)
theorem own_super {h : Heap} {b pos : Nat} {c c' : List V} (w : WF h) (a : Own h b c) : ∃ h', hsuper h b pos c' = some h' ∧ Own h' h.next c' ∧ Fr [b] h h' := by
 have hb := a.lt w
 obtain ⟨f, k, e, x⟩ := a
 have hf : f < h.next := by
  rcases x with ⟨_, rfl⟩ | ⟨e', x⟩
  · exact hb
  · rcases Nat.lt_or_ge f h.next with y | y
    · exact y
    · rw [(w f y).2] at x; cases x
 have go : ∀ (e0 e1 : Nat), (h.fams.get f = none ∧ f = b ∨ ∃ e, h.fams.get f = some (b, e)) →
  Own ⟨(h.bl.set b (.row c f e0)).set h.next (.row c' f 0), h.next + 1, h.fams.set f (h.next, e1)⟩ h.next c' ∧
  Fr [b] h ⟨(h.bl.set b (.row c f e0)).set h.next (.row c' f 0), h.next + 1, h.fams.set f (h.next, e1)⟩ := by
  intro e0 e1 x
  refine ⟨⟨f, 0, T.get_set_self _ _ _, .inr ⟨e1, T.get_set_self _ _ _⟩⟩, ⟨Nat.le_succ _, ?_, ?_, ?_, fun q y hy ey => by
   have h1 : q ≠ b := by intro eq; rw [eq, e] at ey; cases ey; cases hy
   have h2 : q ≠ h.next := by rintro rfl; rw [(w _ (Nat.le_refl _)).1] at ey; cases ey
   show ((h.bl.set b _).set h.next _).get q = _
   rw [T.get_set_ne _ _ h2, T.get_set_ne _ _ h1]; exact ey, fun q y r => by
   have r1 : Rs ⟨h.bl.set b (.row c f e0), h.next, h.fams.set f (h.next, e1)⟩ q y := r.set e (by rcases x with ⟨x, _⟩ | x; exact .inl x; exact .inr x) _ (.inr ⟨_, rfl⟩) _ (Nat.le_refl _)
   obtain ⟨f', k', ow, p1, p2, p3, p4⟩ := r1
   have p1' : (h.bl.set b (.row c f e0)).get q = some (.row y f' k') := p1
   have p4' : ow < h.next := p4
   have hq : q ≠ h.next := by
    rintro rfl
    rw [T.get_set_ne _ _ (by omega), (w _ (Nat.le_refl _)).1] at p1'; cases p1'
   refine ⟨f', k', ow, ?_, p2, ?_, by show ow < h.next + 1; omega⟩
   · show ((h.bl.set b _).set h.next _).get q = _
     rw [T.get_set_ne _ _ hq]; exact p1
   · show ((h.bl.set b _).set h.next _).get ow = _
     rw [T.get_set_ne _ _ (by omega)]; exact p3⟩⟩
  · intro p hp
    have hp' : h.next + 1 ≤ p := hp
    have := w p (by omega)
    refine ⟨?_, ?_⟩
    · show ((h.bl.set b _).set h.next _).get p = none
      rw [T.get_set_ne _ _ (by omega), T.get_set_ne _ _ (by omega)]; exact this.1
    · show (h.fams.set f _).get p = none
      rw [T.get_set_ne _ _ (by omega)]; exact this.2
  · rintro q d hq o
    have hq' := o.lt w
    obtain ⟨f1, k1, e2, x1⟩ := o
    simp at hq
    refine ⟨f1, k1, ?_, ?_⟩
    · show ((h.bl.set b _).set h.next _).get q = _
      rw [T.get_set_ne _ _ (by omega), T.get_set_ne _ _ hq]; exact e2
    · have hne : f1 ≠ f := by
       rintro rfl
       rcases x with ⟨xa, xb⟩ | ⟨e', xa⟩
       · rcases x1 with ⟨_, y⟩ | ⟨e3, y⟩
         · exact hq (y.symm.trans xb)
         · rw [xa] at y; cases y
       · rcases x1 with ⟨y, _⟩ | ⟨e3, y⟩
         · rw [xa] at y; cases y
         · rw [xa] at y; cases y; exact hq rfl
      show ((h.fams.set f _).get f1 = none ∧ _) ∨ ∃ e, (h.fams.set f _).get f1 = some (q, e)
      rw [T.get_set_ne _ _ hne]; exact x1
  · rintro q d hq o
    have hq' := o.own.lt w
    obtain ⟨⟨k1, e2⟩, x1⟩ := o
    simp at hq
    refine ⟨⟨k1, ?_⟩, ?_⟩
    · show ((h.bl.set b _).set h.next _).get q = _
      rw [T.get_set_ne _ _ (by omega), T.get_set_ne _ _ hq]; exact e2
    · show (h.fams.set f _).get q = none
      rw [T.get_set_ne _ _ ?_]
      · exact x1
      · rintro rfl
        rcases x with ⟨_, xb⟩ | ⟨e', xa⟩
        · exact hq xb
        · rw [xa] at x1; cases x1
 simp only [hsuper, e]
 rcases x with ⟨x, rfl⟩ | ⟨e', x⟩
 · rw [x]
   exact ⟨_, rfl, go _ _ (.inl ⟨x, rfl⟩)⟩
 · rw [x]
   simp only [Nat.beq_refl, cond_true]
   exact ⟨_, rfl, go _ _ (.inr ⟨e', x⟩)⟩
theorem Sl.srcLen {h : Heap} {esz : Nat} {v : V} {n : Nat} {cs : List V} (a : Sl h esz v n cs) : Ev.srcLen v = some n := by
 obtain ⟨_, a⟩ := a
 cases v with
 | slice b o len cap => obtain ⟨rfl, _⟩ := a; rfl
 | sliceU b o len q => obtain ⟨rfl, _⟩ := a; rfl
 | nils => have a : n = 0 := a; subst a; rfl
 | sliceE => have a : n = 0 := a; subst a; rfl
 | _ => exact a.elim
theorem Sl.srcCells {h : Heap} {esz : Nat} {v : V} {n : Nat} {cs : List V} (a : Sl h esz v n cs) : Ev.srcCells h esz v n = some cs := by
 obtain ⟨hl, a⟩ := a
 cases v with
 | slice b o len cap =>
  obtain ⟨rfl, _, c, hc, h2, e⟩ := a
  simp only [Ev.srcCells, hc.ld, dropL_eq, takeL_at _ _ (show len * esz ≤ (c.drop o).length by simp; omega), e]
 | sliceU b o len q =>
  obtain ⟨rfl, rfl, c, hc, h2, e⟩ := a
  simp only [Ev.srcCells, hc.ld, dropL_eq, takeL_at _ _ (show len * q ≤ (c.drop o).length by simp; omega), e]
 | nils => have a : n = 0 := a; subst a; simp at hl; subst hl; rfl
 | sliceE => have a : n = 0 := a; subst a; simp at hl; subst hl; rfl
 | _ => exact a.elim
def vb : V → List Nat
 | .sliceU b _ _ _ => [b]
 | _ => []
theorem Gs.up {h h' : Heap} {B esz : Nat} {v : V} {cs : List V} (a : Gs h B esz v cs) (f : Fr (vb v) h h') : Up B h h' := by
 refine f.up ?_
 rcases a with ⟨rfl, _⟩ | ⟨b, m, rfl, _, _, hb, _⟩
 · simp [vb]
 · simpa [vb] using hb
theorem Gs.append {h : Heap} {B esz bytes : Nat} {v x : V} {cs xs : List V} {n : Nat} (w : WF h) (a : Gs h B esz v cs) (s : Sl h esz x n xs) (he : 0 < esz) (ho : onesB xs = true) (hB : B ≤ h.next)
 (hsz : (2 * (cs.length + n) + 1024) * bytes ≤ 281474976710656) {K : V → Heap → Prop} (k : ∀ v' h', Gs h' B esz v' (cs ++ xs) → Fr (vb v) h h' → K v' h') : OQ (aapp h esz bytes v x) K := by
 unfold aapp
 rw [s.srcLen]
 simp only []
 by_cases hn : n = 0
 · subst hn
   have hx : xs = [] := by have := s.1; simp at this; exact this
   subst hx
   rw [beq_tt rfl, cond_true]
   have hd : dstLen v = some (cs.length / esz) := by
    rcases a with ⟨rfl, rfl⟩ | ⟨b, m, rfl, hm, _⟩
    · simp [dstLen, Ev.srcLen]
    · simp [dstLen, Ev.srcLen, hm, Nat.mul_div_cancel _ he]
   rw [hd]
   exact (OQ_some _ _ _).2 (k v h (by simpa using a) (Fr.refl w))
 · rw [beq_ff hn, cond_false, s.srcCells]
   simp only []
   rcases a with ⟨rfl, rfl⟩ | ⟨b, m, rfl, hm, hm0, hb, o⟩
   · simp only [agrow]
     have : Nat.ble ((2 * n + 1024) * bytes) 281474976710656 = true := by
      rw [Nat.ble_eq]; simpa using hsz
     rw [this, cond_true]
     refine (OQ_some _ _ _).2 (k _ _ (.inr ⟨h.next, n, rfl, by simpa using s.1, by omega, hB, by simpa using Own.new w xs⟩) (Fr.halloc w xs))
   · have hle : (2 * (m + n) + 1024) * bytes ≤ (2 * (cs.length + n) + 1024) * bytes := by
      refine Nat.mul_le_mul_right _ ?_
      have : m ≤ cs.length := by rw [hm]; exact Nat.le_mul_of_pos_right m he
      omega
     have h1 : (Nat.beq esz esz && Nat.ble ((2 * (m + n) + 1024) * bytes) 281474976710656) = true := by
      simp only [Nat.beq_refl, Bool.true_and, Nat.ble_eq]; omega
     simp only [h1, cond_true, o.cells]
     have hmn : (m + n) * esz = m * esz + n * esz := Nat.add_mul _ _ _
     have hpos : 0 < n * esz := Nat.mul_pos (by omega) he
     rw [ble_ff (show ¬ 0 + (m + n) * esz ≤ cs.length by omega), cond_false]
     have h2 : (Nat.ble (0 + m * esz) cs.length && onesB xs) = true := by simp only [ho, Bool.and_true, Nat.ble_eq]; omega
     simp only [h2, cond_true, dropL_zero, takeL_at cs (m * esz) (by omega)]
     obtain ⟨h', e, o', f⟩ := own_super (pos := 0 + m * esz) (c' := cs.take (m * esz) ++ xs) w o
     rw [e]
     simp only [Option.map_some]
     refine (OQ_some _ _ _).2 (k _ _ (.inr ⟨h.next, m + n, rfl, by simp [s.1]; omega, by omega, hB, ?_⟩) f)
     rwa [List.take_of_length_le (by omega)] at o'
def CQ (o : Option (List V)) (len : Nat) (K : V → Heap → Prop) (h : Heap) : Prop := ∃ c, o = some c ∧ K (.slice h.next 0 len len) (halloc h c)
theorem CQ_some (c : List V) (len : Nat) (K : V → Heap → Prop) (h : Heap) : CQ (some c) len K h ↔ K (.slice h.next 0 len len) (halloc h c) :=
 ⟨fun ⟨_, e, k⟩ => by cases e; exact k, fun k => ⟨c, rfl, k⟩⟩
theorem abs_iff (h : Heap) (zero : List V) (places : List (Nat × Nat)) (len : Nat) (vs : List V) (K : V → Heap → Prop) : OQ (abslice h zero places len vs) K ↔ CQ (afill (repL zero len) places vs) len K h := by
 simp only [abslice, OQ, CQ]
 cases afill (repL zero len) places vs with
 | none => simp
 | some c => simp [and_assoc]
theorem repL_zero (zero : List V) : repL zero 0 = [] := rfl
theorem repL_succ (zero : List V) (n : Nat) : repL zero (n + 1) = zero ++ repL zero n := rfl
theorem repL_one (z : V) (n : Nat) : repL [z] n = List.replicate n z := by
 induction n with
 | zero => rfl
 | succ n ih => rw [repL_succ, ih]; rfl
theorem Sl.lit {h : Heap} {esz : Nat} {b n : Nat} {c : List V} (o : Own h b c) (hc : c.length = n * esz) : Sl h esz (.slice b 0 n n) n c :=
 ⟨hc, rfl, Nat.le_refl _, c, o, by omega, by simp [← hc]⟩
theorem amake_ok (h : Heap) (zero : List V) (bytes : Nat) (k k' : IntKind) (l c : Int) (K : V → Heap → Prop) (h0 : 0 ≤ l) (h1 : l ≤ c) (h2 : c < 9223372036854775808) (h3 : bytes * c.toNat ≤ 281474976710656) :
 OQ (amake h zero bytes (.int k l) (.int k' c)) K ↔ K (.slice h.next 0 l.toNat c.toNat) (halloc h (repL zero c.toNat)) := by
 obtain ⟨n, rfl⟩ : ∃ n : Nat, l = n := ⟨l.toNat, by omega⟩
 obtain ⟨m, rfl⟩ : ∃ m : Nat, c = m := ⟨c.toNat, by omega⟩
 have : (Nat.ble n m && Nat.blt m 9223372036854775808 && Nat.ble (bytes * m) 281474976710656) = true := by
  simp only [Bool.and_eq_true, Nat.ble_eq, Nat.blt_eq]; simp at h3; omega
 show OQ (bif Nat.ble n m && Nat.blt m 9223372036854775808 && Nat.ble (bytes * m) 281474976710656 then some (.slice h.next 0 n m, halloc h (repL zero m)) else none) K ↔ _
 rw [this]
 exact OQ_some _ _ _
section
variable {α : Type} {f : α → List V} {k : Nat}
theorem flat_len (hf : ∀ x, (f x).length = k) : ∀ (L : List α), (L.flatMap f).length = L.length * k
 | [] => by simp
 | x :: L => by simp [List.flatMap_cons, flat_len hf L, hf, Nat.succ_mul, Nat.add_comm]
theorem flat_drop (hf : ∀ x, (f x).length = k) : ∀ (L : List α) (i : Nat), (L.flatMap f).drop (i * k) = (L.drop i).flatMap f
 | L, 0 => by simp
 | [], i + 1 => by simp
 | x :: L, i + 1 => by
  rw [List.flatMap_cons, List.drop_succ_cons, ← flat_drop hf L i, Nat.succ_mul, Nat.add_comm, ← hf x, ← List.drop_drop, List.drop_left]
theorem flat_take (hf : ∀ x, (f x).length = k) : ∀ (L : List α) (i : Nat), (L.flatMap f).take (i * k) = (L.take i).flatMap f
 | L, 0 => by simp
 | [], i + 1 => by simp
 | x :: L, i + 1 => by
  have : (i + 1) * k = (f x).length + i * k := by rw [Nat.succ_mul, hf x, Nat.add_comm]
  rw [List.flatMap_cons, List.take_succ_cons, List.flatMap_cons, this, List.take_append, List.take_of_length_le (by omega), Nat.add_sub_cancel_left, flat_take hf L i]
def Recs (f : α → List V) (k : Nat) (h : Heap) (v : V) (L : List α) : Prop := Sl h k v L.length (L.flatMap f)
theorem Recs.fr {h h' : Heap} {v : V} {L : List α} (a : Recs f k h v L) (r : Fr [] h h') : Recs f k h' v L := Sl.fr a r
theorem Recs.len {h : Heap} {v : V} {L : List α} (a : Recs f k h v L) : aP .lenS [v] = some (.int .i64 L.length) := Sl.len a
theorem Recs.ix {h : Heap} {v : V} {L : List α} (hf : ∀ x, (f x).length = k) (a : Recs f k h v L) (kd : IntKind) (i : Int) (h0 : 0 ≤ i) (h1 : i < L.length) :
 ∃ b o x, aP (.ixs k) [v, .int kd i] = some (.ptr b o) ∧ (∀ j, j < k → hload1 h b (o + j) = (f x)[j]?) ∧ hload h b o k = some (f x) ∧ L[i.toNat]? = some x := by
 obtain ⟨b, o, e, g, g2⟩ := Sl.ix a kd i h0 h1
 have hi : i.toNat < L.length := by omega
 have e3 : L[i.toNat]? = some L[i.toNat] := by simp [hi]
 have ed : L.drop i.toNat = L[i.toNat] :: L.drop (i.toNat + 1) := List.drop_eq_getElem_cons hi
 refine ⟨b, o, L[i.toNat], e, fun j hj => ?_, ?_, e3⟩
 · rw [g j hj, ← List.getElem?_drop, flat_drop hf, ed, List.flatMap_cons, List.getElem?_append_left (by rw [hf]; exact hj)]
 · rw [g2, flat_drop hf, ed, List.flatMap_cons]
   have := hf L[i.toNat]
   rw [List.take_append, List.take_of_length_le (by omega), this]; simp
theorem Recs.nil {h : Heap} : Recs f k h .nils [] := ⟨by simp, rfl⟩
def GRecs (f : α → List V) (k : Nat) (h : Heap) (B : Nat) (v : V) (L : List α) : Prop := Gs h B k v (L.flatMap f)
theorem GRecs.recs {h : Heap} {B : Nat} {v : V} {L : List α} (hf : ∀ x, (f x).length = k) (hk : 0 < k) (a : GRecs f k h B v L) : Recs f k h v L := Gs.sl a (flat_len hf L) hk
theorem GRecs.fr {h h' : Heap} {B : Nat} {v : V} {L : List α} (a : GRecs f k h B v L) (r : Fr [] h h') : GRecs f k h' B v L := Gs.fr a r
theorem GRecs.one {h : Heap} {B : Nat} {v : V} {L : List α} (a : GRecs f k h B v L) : v.one = true := Gs.one a
theorem GRecs.nil {h : Heap} {B : Nat} : GRecs f k h B .nils [] := .inl ⟨rfl, rfl⟩
theorem GRecs.append {h : Heap} {B bytes : Nat} {v : V} {L : List α} {x : α} {b : Nat} (w : WF h) (a : GRecs f k h B v L) (hf : ∀ x, (f x).length = k) (ho : onesB (f x) = true) (hk : 0 < k) (o : Own h b (f x)) (hB : B ≤ h.next)
 (hsz : (2 * (L.length * k + 1) + 1024) * bytes ≤ 281474976710656) {K : V → Heap → Prop} (c : ∀ v' h', GRecs f k h' B v' (L ++ [x]) → Fr (vb v) h h' → K v' h') : OQ (aapp h k bytes v (.slice b 0 1 1)) K := by
 refine Gs.append w a (Sl.lit (n := 1) o (by simp [hf])) hk ho hB (by rw [flat_len hf]; exact hsz) ?_
 intro v' h' g u
 refine c v' h' ?_ u
 unfold GRecs
 rw [List.flatMap_append]
 simpa using g
end
def scpQ (Q : Ex → T V → Heap → Prop) : Ex → T V → Heap → Prop := fun e env h => match e with
 | .goto _ => False
 | e => Q e env h
theorem scpQ_norm (Q : Ex → T V → Heap → Prop) (env : T V) (h : Heap) : scpQ Q .norm env h ↔ Q .norm env h := Iff.rfl
theorem scpQ_ret (Q : Ex → T V → Heap → Prop) (env : T V) (h : Heap) : scpQ Q .ret env h ↔ Q .ret env h := Iff.rfl
theorem scpQ_exit (i : Nat) (Q : Ex → T V → Heap → Prop) (env : T V) (h : Heap) : scpQ Q (.exit i) env h ↔ Q (.exit i) env h := Iff.rfl
theorem W_scope0 {call : CallF} {c r : IC} {l : Nat} {env : T V} {h : Heap} {Q : Ex → T V → Heap → Prop} (x : W call c env h (scpQ Q)) : W call (.scope c l r) env h Q := by
 refine W_scope (fun _ _ _ => False) 0 (by omega) (x.mono ?_) (fun _ _ _ f => f.elim)
 intro e env h q
 cases e with
 | goto i => exact q.elim
 | _ => exact q
theorem evs :
 (type_of% @W_skip) ∧
 (type_of% @W_ret) ∧
 (type_of% @W_exit) ∧
 (type_of% @W_goto) ∧
 (type_of% @W_seq) ∧
 (type_of% @W_cond) ∧
 (type_of% @W_block) ∧
 (type_of% @W_ops) ∧
 (type_of% @thenQ_norm) ∧
 (type_of% @thenQ_ret) ∧
 (type_of% @thenQ_exit) ∧
 (type_of% @thenQ_goto) ∧
 (type_of% @blockQ_norm) ∧
 (type_of% @blockQ_ret) ∧
 (type_of% @blockQ_goto) ∧
 (type_of% @blockQ_exit) ∧
 (type_of% @scpQ_norm) ∧
 (type_of% @scpQ_ret) ∧
 (type_of% @scpQ_exit) ∧
 (type_of% @roundQ_ret) ∧
 (type_of% @roundQ_exit) ∧
 (type_of% @roundQ_goto) ∧
 (type_of% @condQ_some) ∧
 (type_of% @WS_nil) ∧
 (type_of% @WS_l) ∧
 (type_of% @WS_v) ∧
 (type_of% @WS_g) ∧
 (type_of% @WS_gv) ∧
 (type_of% @GQ_some) ∧
 (type_of% @op_p) ∧
 (type_of% @PQ_some) ∧
 (type_of% @VQ_some) ∧
 (type_of% @OQ_some) ∧
 (type_of% @HQ_some) ∧
 (type_of% @op_ld) ∧
 (type_of% @LQ_some) ∧
 (type_of% @op_st) ∧
 (type_of% @SQ_some) ∧
 (type_of% @op_al) ∧
 (type_of% @op_bx) ∧
 (type_of% @op_bs) ∧
 (type_of% @BQ_some) ∧
 (type_of% @BsQ_some) ∧
 (type_of% @TwoQ_some) ∧
 (type_of% @CfQ_some) ∧
 (type_of% @ClrQ_some) ∧
 (type_of% @kl_app) ∧
 (type_of% @kv_app) ∧
 (type_of% @GS_some) ∧
 (type_of% @GV_some) ∧
 (type_of% @GS_tup) ∧
 (type_of% @GV_tup) ∧
 (type_of% @RsQ_some) ∧
 (type_of% @abs_iff) ∧
 (type_of% @CQ_some) ∧
 (type_of% @repL_zero) ∧
 (type_of% @repL_succ) ∧
 (type_of% @op_mk) ∧
 (type_of% @op_ap) ∧
 (type_of% @op_cp) ∧
 (type_of% @op_cf) ∧
 (type_of% @FQ_some) ∧
 (type_of% @op_cv) ∧
 (type_of% @op_clr) ∧
 (type_of% @evO_l) ∧
 (type_of% @evO_v) ∧
 (type_of% @evO_c) ∧
 (type_of% @evO_g) ∧
 (type_of% @evOs_nil) ∧
 (type_of% @evOs_c) ∧
 (type_of% @consO_some) ∧
 (type_of% @nth_zero) ∧
 (type_of% @nth_succ) ∧
 (type_of% @bindA_nil) ∧
 (type_of% @bindA_cons) ∧
 (type_of% @T.gs) ∧
 (type_of% @RetQ_norm) ∧
 (type_of% @RetQ_ret) ∧
 (type_of% @evRs_nil) ∧
 (type_of% @evRs_t) ∧
 (type_of% @evRs_c) ∧
 (type_of% @packV_nil) ∧
 (type_of% @packV_one) ∧
 (type_of% @packV_two) ∧
 (type_of% @aload_ptr1) ∧
 (type_of% @aload_ptrA) ∧
 (type_of% @aP_mv) ∧
 (type_of% @aP_pick) ∧
 (type_of% @aP_nilck) ∧
 (type_of% @aP_nilckf) ∧
 (type_of% @aP_add) ∧
 (type_of% @aP_sub) ∧
 (type_of% @aP_mul) ∧
 (type_of% @aP_eql) ∧
 (type_of% @aP_neq) ∧
 (type_of% @aP_lss) ∧
 (type_of% @aP_gtr) ∧
 (type_of% @aP_leq) ∧
 (type_of% @aP_geq) ∧
 (type_of% @aP_not) ∧
 (type_of% @aP_neg) ∧
 (type_of% @aP_bbe) ∧
 (type_of% @aP_bbn) ∧
 (type_of% @aP_faddr) ∧
 (type_of% @aP_ext) ∧
 (type_of% @aP_field1) ∧
 (type_of% @aP_fieldA) ∧
 (type_of% @aP_mkf) ∧
 (type_of% @aP_build) ∧
 (type_of% @aP_mn) ∧
 (type_of% @aP_mx) ∧
 (type_of% @aP_conv) ∧
 (type_of% @aP_lenN) ∧
 (type_of% @aP_lenS) ∧
 (type_of% @aP_lenU) ∧
 (type_of% @aP_lenE) ∧
 (type_of% @aP_lenArr) ∧
 (type_of% @aP_capN) ∧
 (type_of% @aP_capS) ∧
 (type_of% @aP_nilp) ∧
 (type_of% @aP_nil_np) ∧
 (type_of% @aP_nil_nn) ∧
 (type_of% @pv_cells) ∧
 (type_of% @cells_int) ∧
 (type_of% @cells_bool) ∧
 (type_of% @cells_str) ∧
 (type_of% @cells_ptr) ∧
 (type_of% @cells_nilp) ∧
 (type_of% @cells_nils) ∧
 (type_of% @cells_slice) ∧
 (type_of% @cells_sliceU) ∧
 (type_of% @cells_func) ∧
 (type_of% @cells_nilf) ∧
 (type_of% @cells_agg) ∧
 (type_of% @afill_nil) ∧
 (type_of% @afill_c) ∧
 (type_of% @dropL_zero) ∧
 (type_of% @dropL_succ) ∧
 (type_of% @takeL_zero) ∧
 (type_of% @takeL_cons) ∧
 (type_of% @updO_nil) ∧
 (type_of% @updO_zero_nil) ∧
 (type_of% @updO_zero_cons) ∧
 (type_of% @updO_succ) ∧
 (type_of% @cond_true.{1}) ∧
 (type_of% @cond_false.{1}) ∧
 (type_of% @Nat.zero_lt_one) ∧
 (type_of% @Nat.lt_add_one) ∧
 (type_of% @decide_eq_true_eq) ∧
 (type_of% @Bool.not_true) ∧
 (type_of% @Bool.not_false) ∧
 (type_of% @Bool.false_eq_true) ∧
 (type_of% @Bool.true_eq_false) ∧
 (type_of% @decide_true) ∧
 (type_of% @decide_false) ∧
 (type_of% @eq_self.{1}) ∧
 (type_of% @Option.map_some.{0, 0}) ∧
 (type_of% @Option.bind_some.{0, 0}) ∧
 (type_of% @Nat.zero_add) ∧
 (type_of% @Nat.add_zero) ∧
 (type_of% @Nat.zero_mul) ∧
 (type_of% @Nat.zero_ne_one) ∧
 (type_of% @Nat.one_ne_zero) ∧
 (type_of% @List.append_nil.{0}) ∧
 (type_of% @List.nil_append.{0}) ∧
 (type_of% @List.cons_append.{0}) ∧
 (type_of% @Option.isSome_some.{0}) ∧
 (type_of% @Option.isSome_none.{0}) ∧
 (type_of% @Option.isNone_some.{0}) ∧
 (type_of% @Option.isNone_none.{0}) ∧
 (type_of% @W_d) ∧
 (type_of% @WD_nil) ∧
 (type_of% @WD_s) ∧
 (type_of% @WD_g) ∧
 (type_of% @WD_late) ∧
 (type_of% @kd_t) ∧
 (type_of% @kd_f) ∧
 (type_of% @GD_some) ∧
 (type_of% @GD_tup) ∧
 (type_of% @kr_app) ∧
 (type_of% @RAll_nil) ∧
 (type_of% @RAll_cons) ∧
 (type_of% @RD_n) ∧
 (type_of% @RD_g) ∧
 (type_of% @GR_some) ∧
 (type_of% @GR_tup) ∧
 (type_of% @rdAll_nil) ∧
 (type_of% @rdAll_cons) ∧
 (type_of% @vEq_self) ∧
 (type_of% @EQ_some) ∧
 (type_of% @HdQ_cons) ∧
 (type_of% @setsE_nil) ∧
 (type_of% @setsE_c) ∧
 (type_of% @SEv_some) ∧
 (type_of% @List.map_cons.{0, 0}) ∧
 (type_of% @List.map_nil.{0, 0}) ∧
 (type_of% @List.length_cons.{0}) ∧
 (type_of% @List.length_nil.{0}) ∧
 (type_of% @List.drop_succ_cons.{0}) ∧
 (type_of% @List.drop_zero.{0}) ∧
 (type_of% @List.getElem?_cons_succ.{0}) ∧
 (type_of% @List.getElem?_cons_zero.{0}) ∧
 (type_of% @List.reverse_cons.{0}) ∧
 (type_of% @List.reverse_nil.{0}) ∧
 (type_of% @List.take_succ_cons.{0}) ∧
 (type_of% @List.take_zero.{0}) ∧
 (type_of% @and_true) ∧
 (type_of% @true_and) :=
 ⟨@W_skip, @W_ret, @W_exit, @W_goto, @W_seq, @W_cond, @W_block, @W_ops, @thenQ_norm, @thenQ_ret, @thenQ_exit, @thenQ_goto, @blockQ_norm, @blockQ_ret, @blockQ_goto, @blockQ_exit, @scpQ_norm, @scpQ_ret, @scpQ_exit, @roundQ_ret, @roundQ_exit, @roundQ_goto, @condQ_some, @WS_nil, @WS_l, @WS_v, @WS_g, @WS_gv, @GQ_some, @op_p, @PQ_some, @VQ_some, @OQ_some, @HQ_some, @op_ld, @LQ_some, @op_st, @SQ_some, @op_al, @op_bx, @op_bs, @BQ_some, @BsQ_some, @TwoQ_some, @CfQ_some, @ClrQ_some, @kl_app, @kv_app, @GS_some, @GV_some, @GS_tup, @GV_tup, @RsQ_some, @abs_iff, @CQ_some, @repL_zero, @repL_succ, @op_mk, @op_ap, @op_cp, @op_cf, @FQ_some, @op_cv, @op_clr, @evO_l, @evO_v, @evO_c, @evO_g, @evOs_nil, @evOs_c, @consO_some, @nth_zero, @nth_succ, @bindA_nil, @bindA_cons, @T.gs, @RetQ_norm, @RetQ_ret, @evRs_nil, @evRs_t, @evRs_c, @packV_nil, @packV_one, @packV_two, @aload_ptr1, @aload_ptrA, @aP_mv, @aP_pick, @aP_nilck, @aP_nilckf, @aP_add, @aP_sub, @aP_mul, @aP_eql, @aP_neq, @aP_lss, @aP_gtr, @aP_leq, @aP_geq, @aP_not, @aP_neg, @aP_bbe, @aP_bbn, @aP_faddr, @aP_ext, @aP_field1, @aP_fieldA, @aP_mkf, @aP_build, @aP_mn, @aP_mx, @aP_conv, @aP_lenN, @aP_lenS, @aP_lenU, @aP_lenE, @aP_lenArr, @aP_capN, @aP_capS, @aP_nilp, @aP_nil_np, @aP_nil_nn, @pv_cells, @cells_int, @cells_bool, @cells_str, @cells_ptr, @cells_nilp, @cells_nils, @cells_slice, @cells_sliceU, @cells_func, @cells_nilf, @cells_agg, @afill_nil, @afill_c, @dropL_zero, @dropL_succ, @takeL_zero, @takeL_cons, @updO_nil, @updO_zero_nil, @updO_zero_cons, @updO_succ, @cond_true.{1}, @cond_false.{1}, @Nat.zero_lt_one, @Nat.lt_add_one, @decide_eq_true_eq, @Bool.not_true, @Bool.not_false, @Bool.false_eq_true, @Bool.true_eq_false, @decide_true, @decide_false, @eq_self.{1}, @Option.map_some.{0, 0}, @Option.bind_some.{0, 0}, @Nat.zero_add, @Nat.add_zero, @Nat.zero_mul, @Nat.zero_ne_one, @Nat.one_ne_zero, @List.append_nil.{0}, @List.nil_append.{0}, @List.cons_append.{0}, @Option.isSome_some.{0}, @Option.isSome_none.{0}, @Option.isNone_some.{0}, @Option.isNone_none.{0}, @W_d, @WD_nil, @WD_s, @WD_g, @WD_late, @kd_t, @kd_f, @GD_some, @GD_tup, @kr_app, @RAll_nil, @RAll_cons, @RD_n, @RD_g, @GR_some, @GR_tup, @rdAll_nil, @rdAll_cons, @vEq_self, @EQ_some, @HdQ_cons, @setsE_nil, @setsE_c, @SEv_some, @List.map_cons.{0, 0}, @List.map_nil.{0, 0}, @List.length_cons.{0}, @List.length_nil.{0}, @List.drop_succ_cons.{0}, @List.drop_zero.{0}, @List.getElem?_cons_succ.{0}, @List.getElem?_cons_zero.{0}, @List.reverse_cons.{0}, @List.reverse_nil.{0}, @List.take_succ_cons.{0}, @List.take_zero.{0}, @and_true, @true_and⟩
end Go.Ev
namespace Go.Ev.Lay
def val : List Nat → Nat
 | [] => 0
 | b :: l => b + 256 * val l
def rep (m : Nat) (l : List Nat) : Nat := val (l.map fun _ => m)
def f1 (b : Nat) : Nat := ((b / 2) &&& 85) + (b &&& 85)
def f2 (b : Nat) : Nat := ((b / 4) &&& 51) + (b &&& 51)
def f3 (b : Nat) : Nat := (b / 16 + b) % 16
theorem dv (x y k : Nat) (hx : x < k) : (x + k * y) / k = y := by
 rw [Nat.add_mul_div_left _ _ (by omega), Nat.div_eq_of_lt hx, Nat.zero_add]
def tab64 : List Nat := [0, 1, 56, 2, 57, 49, 28, 3, 61, 58, 42, 50, 38, 29, 17, 4, 62, 47, 59, 36, 45, 43, 51, 22, 53, 39, 33, 30, 24, 18, 12, 5, 63, 55, 48, 27, 60, 41, 37, 16, 46, 35, 44, 21, 52, 32, 23, 11, 54, 26, 40, 15, 34, 20, 31, 10, 25, 14, 19, 9, 13, 8, 7, 6]
def tabc : List V := tab64.map fun (x : Nat) => V.int .u8 (x : Int)
end Go.Ev.Lay
namespace Go.Ev.Ab
abbrev i (k : Int) : Opd := .c (.int .i64 k)
abbrev b (k : Int) : Opd := .c (.int .u8 k)
abbrev u (k : Int) : Opd := .c (.int .u64 k)
abbrev tt : Opd := .c (.bool true)
abbrev ff : Opd := .c (.bool false)
abbrev p (k : PK) (x : List Opd) : IStep := ⟨none, .p k x, none⟩
abbrev q (k : PK) (x : List Opd) (d : Nat) : IStep := ⟨none, .p k x, some d⟩
abbrev m (x : Opd) : IStep := ⟨none, .p .mv [x], none⟩
abbrev o (x : Opd) (d : Nat) : IStep := ⟨none, .p .mv [x], some d⟩
abbrev a (k : Nat) : IStep := ⟨none, .p (.faddr k) [.l 0], none⟩
abbrev A (k v : Nat) : IStep := ⟨none, .p (.faddr k) [.v v], none⟩
abbrev e (k : Nat) : IStep := ⟨none, .p (.ext k) [.l k], none⟩
abbrev L : IStep := ⟨none, .ld 1 false (.l 0), none⟩
abbrev c (f : Nat) (x : List Opd) : IStep := ⟨none, .cf f x, none⟩
abbrev n (o : IOp) : IStep := ⟨none, o, none⟩
abbrev N (o : IOp) (d : Nat) : IStep := ⟨none, o, some d⟩
abbrev f (x : Opd) (k : PK) (y : List Opd) : IStep := ⟨some (x, false), .p k y, none⟩
abbrev t (x : Opd) (k : PK) (y : List Opd) : IStep := ⟨some (x, true), .p k y, none⟩
abbrev g (x : Opd) (w : Bool) (o : IOp) : IStep := ⟨some (x, w), o, none⟩
abbrev G (x : Opd) (w : Bool) (o : IOp) (d : Nat) : IStep := ⟨some (x, w), o, some d⟩
abbrev s (l : List IStep) (k : IC) : IC := .seq (.ops l) k
abbrev zK : List V := [.int .u8 0, .str [], .str [], .nils, .str [], .nils, .int .i64 0, .bool false, .int .i64 0]
abbrev zE : List V := [.int .u64 0, .int .u8 0, .str [], .nils, .int .i64 0, .bool false]
abbrev zO : List V := [.int .u8 0, .int .i64 0, .int .i64 0, .int .i64 0, .nils]
abbrev zN : List V := [.int .u8 0, .str [], .str [], .nils, .str [], .nils]
abbrev zI : List V := [.int .u64 0, .int .u8 0, .str [], .nils]
abbrev r (v : Nat) (l : List IStep) : IC := .cond (.v v) (.seq (.ops l) .ret) .skip
abbrev ad : PK := .ib .add
abbrev su : PK := .ib .sub
abbrev mu : PK := .ib .mul
abbrev eq : PK := .ib .eql
abbrev ne : PK := .ib .neq
abbrev lt : PK := .ib .lss
abbrev gt : PK := .ib .gtr
abbrev le : PK := .ib .leq
abbrev ge : PK := .ib .geq
abbrev P (k : Nat) : IStep := ⟨none, .p .pick [.l k, .c (.bool true), .l 0], none⟩
abbrev Q (k : Nat) : IStep := ⟨none, .p .pick [.l k, .l 0, .c (.bool false)], none⟩
abbrev v (k : Nat) : IStep := ⟨none, .p .nilck [.v k], none⟩
abbrev k : IStep := ⟨none, .p .nilck [.l 0], none⟩
abbrev l : IOp := .ld 1 false (.l 0)
abbrev d (k j : Nat) : IStep := ⟨none, .ld k true (.l j), none⟩
abbrev D (k j : Nat) : IStep := ⟨none, .ld k true (.v j), none⟩
end Go.Ev.Ab
