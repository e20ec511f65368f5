/- An evaluator of the program, and contracts over it: StH to StS. -/
import Derived.Laws.RangeString
import Derived.Laws.RangeAny
import Derived.Test.YtdbfhmneijcjbaaGreatP05
import Derived.Test.YtdbfhmneijcjbaaGreatP08
set_option linter.unusedSimpArgs false
set_option linter.unusedVariables false
set_option linter.constructorNameAsVariable false
namespace Go.Ev.Lay
open Go.Ev.St
set_option maxRecDepth 4000
theorem widen_ok {h : Heap} {b S q c : Nat} {ov T0 : V} {ol : List Slot} (w : WF h) (ob : Own h b [ov, .int .i64 (c : Int), T0]) (old : Old h b S ov ol) (o1 : ov.one = true) (t1 : T0.one = true) (hl : ol.length ≤ 20000)
 (uq : ∀ i j k v w : Nat, ol[i]? = some (1, k, v) → ol[j]? = some (1, k, w) → i = j) (oc : cnS 1 ol = c) (kb : ∀ s ∈ ol, s.2.1 < 18446744073709551616 ∧ s.2.2 < 4611686018427387904) (hc : c ≤ q) (q1 : 1 ≤ q) (q2 : q ≤ 4097) :
 Does go 226 [.ptr b 0, .int .i64 (q : Int)] h fun u h' => u = .tup [] ∧ ∃ n S' sl, h.next ≤ S' ∧ sl.length = n ∧ 8 ≤ n ∧ n ≤ 20000 ∧ 2 * q ≤ n ∧ Own h' b [.slice S' 0 n n, .int .i64 (c : Int), .int .i64 0] ∧ Tb h' (.slice S' 0 n n) S' sl ∧ Moved sl ol ol.length ∧ Fr [b] h h' := by
 have bl := ob.lt w
 refine does_fn g226 rfl ?_
 simp only [fn226, evs, Nat.reduceAdd]
 refine W_loop (fun k env hh => h = hh ∧ ∃ n : Nat, env.get 0 = some (.ptr b 0) ∧ env.get 1 = some (.int .i64 (q : Int)) ∧ env.get 4 = some (.int .i64 (n : Int)) ∧ 8 ≤ n ∧ n ≤ 16388 ∧ k = 2 * q - n) (2 * q - 8) (by omega) ?_ ?_
 · exact ⟨rfl, 8, (by simp [T.gs]), (by simp [T.gs]), (by simp [T.gs]), by omega, by omega, rfl⟩
 rintro k env hh ⟨rfl, n, g0, g1, g4, n8, nb, rfl⟩
 by_cases hn : (n : Int) < 2 * (q : Int)
 · simp (disch := omega) only [evs, ↓reduceIte, Nat.reduceEqDiff, fwrap_i64, g1, g4, eq_true hn]
   refine (roundQ_norm _ _ _).2 ⟨2 * q - n * 2, by omega, rfl, n * 2, (by simp [T.gs, g0]), (by simp [T.gs, g1]), (by simp [T.gs]), by omega, by omega, rfl⟩
   done
 have l0 : hload1 h b 0 = some ov := ob.ld1 0
 have ms := repl_flat n
 have mk : amake h [V.int .u8 0, V.int .u64 0, V.int .i64 0] 24 (.int .i64 (n : Int)) (.int .i64 (n : Int)) = some (.slice h.next 0 n n, halloc h ((List.replicate n ((0, 0, 0) : Slot)).flatMap sc)) := by
  rw [← ms]
  show (bif Nat.ble n n && Nat.blt n 9223372036854775808 && Nat.ble (24 * n) 281474976710656 then some (V.slice h.next 0 n n, halloc h (repL [V.int .u8 0, V.int .u64 0, V.int .i64 0] n)) else none) = _
  rw [show Nat.ble n n = true by rw [Nat.ble_eq]; omega, show Nat.blt n 9223372036854775808 = true by rw [Nat.blt_eq]; omega, show Nat.ble (24 * n) 281474976710656 = true by rw [Nat.ble_eq]; omega]
  rfl
 simp (disch := omega) only [evs, ↓reduceIte, Nat.reduceEqDiff, fwrap_i64, g0, g1, g4, eq_false hn, l0, mk]
 have w0 := w.halloc ((List.replicate n ((0, 0, 0) : Slot)).flatMap sc)
 refine store_step (c' := [.slice h.next 0 n n, .int .i64 (c : Int), T0]) w0 (ob.halloc w _) rfl rfl rfl ?_
 rintro h1 ob1 F1 n1
 simp only [evs, ↓reduceIte, Nat.reduceEqDiff, g0]
 refine store_step (c' := [.slice h.next 0 n n, .int .i64 (c : Int), .int .i64 0]) F1.wf ob1 rfl rfl rfl ?_
 rintro h2 ob2 F2 n2
 have bn : h.next ≠ b := by omega
 have ot2 : Own h2 h.next ((List.replicate n ((0, 0, 0) : Slot)).flatMap sc) := F2.own _ _ (by simpa using bn) (F1.own _ _ (by simpa using bn) (Own.new w _))
 have Fa : Fr [b] h h2 := ((Fr.halloc w _).trans (F1.trans F2 w0 (T := [b]) (fun x hx => .inl hx) (fun x hx => .inl hx)) w (fun x hx => by simp at hx) (fun x hx => .inl hx))
 have len := old.recs.len
 simp only [evs, ↓reduceIte, len]
 refine W_loop (fun k env hh => ∃ (i : Nat) (sl : List Slot), Fr [b] h hh ∧ Own hh b [.slice h.next 0 n n, .int .i64 (c : Int), .int .i64 0] ∧ Tb hh (.slice h.next 0 n n) h.next sl ∧ sl.length = n ∧ Moved sl ol i ∧ env.get 0 = some (.ptr b 0) ∧ env.get 28 = some ov ∧
  env.get 29 = some (.int .i64 (ol.length : Int)) ∧ env.get 30 = some (.int .i64 (i : Int)) ∧ i ≤ ol.length ∧ k = ol.length - i) ol.length (by omega) ?_ ?_
 · refine ⟨0, List.replicate n (0, 0, 0), Fa, ob2, ⟨.inl (by simp), ot2⟩, by simp, ⟨Opn.zero _ _ (by omega), ?_, cnS_zero 2 n (by omega), fun k x => ⟨?_, ?_⟩, ?_⟩, (by simp [T.gs, g0]), (by simp [T.gs]), (by simp [T.gs]), (by simp [T.gs]), by omega, rfl⟩
   · rw [cnS_zero 1 n (by omega)]; simp [cnS]
   · rintro ⟨j, hj⟩
     have := List.eq_of_mem_replicate (List.mem_of_getElem? hj)
     cases this
   · rintro ⟨j, hj, _⟩; omega
   · intro s hs
     rw [List.eq_of_mem_replicate hs]; simp
 clear ob1 F1 n1 ob2 F2 n2 ot2 Fa w0 g0 g1 g4 l0 mk ms
 rintro k env hh ⟨i, sl, F, oB, tB, sn, mv, g0, g28, g29, g30, hi, rfl⟩
 by_cases hlt : (i : Int) < (ol.length : Int)
 · have wh := F.wf
   obtain ⟨b1, p1, ⟨s, ky, vl⟩, e1, _, e3, e4⟩ := Recs.ix sc_len (old.fr F).recs .i64 (i : Int) (by omega) hlt
   simp only [Int.toNat_natCast] at e4
   have hk := kb _ (List.mem_of_getElem? e4)
   simp only [evs, ↓reduceIte, Nat.reduceEqDiff, g28, g29, g30, eq_true hlt, e1, e3]
   refine store_step (c' := sc (s, ky, vl)) (wh.halloc _) (Own.new wh _) rfl rfl rfl ?_
   rintro h3 o3 F3 n3
   have Fx : Fr [] hh h3 := (Fr.halloc wh _).trans F3 wh (fun _ hx => by simp at hx) (fun x hx => .inr (by simp at hx; omega))
   by_cases hs : (s : Int) = 1
   · have hs1 : s = 1 := by omega
     subst hs1
     have q0 : hload1 h3 hh.next 0 = some (.int .u8 1) := o3.ld1 0
     have q1' : hload1 h3 hh.next 1 = some (.int .u64 (ky : Int)) := o3.ld1 1
     simp only [evs, ↓reduceIte, Nat.reduceEqDiff, q0, q1', g0]
     refine OQ_does (look_ok Fx.wf (Fx.get oB) (tB.fr Fx) mv.op (by omega) hk.1) ?_
     rintro _ h4 ⟨at', found, rfl, L, F4⟩
     cases found
     case true =>
      obtain ⟨x, hx⟩ := L.yes rfl
      obtain ⟨j, lj, hj⟩ := (mv.mp ky x).1 ⟨_, hx⟩
      have := uq _ _ _ _ _ hj e4
      omega
     have Fy := Fx.then F4
     have l0 : hload1 h4 b 0 = some (.slice h.next 0 n n) := (Fy.get oB).ld1 0
     have q3 : hload h4 hh.next 0 3 = some (sc (1, ky, vl)) := by rw [(F4.get o3).ld]; rfl
     have ix := (tB.fr Fy).ix at' L.lt
     simp only [evs, ↓reduceIte, Nat.reduceEqDiff, eff, g0, l0, q3, ix]
     refine store_step (c' := (sl.set at' (1, ky, vl)).flatMap sc) Fy.wf (tB.fr Fy).2 rfl rfl (flat_upd (1, ky, vl) sl at' L.lt) ?_
     rintro h5 o5 F5 n5
     have room : 2 ≤ cnS 0 sl := by
      have e := cnS_sum mv.op.st
      have := mv.c2
      have a1 := mv.c1
      have a2 := cnS_take (c := 1) e4
      have a3 := cnS_take_le 1 (i + 1) ol
      simp only [if_true] at a2
      omega
     simp (disch := omega) only [evs, ↓reduceIte, Nat.reduceEqDiff, Nat.reduceAdd, DF, Nat.reduceSub, fwrap_i64, g30, l0, q3]
     refine (roundQ_norm _ _ _).2 ⟨ol.length - (i + 1), by omega, i + 1, sl.set at' (1, ky, vl), (F.trans Fy w (fun x hx => .inl hx) (fun x hx => by simp at hx)).trans F5 w (fun x hx => .inl hx) (fun x hx => .inr (by simp at hx; omega)), F5.own b _ (by simpa using Ne.symm bn) (Fy.get oB), ⟨by rw [List.length_set]; exact tB.1, o5⟩, by rw [List.length_set]; exact sn,
      mv.put e4 L hk.1 hk.2 room, (by simp [T.gs, g0]), (by simp [T.gs, g28]), (by simp [T.gs, g29]), (by simp [T.gs]), by omega, rfl⟩
     done
   · have q0 : hload1 h3 hh.next 0 = some (.int .u8 (s : Int)) := o3.ld1 0
     simp (disch := omega) only [evs, ↓reduceIte, Nat.reduceEqDiff, fwrap_i64, q0, eq_false hs, g30]
     refine (roundQ_norm _ _ _).2 ⟨ol.length - (i + 1), by omega, i + 1, sl, F.trans Fx w (fun x hx => .inl hx) (fun x hx => by simp at hx), Fx.get oB, tB.fr Fx, sn, mv.skip e4 (by simp only []; omega), (by simp [T.gs, g0]), (by simp [T.gs, g28]), (by simp [T.gs, g29]), (by simp [T.gs]), by omega, rfl⟩
     done
 · have : i = ol.length := by omega
   subst this
   simp only [evs, ↓reduceIte, g29, g30, eq_false hlt]
   exact ⟨n, h.next, sl, Nat.le_refl _, sn, n8, by omega, by omega, oB, tB, mv, F⟩
def putT : IC := (.seq (.ops [⟨none, .cf 108 [.v 0, .v 1], none⟩, ⟨none, .p (.ext 0) [.l 0], none⟩, ⟨none, .p (.ext 1) [.l 1], none⟩, ⟨none, .p .mv [.l 1], some 9⟩, ⟨none, .p .mv [.l 0], none⟩]) (.seq (.seq (.ops [⟨none, .p .nilck [.v 0], none⟩, ⟨none, .p (.faddr 0) [.l 0], none⟩, ⟨none, .ld 1 false (.l 0), none⟩, ⟨none, .p (.ixs 3) [.l 0, .v 9], none⟩, ⟨none, .p (.faddr 0) [.l 0], none⟩, ⟨none, .ld 1 false (.l 0), none⟩, ⟨none, .p (.ib .eql) [.l 0, .c (.int .u8 2)], some 82⟩]) (.cond (.v 82) (.ops [⟨none, .p .nilck [.v 0], none⟩, ⟨none, .p (.faddr 2) [.l 0], none⟩, ⟨none, .ld 1 false (.l 0), none⟩, ⟨none, .p (.ib .sub) [.l 0, .c (.int .i64 1)], none⟩, ⟨none, .p .nilck [.v 0], none⟩, ⟨none, .p (.faddr 2) [.l 0], none⟩, ⟨none, .st 1 (.l 0) (.l 2), none⟩]) (.skip))) (.seq (.ops [⟨none, .p .nilck [.v 0], none⟩, ⟨none, .p (.faddr 0) [.l 0], none⟩, ⟨none, .ld 1 false (.l 0), none⟩, ⟨none, .p (.build [(.int .u8 0), (.int .u64 0), (.int .i64 0)] [(0, 1), (1, 1), (2, 1)]) [.c (.int .u8 1), .v 1, .v 2], none⟩, ⟨none, .p (.ixs 3) [.l 1, .v 9], none⟩, ⟨none, .st 3 (.l 0) (.l 1), none⟩]) (.seq (.ops [⟨none, .p .nilck [.v 0], none⟩, ⟨none, .p (.faddr 1) [.l 0], none⟩, ⟨none, .ld 1 false (.l 0), none⟩, ⟨none, .p (.ib .add) [.l 0, .c (.int .i64 1)], none⟩, ⟨none, .p .nilck [.v 0], none⟩, ⟨none, .p (.faddr 1) [.l 0], none⟩, ⟨none, .st 1 (.l 0) (.l 2), none⟩]) (.seq (.ops [⟨none, .p .mv [.c (.int .i64 0)], some 6⟩]) (.ret))))))
def putM : IC := (.seq (.seq (.ops [⟨none, .p .nilck [.v 0], none⟩, ⟨none, .p (.faddr 1) [.l 0], none⟩, ⟨none, .ld 1 false (.l 0), none⟩, ⟨none, .p (.ib .eql) [.l 0, .c (.int .i64 4096)], some 42⟩]) (.cond (.v 42) (.seq (.ops [⟨none, .p .mv [.c (.int .i64 3)], some 6⟩]) (.ret)) (.skip))) (.seq (.seq (.dops [⟨none, .p .mv [.v 0], none⟩, ⟨none, .p .nilck [.l 0], none⟩, ⟨none, .p (.faddr 1) [.l 0], none⟩, ⟨none, .ld 1 false (.l 0), none⟩, ⟨none, .p .mv [.v 0], none⟩, ⟨none, .p .nilck [.l 0], none⟩, ⟨none, .p (.faddr 2) [.l 0], none⟩, ⟨none, .ld 1 false (.l 0), none⟩, ⟨none, .p (.ib .add) [.l 4, .l 0], none⟩, ⟨none, .p (.ib .add) [.l 0, .c (.int .i64 1)], none⟩, ⟨none, .p (.ib .mul) [.c (.int .i64 4), .l 0], none⟩, ⟨none, .p .mv [.v 0], none⟩, ⟨none, .p .nilck [.l 0], none⟩, ⟨none, .p (.faddr 0) [.l 0], none⟩, ⟨none, .ld 1 false (.l 0), none⟩, ⟨none, .p .lenS [.l 0], none⟩, ⟨none, .p (.ib .mul) [.c (.int .i64 3), .l 0], none⟩, ⟨none, .p (.ib .gtr) [.l 6, .l 0], none⟩] [] [0, 1, 3, 7, 0, 16, 48, 112, 255, 511, 1023, 0, 2048, 6144, 14336, 30720, 63488, 131071] [0, 1, 2, 3, 4, 5, 6, 7, 8, 9, 10, 11, 12, 13, 14, 15, 16, 17] [(3, 0, 0), (7, 0, 0), (14, 0, 0)] [(60, 17)]) (.cond (.v 60) (.ops [⟨none, .p .nilck [.v 0], none⟩, ⟨none, .p (.faddr 1) [.l 0], none⟩, ⟨none, .ld 1 false (.l 0), none⟩, ⟨none, .p (.ib .add) [.l 0, .c (.int .i64 1)], none⟩, ⟨none, .cf 226 [.v 0, .l 0], none⟩]) (.skip))) putT))
def fn168x : IFn := ⟨3, .seq (.ops [⟨none, .p .mv [.c (.int .i64 0)], some 6⟩]) (.seq (.block 0 (.seq (.ops [⟨none, .p (.nil 0 false) [.v 0, .c .nilp], none⟩, ⟨none, .p .mv [.l 0], some 11⟩]) (.cond (.v 11) (.seq (.ops [⟨none, .p .mv [.c (.int .i64 2)], some 6⟩]) (.ret)) (.seq (.ops [⟨none, .p (.ib .eql) [.v 1, .c (.int .u64 0)], none⟩, ⟨none, .p .mv [.l 0], some 14⟩]) (.cond (.v 14) (.seq (.ops [⟨none, .p .mv [.c (.int .i64 9)], some 6⟩]) (.ret)) (.skip)))))) (.seq (.seq (.ops [⟨none, .p .nilck [.v 0], none⟩, ⟨none, .p (.faddr 0) [.l 0], none⟩, ⟨none, .ld 1 false (.l 0), none⟩, ⟨none, .p .lenS [.l 0], none⟩, ⟨none, .p (.ib .gtr) [.l 0, .c (.int .i64 0)], some 22⟩]) (.cond (.v 22) (.seq (.ops [⟨none, .cf 108 [.v 0, .v 1], none⟩, ⟨none, .p (.ext 0) [.l 0], none⟩, ⟨none, .p (.ext 1) [.l 1], none⟩, ⟨none, .p .mv [.l 1], some 7⟩, ⟨none, .p .mv [.l 0], some 8⟩]) (.seq (.ops [⟨none, .p .mv [.v 8], some 29⟩]) (.cond (.v 29) (.seq (.ops [⟨none, .p .nilck [.v 0], none⟩, ⟨none, .p (.faddr 0) [.l 0], none⟩, ⟨none, .ld 1 false (.l 0), none⟩, ⟨none, .p (.ixs 3) [.l 0, .v 7], none⟩, ⟨none, .p (.faddr 2) [.l 0], none⟩, ⟨none, .st 1 (.l 0) (.v 2), none⟩]) (.seq (.ops [⟨none, .p .mv [.c (.int .i64 0)], some 6⟩]) (.ret))) (.skip)))) (.skip))) putM)), [.t 6], [0, 1, 2, 6, 7, 8, 9, 11, 14, 22, 29, 42, 60, 82]⟩
theorem g168x : F.get 168 = some fn168x := rfl
open Go.Ev.St
set_option maxRecDepth 4000
def mset' (m : Nat → Option Nat) (key x : Nat) : Nat → Option Nat := fun k => if k = key then some x else m k
theorem KmT.put {h h' : Heap} {b S key x a t' : Nat} {v : V} {sl : List Slot} {m : Nat → Option Nat} {c t : Nat} (k : KmT h b S v sl m c t) (L : Looked mix sl key a false) (hk : key < 18446744073709551616) (hx : x < 4611686018427387904) (fill : 4 * (c + t + 1) ≤ 3 * sl.length)
 (ob : Own h' b [v, .int .i64 ((c + 1 : Nat) : Int), .int .i64 (t' : Int)]) (o : Own h' S ((sl.set a (1, key, x)).flatMap sc)) (ht : ∀ s : Slot, sl[a]? = some s → t' + (if s.1 = 2 then 1 else 0) = t) : KmT h' b S v (sl.set a (1, key, x)) (mset' m key x) (c + 1) t' := by
 obtain ⟨no, ⟨s0, hs0, h0⟩, _⟩ := L.no rfl
 have e1 := cnS_set (c := 1) (x := ((1, key, x) : Slot)) hs0
 have e2 := cnS_set (c := 2) (x := ((1, key, x) : Slot)) hs0
 simp only [if_neg h0, if_true] at e1
 have ht := ht s0 hs0
 have c1 := k.c1
 have c2 := k.c2
 have rm : 2 ≤ cnS 0 sl := by have := k.sum; have := k.n8; omega
 refine ⟨ob, ⟨by rw [List.length_set]; exact k.tb.1, o⟩, k.op.put L x (room2 rm a), by rw [List.length_set]; exact k.n8, by rw [List.length_set]; exact k.nb, by omega, ?_, fun k' x' => ⟨?_, ?_⟩, mem_set_kb k.kb ⟨hk, hx⟩⟩
 · simp at e2; split at e2 <;> split at ht <;> omega
 · intro e
   unfold mset' at e
   by_cases ck : k' = key
   · rw [if_pos ck] at e; cases e; subst ck
     exact ⟨a, set_get_self _ L.lt⟩
   · rw [if_neg ck] at e
     obtain ⟨i, hi⟩ := (k.mp k' x').1 e
     refine ⟨i, ?_⟩
     rw [List.getElem?_set_ne]
     · exact hi
     · rintro rfl; rw [hs0] at hi; cases hi; exact h0 rfl
 · rintro ⟨i, hi⟩
   unfold mset'
   rcases set_get _ _ _ _ _ hi with ⟨_, e, _⟩ | ⟨ci, hj⟩
   · cases e; rw [if_pos rfl]
   · by_cases ck : k' = key
     · subst ck; exact absurd hj (no _ _)
     · rw [if_neg ck]; exact (k.mp k' x').2 ⟨i, hj⟩
theorem putT_ok {h : Heap} {env : T V} {b S key x : Nat} {v : V} {sl : List Slot} {m : Nat → Option Nat} {c t : Nat} {R : V → Heap → Prop} (w : WF h) (k : KmT h b S v sl m c t) (hk : key < 18446744073709551616) (hx : x < 4611686018427387904) (hm : m key = none) (fill : 4 * (c + t + 1) ≤ 3 * sl.length)
 (g0 : env.get 0 = some (.ptr b 0)) (g1 : env.get 1 = some (.int .u64 (key : Int))) (g2 : env.get 2 = some (.int .i64 (x : Int)))
 (K : ∀ h' sl' t', KmT h' b S v sl' (mset' m key x) (c + 1) t' → sl'.length = sl.length → t' ≤ t → Fr [b, S] h h' → R (.int .i64 0) h') : W go putT env h (RetQ [.t 6] R) := by
 have cb := k.sum
 have nb := k.nb
 have ne := k.ne
 simp only [evs, putT, g0, g1]
 refine OQ_does (look_ok w k.ob k.tb k.op (by omega) hk) ?_
 rintro _ h2 ⟨at', found, rfl, L, F⟩
 cases found
 case true =>
  obtain ⟨y, hy⟩ := L.yes rfl
  have := (k.mp key y).2 ⟨_, hy⟩
  rw [hm] at this; cases this
 have k2 := k.fr F
 have ix := k2.tb.ix _ L.lt
 have l0 : hload1 h2 b 0 = some v := k2.ob.ld1 0
 obtain ⟨no, ⟨s0, hs0, h0⟩, _⟩ := L.no rfl
 have l3 : hload1 h2 S (at' * 3) = some (.int .u8 (s0.1 : Int)) := by
  obtain ⟨b1, o1, y, e1, e2, _, e4⟩ := Recs.ix sc_len k2.tb.recs .i64 (at' : Nat) (by omega) (by have := L.lt; omega)
  rw [ix] at e1
  obtain ⟨rfl, rfl⟩ : S = b1 ∧ at' * 3 = o1 := by simpa using e1
  simp only [Int.toNat_natCast] at e4
  rw [hs0] at e4; cases e4
  exact (e2 0 (by omega)).trans rfl
 by_cases ht : (s0.1 : Int) = 2
 · have t1 : 1 ≤ t := by
    rw [← k.c2]
    have : 0 < cnS 2 sl := by
     unfold cnS
     rw [List.countP_pos_iff]
     exact ⟨s0, List.mem_of_getElem? hs0, by simp; omega⟩
    exact this
   have l2 : hload1 h2 b 2 = some (.int .i64 (t : Int)) := k2.ob.ld1 2
   simp (disch := omega) only [evs, ↓reduceIte, Nat.reduceEqDiff, fwrap_i64, l0, ix, l3, eq_true ht, g0, l2]
   refine store_step (c' := [v, .int .i64 (c : Int), .int .i64 ((t : Int) - 1)]) F.wf k2.ob rfl rfl rfl ?_
   rintro h3 o3 F3 n3
   have tb3 : Tb h3 v S sl := ⟨k2.tb.1, F3.own S _ (by simpa using Ne.symm ne) k2.tb.2⟩
   have l0' : hload1 h3 b 0 = some v := o3.ld1 0
   have ix' := tb3.ix _ L.lt
   simp only [evs, ↓reduceIte, Nat.reduceEqDiff, g0, g1, g2, l0', ix']
   refine store_step (c' := (sl.set at' (1, key, x)).flatMap sc) F3.wf tb3.2 rfl rfl (flat_upd (1, key, x) sl at' L.lt) ?_
   rintro h4 o4 F4 n4
   have ob4 := F4.own b _ (by simpa using ne) o3
   have l1 : hload1 h4 b 1 = some (.int .i64 (c : Int)) := ob4.ld1 1
   simp (disch := omega) only [evs, ↓reduceIte, Nat.reduceEqDiff, fwrap_i64, g0, l1]
   refine store_step (c' := [v, .int .i64 ((c : Int) + 1), .int .i64 ((t : Int) - 1)]) F4.wf ob4 rfl rfl rfl ?_
   rintro h5 o5 F5 n5
   simp only [evs, ↓reduceIte]
   refine K h5 (sl.set at' (1, key, x)) (t - 1) (k.put L hk hx fill ?_ (F5.own S _ (by simpa using Ne.symm ne) o4) ?_) (List.length_set ..) (by omega) ?_
   · rw [show ((t - 1 : Nat) : Int) = (t : Int) - 1 by omega]; exact o5
   · intro s hs; rw [hs0] at hs; cases hs; rw [if_pos (by omega)]; omega
   · have A : Fr [b, S] h2 h4 := F3.trans F4 F.wf (fun x hx => .inl (by simp at hx; simp [hx])) (fun x hx => .inl (by simp at hx; simp [hx]))
     have B : Fr [b, S] h2 h5 := A.trans F5 F.wf (fun x hx => .inl hx) (fun x hx => .inl (by simp at hx; simp [hx]))
     exact F.trans B w (fun x hx => by simp at hx) (fun x hx => .inl hx)
 · simp only [evs, ↓reduceIte, Nat.reduceEqDiff, l0, ix, l3, eq_false ht, g0, g1, g2]
   refine store_step (c' := (sl.set at' (1, key, x)).flatMap sc) F.wf k2.tb.2 rfl rfl (flat_upd (1, key, x) sl at' L.lt) ?_
   rintro h4 o4 F4 n4
   have ob4 := F4.own b _ (by simpa using ne) k2.ob
   have l1 : hload1 h4 b 1 = some (.int .i64 (c : Int)) := ob4.ld1 1
   simp (disch := omega) only [evs, ↓reduceIte, Nat.reduceEqDiff, fwrap_i64, g0, l1]
   refine store_step (c' := [v, .int .i64 ((c : Int) + 1), .int .i64 (t : Int)]) F4.wf ob4 rfl rfl rfl ?_
   rintro h5 o5 F5 n5
   simp only [evs, ↓reduceIte]
   refine K h5 (sl.set at' (1, key, x)) t (k.put L hk hx fill o5 (F5.own S _ (by simpa using Ne.symm ne) o4) ?_) (List.length_set ..) (by omega) ?_
   · intro s hs; rw [hs0] at hs; cases hs; rw [if_neg (by omega)]; omega
   · have B : Fr [b, S] h2 h5 := F4.trans F5 F.wf (fun x hx => .inl (by simp at hx; simp [hx])) (fun x hx => .inl (by simp at hx; simp [hx]))
     exact F.trans B w (fun x hx => by simp at hx) (fun x hx => .inl hx)
theorem Moved.kmt {h' : Heap} {b S' n : Nat} {sl ol : List Slot} {m : Nat → Option Nat} {c : Nat} (M : Moved sl ol ol.length) (sn : sl.length = n) (n8 : 8 ≤ n) (nb : n ≤ 20000) (ob : Own h' b [.slice S' 0 n n, .int .i64 (c : Int), .int .i64 0]) (tb : Tb h' (.slice S' 0 n n) S' sl)
 (oc : cnS 1 ol = c) (mp : ∀ k x : Nat, m k = some x ↔ ∃ i : Nat, ol[i]? = some (1, k, x)) : KmT h' b S' (.slice S' 0 n n) sl m c 0 := by
 refine ⟨ob, tb, M.op, by omega, by omega, by rw [M.c1, List.take_length]; exact oc, M.c2, fun k x => (mp k x).trans ⟨fun ⟨i, hi⟩ => (M.mp k x).2 ⟨i, (List.getElem?_eq_some_iff.1 hi).1, hi⟩, fun q => ?_⟩, M.kb⟩
 obtain ⟨j, _, hj⟩ := (M.mp k x).1 q
 exact ⟨j, hj⟩
theorem putM_ok {h : Heap} {env : T V} {b S key x : Nat} {m : Nat → Option Nat} {c : Nat} {R : V → Heap → Prop} (w : WF h) (k : Km h b S m c) (hc : c < 4096) (hk : key < 18446744073709551616) (hx : x < 4611686018427387904) (hm : m key = none)
 (g0 : env.get 0 = some (.ptr b 0)) (g1 : env.get 1 = some (.int .u64 (key : Int))) (g2 : env.get 2 = some (.int .i64 (x : Int)))
 (K : ∀ h' S', (S' = S ∨ h.next ≤ S') → Km h' b S' (mset' m key x) (c + 1) → Fr [b, S] h h' → R (.int .i64 0) h') : W go putM env h (RetQ [.t 6] R) := by
 have fin : ∀ {h2 : Heap} {env2 : T V} {S' : Nat} {v : V} {sl : List Slot} {t : Nat}, Fr [b] h h2 → h.next ≤ S' → KmT h2 b S' v sl m c t → 4 * (c + t + 1) ≤ 3 * sl.length → env2.get 0 = some (.ptr b 0) → env2.get 1 = some (.int .u64 (key : Int)) → env2.get 2 = some (.int .i64 (x : Int)) → W go putT env2 h2 (RetQ [.t 6] R) := by
  intro h2 env2 S' v sl t F hS k2 fill a0 a1 a2
  refine putT_ok F.wf k2 hk hx hm fill a0 a1 a2 fun h' sl' t' k' e1 e2 F' => K h' S' (.inr hS) (.inr ⟨v, sl', t', k', by omega⟩) ?_
  exact F.trans F' w (fun x hx => .inl (by simp at hx; simp [hx])) (fun x hx => by
   simp at hx
   rcases hx with rfl | rfl
   · exact .inl (by simp)
   · exact .inr hS)
 rcases k with ⟨o, rfl, h1⟩ | ⟨v, sl, t, k, _⟩
 · have l0 : hload1 h b 0 = some .nils := o.ld1 0
   have l1 : hload1 h b 1 = some (.int .i64 0) := o.ld1 1
   have l2 : hload1 h b 2 = some (.int .i64 0) := o.ld1 2
   simp (disch := omega) only [evs, ↓reduceIte, Nat.reduceEqDiff, Nat.reduceAdd, DF, eff, Nat.reduceSub, fwrap_i64, putM, g0, l0, l1, l2, show ¬ (0 : Int) = 4096 by omega]
   refine OQ_does (widen_ok (S := b) (q := 1) (c := 0) (ol := []) w o (.inl ⟨rfl, rfl⟩) rfl rfl (by simp) (by simp) rfl (by simp) (by omega) (by omega) (by omega)) ?_
   rintro _ h2 ⟨rfl, n, S', sl, hS, sn, n8, nb, q2, ob, tb, M, F⟩
   simp only [evs]
   exact fin F hS (M.kmt sn n8 nb ob tb rfl (fun k x => by rw [h1]; simp)) (by omega) (by simp [T.gs, g0]) (by simp [T.gs, g1]) (by simp [T.gs, g2])
 · have cb := k.sum
   have nb := k.nb
   have l0 : hload1 h b 0 = some v := k.ob.ld1 0
   have l1 : hload1 h b 1 = some (.int .i64 (c : Int)) := k.ob.ld1 1
   have l2 : hload1 h b 2 = some (.int .i64 (t : Int)) := k.ob.ld1 2
   have len := k.tb.recs.len
   have c0 : ¬ (c : Int) = 4096 := by omega
   by_cases hf : 3 * (sl.length : Int) < 4 * ((c : Int) + (t : Int) + 1)
   · simp (disch := omega) only [evs, ↓reduceIte, Nat.reduceEqDiff, Nat.reduceAdd, DF, eff, Nat.reduceSub, fwrap_i64, putM, g0, l0, l1, l2, len, c0, eq_true hf]
     have o1 : v.one = true := by rcases k.tb.1 with rfl | rfl <;> rfl
     refine OQ_does (widen_ok (S := S) (q := c + 1) w k.ob (.inr ⟨k.tb, k.ne, k.tb.2.lt w⟩) o1 rfl nb k.op.uniq k.c1 k.kb (by omega) (by omega) (by omega)) ?_
     rintro _ h2 ⟨rfl, n, S', sl', hS, sn, n8, nb', q2, ob, tb, M, F⟩
     simp only [evs]
     exact fin F hS (M.kmt sn n8 nb' ob tb k.c1 k.mp) (by omega) (by simp [T.gs, g0]) (by simp [T.gs, g1]) (by simp [T.gs, g2])
   · simp (disch := omega) only [evs, ↓reduceIte, Nat.reduceEqDiff, Nat.reduceAdd, DF, eff, Nat.reduceSub, fwrap_i64, putM, g0, l0, l1, l2, len, c0, eq_false hf]
     refine putT_ok w k hk hx hm (by omega) ?_ ?_ ?_ fun h' sl' t' k' e1 e2 F' => K h' S (.inl rfl) (.inr ⟨v, sl', t', k', by omega⟩) F'
     · simp [T.gs, g0]
     · simp [T.gs, g1]
     · simp [T.gs, g2]
theorem kPut_ok {h : Heap} {b S key x : Nat} {m : Nat → Option Nat} {c : Nat} (w : WF h) (k : Km h b S m c) (hc : c < 4096 ∨ (m key).isSome = true) (k0 : 0 < key) (hk : key < 18446744073709551616) (hx : x < 4611686018427387904) :
 Does go 168 [.ptr b 0, .int .u64 (key : Int), .int .i64 (x : Int)] h fun u h' => u = .int .i64 0 ∧ ∃ S', (S' = S ∨ h.next ≤ S') ∧ Km h' b S' (mset' m key x) (if (m key).isSome = true then c else c + 1) ∧ Fr [b, S] h h' := by
 have kz : ¬ (key : Int) = 0 := by omega
 have k00 := k
 refine does_fn g168x rfl ?_
 rcases k with ⟨o, rfl, h1⟩ | ⟨v, sl, t, k, fill⟩
 · have l0 : hload1 h b 0 = some .nils := o.ld1 0
   simp only [evs, ↓reduceIte, Nat.reduceEqDiff, Nat.reduceAdd, fn168x, kz, l0, show ¬ (0 : Int) < 0 by omega]
   refine putM_ok w k00 (by omega) hk hx (h1 key) ?_ ?_ ?_ fun h' S' a b c => ?_
   · simp [T.gs]
   · simp [T.gs]
   · simp [T.gs]
   · rw [h1]; exact ⟨rfl, S', a, b, c⟩
 · have l0 : hload1 h b 0 = some v := k.ob.ld1 0
   have len := k.tb.recs.len
   have n8 := k.n8
   have nb := k.nb
   simp only [evs, ↓reduceIte, Nat.reduceEqDiff, Nat.reduceAdd, fn168x, kz, l0, len, eq_true (show (0 : Int) < (sl.length : Int) by omega)]
   refine OQ_does (look_ok w k.ob k.tb k.op (by omega) hk) ?_
   rintro _ h2 ⟨at', found, rfl, L, F⟩
   cases found
   · have hm : m key = none := by
      cases e : m key with
      | none => rfl
      | some y => obtain ⟨i, hi⟩ := (k.mp key y).1 e; exact absurd hi ((L.no rfl).1 i y)
     rw [hm] at hc ⊢
     simp only [evs, ↓reduceIte]
     refine putM_ok F.wf (k00.fr F) (by simpa using hc) hk hx hm ?_ ?_ ?_ fun h' S' a b' c' => ⟨rfl, S', a.imp id (fun q => Nat.le_trans F.next q), by simpa using b', F.trans c' w (fun x hx => by simp at hx) (fun x hx => .inl hx)⟩
     · simp [T.gs]
     · simp [T.gs]
     · simp [T.gs]
   · obtain ⟨y, hy⟩ := L.yes rfl
     have hm := (k.mp key y).2 ⟨_, hy⟩
     have k2 := k.fr F
     have ix := k2.tb.ix _ L.lt
     have ne := k2.ne
     have l0' : hload1 h2 b 0 = some v := k2.ob.ld1 0
     rw [hm]
     simp only [evs, ↓reduceIte, Nat.reduceEqDiff, l0', ix]
     refine store_step (c' := (sl.set at' (1, key, x)).flatMap sc) F.wf k2.tb.2 rfl rfl (flat_upd2 key y x sl at' hy) ?_
     rintro h3 o3 F3 n3
     simp only [evs, ↓reduceIte]
     have e1 := cnS_set (c := 1) (x := ((1, key, x) : Slot)) hy
     have e2 := cnS_set (c := 2) (x := ((1, key, x) : Slot)) hy
     simp at e1 e2
     refine ⟨S, .inl rfl, .inr ⟨v, sl.set at' (1, key, x), t, ⟨F3.own b _ (by simpa using ne) k2.ob, ⟨by rw [List.length_set]; exact k.tb.1, o3⟩, k.op.change hy x, by rw [List.length_set]; exact n8, by rw [List.length_set]; exact nb, by have := k.c1; first | omega | (simp; omega), by have := k.c2; omega, ?_, mem_set_kb k.kb ⟨hk, hx⟩⟩, by rw [List.length_set]; first | exact fill | simpa using fill⟩, ?_⟩
     · intro k' x'
       unfold mset'
       constructor
       · intro e
         by_cases ck : k' = key
         · rw [if_pos ck] at e; cases e; subst ck
           exact ⟨at', set_get_self _ L.lt⟩
         · rw [if_neg ck] at e
           obtain ⟨i, hi⟩ := (k.mp k' x').1 e
           refine ⟨i, ?_⟩
           rw [List.getElem?_set_ne]
           · exact hi
           · rintro rfl; rw [hy] at hi; cases hi; exact ck rfl
       · rintro ⟨i, hi⟩
         rcases set_get _ _ _ _ _ hi with ⟨_, e, _⟩ | ⟨ci, hj⟩
         · cases e; rw [if_pos rfl]
         · have ck : k' ≠ key := by rintro rfl; exact ci (k.op.uniq _ _ _ _ _ hj hy)
           rw [if_neg ck]; exact (k.mp k' x').2 ⟨i, hj⟩
     · exact F.trans F3 w (fun x hx => by simp at hx) (fun x hx => .inl (by simp at hx; simp [hx]))
set_option maxRecDepth 4000
def TbC (e : Nat) (h : Heap) (v : V) (B : Nat) (C : List V) (N : Nat) : Prop := C.length = N * e ∧ ((v = .nils ∧ N = 0) ∨ (v = .slice B 0 N N ∧ Own h B C))
def Dst (e : Nat) (h : Heap) (B : Nat) (C : List V) (u : V) (o n : Nat) : Prop := o + n * e ≤ C.length ∧ ((n = 0 ∧ (u = .nils ∨ ∃ b o c, u = .slice b o 0 c)) ∨ ∃ cap, u = .slice B o n cap ∧ Own h B C)
variable {e : Nat} {h : Heap} {v u su : V} {B N : Nat} {C vs : List V}
theorem TbC.sl (a : TbC e h v B C N) : Sl h e v N C := by
 obtain ⟨hl, ⟨rfl, rfl⟩ | ⟨rfl, o⟩⟩ := a
 · exact ⟨hl, rfl⟩
 · exact Sl.lit o hl
theorem TbC.one (a : TbC e h v B C N) : v.one = true := a.sl.one
theorem TbC.len (a : TbC e h v B C N) : aP .lenS [v] = some (.int .i64 N) := a.sl.len
theorem TbC.fr {S : List Nat} {h' : Heap} (a : TbC e h v B C N) (f : Fr S h h') (hB : B ∉ S) : TbC e h' v B C N := by
 obtain ⟨hl, ⟨rfl, rfl⟩ | ⟨rfl, o⟩⟩ := a
 · exact ⟨hl, .inl ⟨rfl, rfl⟩⟩
 · exact ⟨hl, .inr ⟨rfl, f.own _ _ hB o⟩⟩
theorem Sl.ones {h : Heap} {e : Nat} {v : V} {n : Nat} {cs : List V} (a : Sl h e v n cs) (b : Sl h e v n vs) : cs = vs := by
 have := a.srcCells.symm.trans b.srcCells
 exact Option.some.inj this
theorem TbC.part (a : TbC e h v B C N) (lo hi : Bool) (bs : List V) (l r : Nat) (hr : r ≤ N) (hl : l ≤ r)
 (hb : abounds N N lo hi false bs = some (l, r, none)) (he : 0 < e) :
 ∃ v', aP (.sl none e lo hi false) (v :: bs) = some v' ∧ Sl h e v' (r - l) ((C.drop (l * e)).take ((r - l) * e)) ∧ Dst e h B C v' (l * e) (r - l) := by
 have hm : l * e + (r - l) * e ≤ C.length := by
  rw [a.1, ← Nat.add_mul]; exact Nat.mul_le_mul_right _ (by omega)
 obtain ⟨hlen, ⟨rfl, rfl⟩ | ⟨rfl, o⟩⟩ := a
 · have h0 : l = 0 := by omega
   have h1 : r = 0 := by omega
   subst h0 h1
   refine ⟨.nils, by simp only [aP, aslice, hb, Option.map_some], ⟨by simp, rfl⟩, ⟨hm, .inl ⟨by omega, .inl rfl⟩⟩⟩
 · refine ⟨.slice B (bif Nat.beq N l then 0 else 0 + l * e) (r - l) (N - l), by simp only [aP, aslice, hb, Option.map_some, Option.getD_none], ⟨by simp; omega, rfl, by omega, C, o, ?_⟩, hm, ?_⟩
   · by_cases c : N = l
     · have h0 : r - l = 0 := by omega
       rw [beq_tt c, h0]; simp
     · rw [beq_ff c]; simp only [cond_false, Nat.zero_add]; exact ⟨hm, trivial⟩
   · by_cases c : N = l
     · have h0 : r - l = 0 := by omega
       rw [beq_tt c, h0]; exact .inl ⟨rfl, .inr ⟨_, _, _, rfl⟩⟩
     · rw [beq_ff c]; simp only [cond_false, Nat.zero_add]; exact .inr ⟨_, rfl, o⟩
theorem TbC.from (a : TbC e h v B C N) (he : 0 < e) (k : IntKind) (i : Int) (l : Nat) (hi : i = l) (hl : l ≤ N) :
 ∃ v', aP (.sl none e true false false) [v, .int k i] = some v' ∧ Sl h e v' (N - l) ((C.drop (l * e)).take ((N - l) * e)) ∧ Dst e h B C v' (l * e) (N - l) := by
 subst hi
 exact a.part true false [.int k l] l N (Nat.le_refl _) hl (by simp only [abounds, abound_ok k l N (by omega) (by omega), Option.map_some, Int.toNat_natCast]) he
theorem TbC.upto (a : TbC e h v B C N) (he : 0 < e) (k : IntKind) (i : Int) (r : Nat) (hi : i = r) (hr : r ≤ N) :
 ∃ v', aP (.sl none e false true false) [v, .int k i] = some v' ∧ Sl h e v' r (C.take (r * e)) := by
 subst hi
 obtain ⟨v', a1, a2, _⟩ := a.part false true [.int k r] 0 r hr (Nat.zero_le _) (by simp only [abounds, abound_ok k r N (by omega) (by omega), Option.map_some, Int.toNat_natCast]) he
 exact ⟨v', a1, by simpa using a2⟩
theorem TbC.range (a : TbC e h v B C N) (he : 0 < e) (k k' : IntKind) (i j : Int) (l r : Nat) (hi : i = l) (hj : j = r) (hr : r ≤ N) (hl : l ≤ r) :
 ∃ v', aP (.sl none e true true false) [v, .int k i, .int k' j] = some v' ∧ Sl h e v' (r - l) ((C.drop (l * e)).take ((r - l) * e)) ∧ Dst e h B C v' (l * e) (r - l) := by
 subst hi hj
 exact a.part true true [.int k l, .int k' r] l r hr hl (by
  simp only [abounds, abound_ok k' r N (by omega) (by omega), Option.bind_some, Int.toNat_natCast, abound_ok k l r (by omega) (by omega), Option.map_some]) he
theorem copy_ok {o n m : Nat} {K : V → Heap → Prop} (he : 0 < e) (w : WF h) (d : Dst e h B C u o n) (s : Sl h e su m vs) (h1 : onesB vs = true) (hm : m ≤ n)
 (t : TbC e h v B C N)
 (k : ∀ h1, TbC e h1 v B (C.take o ++ vs ++ C.drop (o + m * e)) N → Fr [B] h h1 → h1.next = h.next → K (.int .i64 (m : Int)) h1) : OQ (acopy h e u su) K := by
 have hl := s.1
 have hd : dstLen u = some n := by
  rcases d.2 with ⟨rfl, rfl | ⟨_, _, _, rfl⟩⟩ | ⟨_, rfl, _⟩ <;> rfl
 have ht : (C.take o ++ vs ++ C.drop (o + m * e)).length = N * e := by
  have := d.1
  have := Nat.mul_le_mul_right e hm
  rw [← t.1]; simp; omega
 unfold acopy OQ
 simp only [hd, s.srcLen, Nat.min_def]
 rw [if_pos hm]
 by_cases c : m = 0
 · subst c
   have : vs = [] := List.length_eq_zero_iff.1 (by omega)
   subst this
   refine ⟨_, _, rfl, k h ?_ (Fr.refl w) rfl⟩
   simpa using t
 · rw [beq_ff c]
   rcases d.2 with ⟨h0, _⟩ | ⟨cap, rfl, ow⟩
   · omega
   · obtain ⟨_, ⟨rfl, rfl⟩ | ⟨rfl, _⟩⟩ := t
     · exfalso
       have := d.1
       have : C.length = 0 := by omega
       have : n * e = 0 := by omega
       rcases Nat.mul_eq_zero.1 this with z | z <;> omega
     · obtain ⟨h', e1, o1, f1, n1⟩ := own_store w ow h1 (updO_at C o vs (by have := d.1; have := Nat.mul_le_mul_right e hm; omega))
       refine ⟨_, h', ?_, k h' ⟨ht, .inr ⟨rfl, ?_⟩⟩ f1 n1⟩
       · simp only [cond_false, s.srcCells, e1, Option.map_some]
       · rw [hl] at o1; exact o1
theorem repL_len (z : List V) (n : Nat) : (repL z n).length = n * z.length := by
 induction n with
 | zero => simp [repL_zero]
 | succ n ih => rw [repL_succ, List.length_append, ih]; rw [Nat.succ_mul]; omega
theorem onesB_append (a b : List V) : onesB (a ++ b) = (onesB a && onesB b) := by
 induction a with
 | nil => simp [onesB]
 | cons x l ih => rw [List.cons_append, onesB_cons, onesB_cons, ih, Bool.and_assoc]
theorem onesB_take {a : List V} (n : Nat) (x : onesB a = true) : onesB (a.take n) = true := by
 rw [← List.take_append_drop n a, onesB_append] at x
 exact (Bool.and_eq_true _ _ ▸ x).1
theorem onesB_drop {a : List V} (n : Nat) (x : onesB a = true) : onesB (a.drop n) = true := by
 rw [← List.take_append_drop n a, onesB_append] at x
 exact (Bool.and_eq_true _ _ ▸ x).2
theorem onesB_repL {z : List V} (n : Nat) (x : onesB z = true) : onesB (repL z n) = true := by
 induction n with
 | zero => rfl
 | succ n ih => rw [repL_succ, onesB_append, x, ih]; rfl
theorem clr_ok {o n : Nat} {z : List V} {K : V → Heap → Prop} (w : WF h) (d : Dst e h B C u o n) (hz : z.length = e) (h1 : onesB z = true) (t : TbC e h v B C N)
 (k : ∀ h1, TbC e h1 v B (C.take o ++ repL z n ++ C.drop (o + n * e)) N → Fr [B] h h1 → h1.next = h.next → K (.tup []) h1) : OQ (aclr h z u) K := by
 have ht : (C.take o ++ repL z n ++ C.drop (o + n * e)).length = N * e := by
  have := d.1
  rw [← t.1]; simp [repL_len, hz]; omega
 unfold aclr OQ
 rcases d.2 with ⟨rfl, q⟩ | ⟨cap, rfl, ow⟩
 · have : K (.tup []) h := k h (by simpa [repL_zero] using t) (Fr.refl w) rfl
   rcases q with rfl | ⟨_, _, _, rfl⟩
   · exact ⟨_, _, rfl, this⟩
   · exact ⟨_, _, rfl, this⟩
 · by_cases c : n = 0
   · subst c
     exact ⟨_, _, rfl, k h (by simpa [repL_zero] using t) (Fr.refl w) rfl⟩
   · obtain ⟨h', e1, o1, f1, n1⟩ := own_store w ow (onesB_repL n h1) (updO_at C o (repL z n) (by rw [repL_len, hz]; exact d.1))
     refine ⟨_, h', ?_, k h' ⟨ht, ?_⟩ f1 n1⟩
     · simp only [beq_ff c, cond_false, e1, Option.map_some]
     · obtain ⟨hl, ⟨rfl, rfl⟩ | ⟨rfl, _⟩⟩ := t
       · exact .inl ⟨rfl, rfl⟩
       · rw [repL_len, hz] at o1; exact .inr ⟨rfl, o1⟩
abbrev Z4 : List V := [.int .u64 0, .int .u8 0, .str [], .nils]
def NoI (l : List V) : Prop := ∀ x ∈ l, ∀ n : Int, x ≠ .int .i64 n
theorem NoI.sub {a b : List V} (h : NoI b) (s : ∀ x ∈ a, x ∈ b) : NoI a := fun x m => h x (s x m)
theorem NoI.app {a b : List V} (h : NoI a) (g : NoI b) : NoI (a ++ b) := fun x m => (List.mem_append.1 m).elim (h x) (g x)
structure GpT (h : Heap) (b B : Nat) (v : V) (c1 G c2 : List V) (a g m : Nat) : Prop where
 ob : Own h b [v, .int .i64 (a : Int), .int .i64 (g : Int)]
 tb : TbC 4 h v B (c1 ++ G ++ c2) (a + g + m)
 l1 : c1.length = a * 4
 lg : G.length = g * 4
 l2 : c2.length = m * 4
 o1 : onesB c1 = true
 o2 : onesB c2 = true
 ne : B ≠ b
 nb : a + g + m ≤ 8208
 am : a + m ≤ 4096
 n6 : NoI (c1 ++ G ++ c2)
def Gp (h : Heap) (b B : Nat) (n : Nat) (l : List V) : Prop := ∃ v c1 G c2 a g m, GpT h b B v c1 G c2 a g m ∧ l = c1 ++ c2 ∧ n = a + m
variable {h : Heap} {b B : Nat} {v : V} {c1 G c2 : List V} {a g m : Nat}
theorem GpT.fr {h' : Heap} (k : GpT h b B v c1 G c2 a g m) {S : List Nat} (f : Fr S h h') (hb : b ∉ S) (hB : B ∉ S) : GpT h' b B v c1 G c2 a g m :=
 ⟨f.own _ _ hb k.ob, k.tb.fr f hB, k.l1, k.lg, k.l2, k.o1, k.o2, k.ne, k.nb, k.am, k.n6⟩
theorem Gp.fr {h' : Heap} {n : Nat} {l : List V} (k : Gp h b B n l) {S : List Nat} (f : Fr S h h') (hb : b ∉ S) (hB : B ∉ S) : Gp h' b B n l := by
 obtain ⟨v, c1, G, c2, a, g, m, k, e⟩ := k; exact ⟨v, c1, G, c2, a, g, m, k.fr f hb hB, e⟩
theorem Gp.len {n : Nat} {l : List V} (k : Gp h b B n l) : l.length = n * 4 ∧ n ≤ 4096 ∧ onesB l = true := by
 obtain ⟨v, c1, G, c2, a, g, m, k, rfl, rfl⟩ := k
 have := k.l1; have := k.l2; have := k.am
 exact ⟨by simp; omega, by omega, by rw [onesB_append, k.o1, k.o2]; rfl⟩
theorem gLen_ok (k : GpT h b B v c1 G c2 a g m) : Does go 52 [.ptr b 0] h fun u h' => u = .int .i64 ((a + m : Nat) : Int) ∧ h = h' := by
 have l0 := k.ob.ld1 0
 have l2 := k.ob.ld1 2
 have nb := k.nb
 simp only [nth_zero, nth_succ] at l0 l2
 refine does_fn g52 rfl ?_
 simp (disch := omega) only [fn52, evs, ↓reduceIte, Nat.reduceEqDiff, Nat.reduceAdd, DF, eff, Nat.reduceSub, fwrap_i64, l0, l2, k.tb.len]
 congr 1; omega
def gchk (n : Nat) (at' k : Int) : Int := if at' < 0 ∨ k < 0 ∨ (n : Int) < at' ∨ (n : Int) - at' < k then 4 else 0
theorem gcheck_ok (k : GpT h b B v c1 G c2 a g m) (i n : Int) : Does go 137 [.ptr b 0, .int .i64 i, .int .i64 n] h fun u h' => u = .int .i64 (gchk (a + m) i n) ∧ h = h' := by
 unfold gchk
 by_cases x1 : i < 0
 · refine does_fn g137 rfl ?_
   simp only [fn137, evs, ↓reduceIte, Nat.reduceEqDiff, Nat.reduceAdd, x1]
   simp
 by_cases x2 : n < 0
 · refine does_fn g137 rfl ?_
   simp only [fn137, evs, ↓reduceIte, Nat.reduceEqDiff, Nat.reduceAdd, x1, x2]
   simp
 have am := k.am
 by_cases x3 : ((a + m : Nat) : Int) < i
 · refine does_fn g137 rfl ?_
   simp only [fn137, evs, ↓reduceIte, Nat.reduceEqDiff, Nat.reduceAdd, x1, x2]
   refine OQ_does (gLen_ok k) ?_
   rintro _ _ ⟨rfl, rfl⟩
   simp only [evs, ↓reduceIte, x3]
   simp
 by_cases x4 : ((a + m : Nat) : Int) - i < n
 · refine does_fn g137 rfl ?_
   simp only [fn137, evs, ↓reduceIte, Nat.reduceEqDiff, Nat.reduceAdd, x1, x2]
   refine OQ_does (gLen_ok k) ?_
   rintro _ _ ⟨rfl, rfl⟩
   simp only [evs, ↓reduceIte, Nat.reduceEqDiff, x3]
   refine OQ_does (gLen_ok k) ?_
   rintro _ _ ⟨rfl, rfl⟩
   simp (disch := omega) only [evs, ↓reduceIte, Nat.reduceEqDiff, fwrap_i64, x4]
   simp
 · refine does_fn g137 rfl ?_
   simp only [fn137, evs, ↓reduceIte, Nat.reduceEqDiff, Nat.reduceAdd, x1, x2]
   refine OQ_does (gLen_ok k) ?_
   rintro _ _ ⟨rfl, rfl⟩
   simp only [evs, ↓reduceIte, Nat.reduceEqDiff, x3]
   refine OQ_does (gLen_ok k) ?_
   rintro _ _ ⟨rfl, rfl⟩
   simp (disch := omega) only [evs, ↓reduceIte, Nat.reduceEqDiff, fwrap_i64, x4]
   simp
theorem place_ok (k : GpT h b B v c1 G c2 a g m) (i : Nat) (hi : i ≤ 4096) : Does go 138 [.ptr b 0, .int .i64 (i : Int)] h fun u h' => u = .int .i64 ((if a ≤ i then i + g else i : Nat) : Int) ∧ h = h' := by
 have l1 := k.ob.ld1 1
 have l2 := k.ob.ld1 2
 have nb := k.nb
 simp only [nth_zero, nth_succ] at l1 l2
 by_cases c : a ≤ i
 · refine does_fn g138 rfl ?_
   simp (disch := omega) only [fn138, evs, ↓reduceIte, Nat.reduceEqDiff, Nat.reduceAdd, fwrap_i64, l1, l2, show (a : Int) ≤ (i : Int) by omega]
   rw [if_pos c]; simp
 · refine does_fn g138 rfl ?_
   simp only [fn138, evs, ↓reduceIte, Nat.reduceEqDiff, Nat.reduceAdd, l1, show ¬ (a : Int) ≤ (i : Int) by omega]
   rw [if_neg c]
theorem gchk_in {n i : Nat} (h : i < n) : gchk n i 1 = 0 := by unfold gchk; rw [if_neg]; omega
theorem slice2 {α : Type} (c1 G c2 : List α) (a g i k : Nat) (l1 : c1.length = a * k) (lg : G.length = g * k) :
 ((c1 ++ G ++ c2).drop ((if a ≤ i then i + g else i) * k)).take k = ((c1 ++ c2).drop (i * k)).take k := by
 by_cases c : a ≤ i
 · rw [if_pos c]
   obtain ⟨j, rfl⟩ : ∃ j, i = a + j := ⟨i - a, by omega⟩
   have e1 : (a + j + g) * k = (c1 ++ G).length + j * k := by rw [List.length_append, l1, lg, Nat.add_mul, Nat.add_mul]; omega
   have e2 : (a + j) * k = c1.length + j * k := by rw [l1, Nat.add_mul]
   rw [e1, e2, List.drop_length_add_append, List.drop_length_add_append]
 · rw [if_neg c]
   have e : i * k + k ≤ c1.length := by rw [l1, ← Nat.succ_mul]; exact Nat.mul_le_mul_right _ (by omega)
   rw [List.append_assoc, List.drop_append_of_le_length (by omega), List.take_append_of_le_length (by simp; omega), List.drop_append_of_le_length (by omega), List.take_append_of_le_length (by simp; omega)]
theorem GpT.at' (k : GpT h b B v c1 G c2 a g m) {i : Nat} (hi : i < a + m) :
 aP (.ixs 4) [v, .int .i64 ((if a ≤ i then i + g else i : Nat) : Int)] = some (.ptr B ((if a ≤ i then i + g else i) * 4)) ∧ hload h B ((if a ≤ i then i + g else i) * 4) 4 = some (((c1 ++ c2).drop (i * 4)).take 4) := by
 have hp : (if a ≤ i then i + g else i) < a + g + m := by split <;> omega
 obtain ⟨hl, ⟨rfl, z⟩ | ⟨rfl, o⟩⟩ := k.tb
 · omega
 · refine ⟨?_, ?_⟩
   · rw [aP_ixS _ _ _ _ _ _ _ (by omega) (by omega)]; simp
   · rw [o.ld, dropL_eq, takeL_at, slice2 c1 G c2 a g i 4 k.l1 k.lg]
     simp only [List.length_drop, hl]; omega
theorem cell4 {l : List V} {n i : Nat} (hl : l.length = n * 4) (hi : i < n) (ho : onesB l = true) : ∃ x y z u, (l.drop (i * 4)).take 4 = [x, y, z, u] ∧ onesB [x, y, z, u] = true := by
 have e : ((l.drop (i * 4)).take 4).length = 4 := by simp; omega
 have ho' := onesB_take 4 (onesB_drop (i * 4) ho)
 match q : (l.drop (i * 4)).take 4, e with
 | [x, y, z, u], _ => exact ⟨x, y, z, u, rfl, by rw [q] at ho'; exact ho'⟩
theorem GpT.tot (k : GpT h b B v c1 G c2 a g m) : (c1 ++ c2).length = (a + m) * 4 ∧ onesB (c1 ++ c2) = true := by
 have := k.l1; have := k.l2
 exact ⟨by simp; omega, by rw [onesB_append, k.o1, k.o2]; rfl⟩
theorem gAt_ok (w : WF h) (k : GpT h b B v c1 G c2 a g m) {i : Nat} (hi : i < a + m) : Does go 70 [.ptr b 0, .int .i64 (i : Int)] h fun u h' => Fr [] h h' ∧ u = .tup [.agg (((c1 ++ c2).drop (i * 4)).take 4), .int .i64 0] := by
 have am := k.am
 obtain ⟨x, y, z, u, ec, eo⟩ := cell4 k.tot.1 hi k.tot.2
 obtain ⟨h1, e_h1⟩ : ∃ h1, h1 = halloc h [.int .u64 0, .int .u8 0, .str [], .nils] := ⟨_, rfl⟩
 have F_h1 : Fr [] h h1 := e_h1 ▸ Fr.halloc w _
 have o_h1 : Own h1 h.next [.int .u64 0, .int .u8 0, .str [], .nils] := e_h1 ▸ Own.new w _
 have k1 := k.fr F_h1 (by simp) (by simp)
 refine does_fn g70 rfl ?_
 simp only [fn70, evs, ↓reduceIte, Nat.reduceEqDiff, Nat.reduceAdd, ← e_h1]
 refine OQ_does (gcheck_ok k1 i 1) ?_
 rintro _ _ ⟨rfl, rfl⟩
 simp only [evs, ↓reduceIte, Nat.reduceEqDiff, eff, gchk_in hi]
 have l0 := k1.ob.ld1 0
 simp only [nth_zero] at l0
 have nh : h.next ≠ b := by have := k.ob.lt w; omega
 simp only [evs, ↓reduceIte, Nat.reduceEqDiff, eff, l0]
 refine OQ_does (place_ok k1 i (by omega)) ?_
 rintro _ _ ⟨rfl, rfl⟩
 have ⟨a1, a2⟩ := k1.at' hi
 rw [ec] at a2
 simp only [evs, ↓reduceIte, Nat.reduceEqDiff, eff, a1, a2]
 refine store_step F_h1.wf o_h1 rfl eo rfl ?_
 rintro h2 o2 F2 n2
 have l0' : hload1 h2 b 0 = some v := (F2.own b _ (by simp; omega) k1.ob).ld1 0
 have a2' : hload h2 B ((if a ≤ i then i + g else i) * 4) 4 = some [x, y, z, u] := by
  obtain ⟨hl, ⟨rfl, z⟩ | ⟨rfl, o⟩⟩ := k1.tb
  · omega
  · have ne : B ≠ h.next := by
     obtain ⟨_, ⟨q, _⟩ | ⟨_, q⟩⟩ := k.tb
     · cases q
     · have := q.lt w; omega
    have o' := F2.own B _ (by simpa using ne) o
    rw [o.ld] at a2
    rw [o'.ld]; exact a2
 simp only [evs, ↓reduceIte, Nat.reduceEqDiff, Nat.reduceAdd, DF, eff, Nat.reduceSub, l0, a2, o2.ld]
 exact ⟨F_h1.fresh F2 w (Nat.le_refl _), by rw [ec]⟩
variable {h : Heap} {b B : Nat} {v : V} {c1 G c2 : List V} {a g m : Nat}
theorem bringL1 {α : Type} {c1 G c2 : List α} {p g a : Nat} (l1 : c1.length = a * 4) (lg : G.length = g * 4) (hp : p ≤ a) (C1 : List α)
 (e : C1 = (c1 ++ G ++ c2).take ((p + g) * 4) ++ ((c1 ++ G ++ c2).drop (p * 4)).take ((a - p) * 4) ++ (c1 ++ G ++ c2).drop ((p + g) * 4 + (a - p) * 4)) :
 C1.take (p * 4) = c1.take (p * 4) ∧ C1.drop (p * 4 + g * 4) = c1.drop (p * 4) ++ c2 := by
 have hl : (p + g) * 4 ≤ (c1 ++ G ++ c2).length := by simp; omega
 have h1 : ((c1 ++ G ++ c2).take ((p + g) * 4)).length = p * 4 + g * 4 := by rw [List.length_take]; omega
 have h2 : ((c1 ++ G ++ c2).drop (p * 4)).take ((a - p) * 4) = c1.drop (p * 4) := by
  rw [List.append_assoc, List.drop_append_of_le_length (by omega), List.take_append_of_le_length (by simp; omega)]
  exact List.take_of_length_le (by simp; omega)
 have h3 : (c1 ++ G ++ c2).drop ((p + g) * 4 + (a - p) * 4) = c2 := by
  rw [show (p + g) * 4 + (a - p) * 4 = (c1 ++ G).length by simp; omega]
  exact List.drop_left
 subst e
 rw [h2, h3]
 refine ⟨?_, ?_⟩
 · rw [List.append_assoc, List.take_append_of_le_length (by omega), List.take_take, Nat.min_eq_left (by omega), List.append_assoc, List.take_append_of_le_length (by omega)]
 · generalize (c1 ++ G ++ c2).take ((p + g) * 4) = A at h1 ⊢
   rw [← h1, List.append_assoc A]; exact List.drop_left
theorem bringL2 {α : Type} {c1 G c2 : List α} {p g a m : Nat} (l1 : c1.length = a * 4) (lg : G.length = g * 4) (l2 : c2.length = m * 4) (hp : a ≤ p) (hm : p ≤ a + m) (C1 : List α)
 (e : C1 = (c1 ++ G ++ c2).take (a * 4) ++ ((c1 ++ G ++ c2).drop ((a + g) * 4)).take ((p + g - (a + g)) * 4) ++ (c1 ++ G ++ c2).drop (a * 4 + (p + g - (a + g)) * 4)) :
 C1.take (p * 4) = c1 ++ c2.take ((p - a) * 4) ∧ C1.drop (p * 4 + g * 4) = c2.drop ((p - a) * 4) := by
 have h1 : (c1 ++ G ++ c2).take (a * 4) = c1 := by rw [← l1, List.append_assoc]; exact List.take_left
 have h2 : ((c1 ++ G ++ c2).drop ((a + g) * 4)).take ((p + g - (a + g)) * 4) = c2.take ((p - a) * 4) := by
  rw [show (a + g) * 4 = (c1 ++ G).length by simp; omega, List.drop_left, show p + g - (a + g) = p - a by omega]
 have h3 : (c1 ++ c2.take ((p - a) * 4)).length = p * 4 := by simp; omega
 have h4 : p + g - (a + g) = p - a := by omega
 subst e
 rw [h1, h2]
 refine ⟨?_, ?_⟩
 · rw [← h3]; exact List.take_left
 · rw [show p * 4 + g * 4 = (c1 ++ c2.take ((p - a) * 4)).length + g * 4 by omega, List.drop_length_add_append, List.drop_drop, h4, show a * 4 + (p - a) * 4 + g * 4 = (c1 ++ G).length + (p - a) * 4 by simp; omega, List.drop_length_add_append]
theorem NoI.rep {z : List V} (h : NoI z) : ∀ n, NoI (repL z n)
 | 0 => by rw [repL_zero]; intro x m; simp at m
 | n + 1 => by rw [repL_succ]; exact h.app (NoI.rep h n)
theorem NoI.z4 : NoI Z4 := by
 intro x m n
 simp at m
 rcases m with rfl | rfl | rfl | rfl <;> simp
theorem bring_ok (w : WF h) (k : GpT h b B v c1 G c2 a g m) {p : Nat} (hp : p ≤ a + m) : Does go 165 [.ptr b 0, .int .i64 (p : Int)] h fun u h' => u = .tup [] ∧
 GpT h' b B v ((c1 ++ c2).take (p * 4)) (repL Z4 g) ((c1 ++ c2).drop (p * 4)) p g (a + m - p) ∧ Fr [b, B] h h' := by
 have l0 : hload1 h b 0 = some v := k.ob.ld1 0
 have l1 : hload1 h b 1 = some (.int .i64 (a : Int)) := k.ob.ld1 1
 have l2 : hload1 h b 2 = some (.int .i64 (g : Int)) := k.ob.ld1 2
 have nb := k.nb
 have am := k.am
 have tot := k.tot
 have n12 : NoI (c1 ++ c2) := k.n6.sub fun x m => by simp at m ⊢; rcases m with m | m <;> simp [m]
 have tl := k.l1; have tg := k.lg; have t2l := k.l2
 by_cases c : p < a
 · obtain ⟨u1, e1, s1, d1⟩ := k.tb.from (by omega) .i64 ((p : Int) + g) (p + g) (by omega) (by omega)
   obtain ⟨u2, e2, s2, d2⟩ := k.tb.range (by omega) .i64 .i64 p a p a rfl rfl (by omega) (by omega)
   have ⟨c1', c2'⟩ := bringL1 (c2 := c2) k.l1 k.lg (Nat.le_of_lt c) _ rfl
   have z1 : (c1 ++ c2).take (p * 4) = c1.take (p * 4) := List.take_append_of_le_length (by omega)
   have z2 : (c1 ++ c2).drop (p * 4) = c1.drop (p * 4) ++ c2 := List.drop_append_of_le_length (by omega)
   rw [← z1] at c1'
   rw [← z2] at c2'
   refine does_fn g165 rfl ?_
   simp (disch := omega) only [fn165, evs, ↓reduceIte, Nat.reduceEqDiff, Nat.reduceAdd, eff, fwrap_i64, l0, l1, l2, e1, e2, show (p : Int) < (a : Int) by omega]
   refine copy_ok (by omega) w d1 s2 ?_ (by omega) k.tb ?_
   · rw [List.append_assoc, List.drop_append_of_le_length (by omega), List.take_append_of_le_length (by simp; omega)]
     exact onesB_take _ (onesB_drop _ k.o1)
   rintro h1 t1 F1 n1
   have ob1 := F1.own b _ (by simpa using k.ne.symm) k.ob
   have l0' : hload1 h1 b 0 = some v := ob1.ld1 0
   simp only [evs, ↓reduceIte, Nat.reduceEqDiff, Nat.reduceAdd, DF, Nat.reduceSub, l0, l1, l2]
   refine store_step (c' := [v, .int .i64 (p : Int), .int .i64 (g : Int)]) F1.wf ob1 rfl rfl rfl ?_
   rintro h2 o2 F2 n2
   have t2 := t1.fr F2 (by simpa using k.ne)
   have l0'' : hload1 h2 b 0 = some v := o2.ld1 0
   have l2'' : hload1 h2 b 2 = some (.int .i64 (g : Int)) := o2.ld1 2
   obtain ⟨u3, e3, s3, d3⟩ := t2.range (by omega) .i64 .i64 p ((p : Int) + g) p (p + g) rfl (by omega) (by omega) (by omega)
   simp (disch := omega) only [evs, ↓reduceIte, Nat.reduceEqDiff, eff, fwrap_i64, l0'', l2'', e3]
   refine clr_ok F2.wf d3 rfl rfl t2 ?_
   rintro h3 t3 F3 n3
   rw [show p + g - p = g by omega, c1', c2'] at t3
   simp only [evs, Nat.reduceAdd, DF, Nat.reduceSub, l0'', l2'']
   refine ⟨⟨F3.own b _ (by simpa using k.ne.symm) o2, ?_, by simp; omega, repL_len _ _, by simp; omega, onesB_take _ tot.2, onesB_drop _ tot.2, k.ne, by omega, by omega, ((n12.sub fun x m => List.mem_of_mem_take m).app (NoI.rep NoI.z4 g)).app (n12.sub fun x m => List.mem_of_mem_drop m)⟩, ?_⟩
   · rw [show p + g + (a + m - p) = a + g + m by omega]; exact t3
   · refine Fr.trans (T := [b, B]) (Fr.trans (T := [b, B]) F1 F2 w ?_ ?_) F3 w ?_ ?_ <;> intro x hx <;> simp at hx ⊢ <;> omega
 · obtain ⟨u1, e1, s1, d1⟩ := k.tb.from (by omega) .i64 (a : Int) a rfl (by omega)
   obtain ⟨u2, e2, s2, d2⟩ := k.tb.range (by omega) .i64 .i64 ((a : Int) + g) ((p : Int) + g) (a + g) (p + g) (by omega) (by omega) (by omega) (by omega)
   have ⟨c1', c2'⟩ := bringL2 k.l1 k.lg k.l2 (Nat.le_of_not_lt c) hp _ rfl
   have z1 : (c1 ++ c2).take (p * 4) = c1 ++ c2.take ((p - a) * 4) := by
    rw [show p * 4 = c1.length + (p - a) * 4 by omega, List.take_length_add_append]
   have z2 : (c1 ++ c2).drop (p * 4) = c2.drop ((p - a) * 4) := by
    rw [show p * 4 = c1.length + (p - a) * 4 by omega, List.drop_length_add_append]
   rw [← z1] at c1'
   rw [← z2] at c2'
   refine does_fn g165 rfl ?_
   simp (disch := omega) only [fn165, evs, ↓reduceIte, Nat.reduceEqDiff, Nat.reduceAdd, eff, fwrap_i64, l0, l1, l2, e1, e2, show ¬ (p : Int) < (a : Int) by omega]
   refine copy_ok (by omega) w d1 s2 ?_ (by omega) k.tb ?_
   · rw [show (a + g) * 4 = (c1 ++ G).length by simp; omega, List.drop_left]
     exact onesB_take _ k.o2
   rintro h1 t1 F1 n1
   have ob1 := F1.own b _ (by simpa using k.ne.symm) k.ob
   have l0' : hload1 h1 b 0 = some v := ob1.ld1 0
   simp only [evs, ↓reduceIte, Nat.reduceEqDiff, Nat.reduceAdd, DF, Nat.reduceSub, l0, l1, l2]
   refine store_step (c' := [v, .int .i64 (p : Int), .int .i64 (g : Int)]) F1.wf ob1 rfl rfl rfl ?_
   rintro h2 o2 F2 n2
   have t2 := t1.fr F2 (by simpa using k.ne)
   have l0'' : hload1 h2 b 0 = some v := o2.ld1 0
   have l2'' : hload1 h2 b 2 = some (.int .i64 (g : Int)) := o2.ld1 2
   obtain ⟨u3, e3, s3, d3⟩ := t2.range (by omega) .i64 .i64 p ((p : Int) + g) p (p + g) rfl (by omega) (by omega) (by omega)
   simp (disch := omega) only [evs, ↓reduceIte, Nat.reduceEqDiff, eff, fwrap_i64, l0'', l2'', e3]
   refine clr_ok F2.wf d3 rfl rfl t2 ?_
   rintro h3 t3 F3 n3
   rw [show p + g - p = g by omega, c1', c2'] at t3
   simp only [evs, Nat.reduceAdd, DF, Nat.reduceSub, l0'', l2'']
   refine ⟨⟨F3.own b _ (by simpa using k.ne.symm) o2, ?_, by simp; omega, repL_len _ _, by simp; omega, onesB_take _ tot.2, onesB_drop _ tot.2, k.ne, by omega, by omega, ((n12.sub fun x m => List.mem_of_mem_take m).app (NoI.rep NoI.z4 g)).app (n12.sub fun x m => List.mem_of_mem_drop m)⟩, ?_⟩
   · rw [show p + g + (a + m - p) = a + g + m by omega]; exact t3
   · refine Fr.trans (T := [b, B]) (Fr.trans (T := [b, B]) F1 F2 w ?_ ?_) F3 w ?_ ?_ <;> intro x hx <;> simp at hx ⊢ <;> omega
variable {h : Heap} {b B : Nat} {v : V} {c1 G c2 : List V} {a g m : Nat}
theorem widenL {α : Type} {c1 c2 Z : List α} {a g m : Nat} (l1 : c1.length = a * 4) (l2 : c2.length = m * 4) (lz : Z.length = (a + m + g) * 4) :
 (Z.take 0 ++ c1 ++ Z.drop (0 + a * 4)).take ((a + g) * 4) ++ c2 ++ (Z.take 0 ++ c1 ++ Z.drop (0 + a * 4)).drop ((a + g) * 4 + m * 4) = c1 ++ (Z.drop (a * 4)).take (g * 4) ++ c2 := by
 simp only [List.take_zero, List.nil_append, Nat.zero_add]
 have h1 : (c1 ++ Z.drop (a * 4)).length = (a + g) * 4 + m * 4 := by simp; omega
 rw [← h1, List.drop_length, List.append_nil, show (a + g) * 4 = c1.length + g * 4 by omega, List.take_length_add_append]
theorem TbC.fr' {e : Nat} {h h' : Heap} {v : V} {B N : Nat} {C : List V} {S : List Nat} (a : TbC e h v B C N) (f : Fr S h h') (hB : v = .nils ∨ B ∉ S) : TbC e h' v B C N := by
 obtain ⟨hl, ⟨rfl, rfl⟩ | ⟨rfl, o⟩⟩ := a
 · exact ⟨hl, .inl ⟨rfl, rfl⟩⟩
 · rcases hB with q | q
   · cases q
   · exact ⟨hl, .inr ⟨rfl, f.own _ _ q o⟩⟩
theorem widenG_ok (w : WF h) (k : GpT h b B v c1 G c2 a g m) {n : Nat} (hn : a + m + n ≤ 4096) : Does go 166 [.ptr b 0, .int .i64 (n : Int)] h fun u h' => u = .tup [] ∧
 ∃ B' v' G' g', (B' = B ∨ h.next ≤ B') ∧ GpT h' b B' v' c1 G' c2 a g' m ∧ n ≤ g' ∧ Fr [b] h h' := by
 have l0 : hload1 h b 0 = some v := k.ob.ld1 0
 have l1 : hload1 h b 1 = some (.int .i64 (a : Int)) := k.ob.ld1 1
 have l2 : hload1 h b 2 = some (.int .i64 (g : Int)) := k.ob.ld1 2
 have nb := k.nb
 have am := k.am
 have blt := k.ob.lt w
 by_cases c : n ≤ g
 · refine does_fn g166 rfl ?_
   simp only [fn166, evs, ↓reduceIte, Nat.reduceAdd, l2, show (n : Int) ≤ (g : Int) by omega]
   exact ⟨B, v, G, g, .inl rfl, k, c, Fr.refl w⟩
 · have hq : (a + g + m) / 2 ≤ 4104 := by omega
   have q : aP (.ib .quo) [.int .i64 ((a + g + m : Nat) : Int), .int .i64 2] = some (.int .i64 (((a + g + m) / 2 : Nat) : Int)) := by
    rw [aP_quo _ _ _ (by decide), show (((a + g + m : Nat) : Int)).tdiv 2 = (((a + g + m) / 2 : Nat) : Int) from rfl, fwrap_i64 _ (by omega) (by omega)]
   generalize (a + g + m) / 2 = d at q hq
   refine does_fn g166 rfl ?_
   simp (disch := omega) only [fn166, evs, ↓reduceIte, Nat.reduceEqDiff, Nat.reduceAdd, fwrap_i64, l0, l2, show ¬ (n : Int) ≤ (g : Int) by omega, k.tb.len, q]
   refine OQ_does (gLen_ok k) ?_
   rintro _ _ ⟨rfl, rfl⟩
   simp (disch := omega) only [evs, ↓reduceIte, fwrap_i64]
   rw [show ((a + m : Nat) : Int) + (↑n + ↑d + 8) = ((a + m + (n + d + 8) : Nat) : Int) by omega]
   refine (amake_ok _ _ _ _ _ _ _ _ (by omega) (by omega) (by omega) (by omega)).2 ?_
   simp only [Int.toNat_natCast]
   have ln : (repL Z4 (a + m + (n + d + 8))).length = (a + m + (n + d + 8)) * 4 := repL_len _ _
   obtain ⟨h1, e_h1⟩ : ∃ h1, h1 = halloc h (repL [.int .u64 0, .int .u8 0, .str [], .nils] (a + m + (n + d + 8))) := ⟨_, rfl⟩
   have F_h1 : Fr [] h h1 := e_h1 ▸ Fr.halloc w _
   have o_h1 : Own h1 h.next (repL Z4 (a + m + (n + d + 8))) := e_h1 ▸ Own.new w _
   rw [← e_h1]
   clear e_h1
   have nz : NoI (repL Z4 (a + m + (n + d + 8))) := NoI.rep NoI.z4 _
   generalize repL Z4 (a + m + (n + d + 8)) = Z at ln o_h1 nz
   have k1 := k.fr F_h1 (by simp) (by simp)
   have l0 : hload1 h1 b 0 = some v := k1.ob.ld1 0
   have l1 : hload1 h1 b 1 = some (.int .i64 (a : Int)) := k1.ob.ld1 1
   have l2 : hload1 h1 b 2 = some (.int .i64 (g : Int)) := k1.ob.ld1 2
   have tz : TbC 4 h1 (.slice h.next 0 (a + m + (n + d + 8)) (a + m + (n + d + 8))) h.next Z (a + m + (n + d + 8)) := ⟨ln, .inr ⟨rfl, o_h1⟩⟩
   have nB : v = .nils ∨ B ≠ h.next := by
    obtain ⟨_, ⟨q, _⟩ | ⟨_, q⟩⟩ := k.tb
    · exact .inl q
    · right; have := q.lt w; omega
   obtain ⟨u2, e2, s2⟩ := k1.tb.upto (by omega) .i64 (a : Int) a rfl (by omega)
   rw [List.append_assoc, ← k.l1, List.take_left] at s2
   have d1 : Dst 4 h1 h.next Z (.slice h.next 0 (a + m + (n + d + 8)) (a + m + (n + d + 8))) 0 (a + m + (n + d + 8)) := ⟨by omega, .inr ⟨_, rfl, o_h1⟩⟩
   simp only [evs, ↓reduceIte, Nat.reduceEqDiff, eff, l0, l1, e2]
   refine copy_ok (by omega) F_h1.wf d1 s2 k.o1 (by omega) tz ?_
   rintro h2 t2 F2 n2
   have ob2 := F2.own b _ (by simp; omega) k1.ob
   have tb2 : TbC 4 h2 v B (c1 ++ G ++ c2) (a + g + m) := k1.tb.fr' F2 (nB.imp id (by simp))
   obtain ⟨u3, e3, s3, _⟩ := tb2.from (by omega) .i64 ((a : Int) + g) (a + g) (by omega) (by omega)
   obtain ⟨u4, e4, _, d4⟩ := t2.from (by omega) .i64 ((a : Int) + (n + d + 8)) (a + (n + d + 8)) (by omega) (by omega)
   have s3' : Sl h2 4 u3 m c2 := by
    rw [show a + g + m - (a + g) = m by omega, show (a + g) * 4 = (c1 ++ G).length by simp [k.l1, k.lg]; omega, List.drop_left] at s3
    rwa [List.take_of_length_le (by rw [k.l2]; omega)] at s3
   have l0' : hload1 h2 b 0 = some v := ob2.ld1 0
   have l1' : hload1 h2 b 1 = some (.int .i64 (a : Int)) := ob2.ld1 1
   have l2' : hload1 h2 b 2 = some (.int .i64 (g : Int)) := ob2.ld1 2
   simp (disch := omega) only [evs, ↓reduceIte, Nat.reduceEqDiff, Nat.reduceAdd, DF, eff, Nat.reduceSub, fwrap_i64, l0, l1, l0', l1', l2', e3, e4]
   refine copy_ok (by omega) F2.wf d4 s3' k.o2 (by omega) t2 ?_
   rintro h3 t3 F3 n3
   rw [widenL k.l1 k.l2 (by rw [ln])] at t3
   have ob3 := F3.own b _ (by simp; omega) ob2
   have l0'' : hload1 h3 b 0 = some v := ob3.ld1 0
   simp only [evs, ↓reduceIte, Nat.reduceEqDiff, Nat.reduceAdd, DF, Nat.reduceSub, l0', l1', l2']
   refine store_step (c' := [.slice h.next 0 (a + m + (n + d + 8)) (a + m + (n + d + 8)), .int .i64 (a : Int), .int .i64 (g : Int)]) F3.wf ob3 rfl rfl rfl ?_
   rintro h4 ob4 F4 n4
   simp only [evs, ↓reduceIte, Nat.reduceEqDiff]
   refine store_step (c' := [.slice h.next 0 (a + m + (n + d + 8)) (a + m + (n + d + 8)), .int .i64 (a : Int), .int .i64 ((n + d + 8 : Nat) : Int)]) F4.wf ob4 rfl rfl rfl ?_
   rintro h5 ob5 F5 n5
   simp only [evs]
   refine ⟨h.next, .slice h.next 0 (a + m + (n + d + 8)) (a + m + (n + d + 8)), (Z.drop (a * 4)).take ((n + d + 8) * 4), n + d + 8, .inr (Nat.le_refl _), ⟨ob5, ?_, k.l1, ?_, k.l2, k.o1, k.o2, by omega, by omega, by omega, ((k.n6.sub fun x m => by simp [m]).app (nz.sub fun x m => List.mem_of_mem_drop (List.mem_of_mem_take m))).app (k.n6.sub fun x m => by simp [m])⟩, by omega, ?_⟩
   · have t5 := (t3.fr F4 (by simp; omega)).fr F5 (by simp; omega)
     rw [show a + m + (n + d + 8) = a + (n + d + 8) + m by omega] at t5 ⊢
     exact t5
   · simp [ln]; omega
   · have f1 : Fr [h.next] h h2 := Fr.trans F_h1 F2 w (by simp) (by simp)
     have f2 : Fr [h.next] h h3 := Fr.trans f1 F3 w (by simp) (by simp)
     have f3 : Fr [b] h h3 := ⟨f2.next, f2.wf, fun x c hx o => f2.own x c (by have := o.lt w; simp; omega) o, fun x c hx o => f2.pl x c (by have := o.own.lt w; simp; omega) o, f2.lp, f2.ro⟩
     exact Fr.trans (Fr.trans f3 F4 w (fun x hx => .inl hx) (fun x hx => .inl hx)) F5 w (fun x hx => .inl hx) (fun x hx => .inl hx)
variable {h : Heap} {b B : Nat}
theorem gchk_at {n p : Nat} (h : p ≤ n) : gchk n p 0 = 0 := by unfold gchk; rw [if_neg]; omega
theorem insL {α : Type} {c1 G c2 xs : List α} {p q : Nat} (l1 : c1.length = p * 4) (lx : xs.length = q * 4) (lg : q * 4 ≤ G.length) :
 (c1 ++ G ++ c2).take (p * 4) ++ xs ++ (c1 ++ G ++ c2).drop (p * 4 + q * 4) = (c1 ++ xs) ++ G.drop (q * 4) ++ c2 := by
 rw [← l1, List.append_assoc c1 G c2, List.take_left, List.drop_length_add_append, List.drop_append_of_le_length lg]
 simp
theorem gInsert_ok {n q p : Nat} {l xs : List V} {u : V} (w : WF h) (k : Gp h b B n l) (s : ∀ h', Fr [b, B] h h' → Sl h' 4 u q xs) (ox : onesB xs = true) (nx : NoI xs) (hp : p ≤ n) (hq : n + q ≤ 4096) :
 Does go 91 [.ptr b 0, .int .i64 (p : Int), u] h fun z h' => z = .int .i64 0 ∧ ∃ B', (B' = B ∨ h.next ≤ B') ∧ Gp h' b B' (n + q) (l.take (p * 4) ++ xs ++ l.drop (p * 4)) ∧ Fr [b, B] h h' := by
 obtain ⟨v, c1, G, c2, a, g, m, k, rfl, rfl⟩ := k
 have s0 := s h (Fr.refl w)
 have lx := s0.1
 have am := k.am
 by_cases c0 : q = 0
 · subst c0
   refine does_fn g91 rfl ?_
   simp only [fn91, evs, ↓reduceIte, Nat.reduceEqDiff, Nat.reduceAdd]
   refine OQ_does (gcheck_ok k (p : Int) 0) ?_
   rintro _ _ ⟨rfl, rfl⟩
   simp only [evs, ↓reduceIte, Nat.reduceEqDiff, gchk_at hp, s0.len]
   refine OQ_does (gLen_ok k) ?_
   rintro _ _ ⟨rfl, rfl⟩
   simp (disch := omega) only [evs, ↓reduceIte, Nat.reduceEqDiff, fwrap_i64, show ¬ (4096 - ((a + m : Nat) : Int) < ((0 : Nat) : Int)) by omega, s0.len, show (((0 : Nat) : Int) = 0) = True by simp]
   have hx : xs = [] := List.length_eq_zero_iff.1 (by omega)
   subst hx
   refine ⟨B, .inl rfl, ⟨v, c1, G, c2, a, g, m, k, by simp, by omega⟩, Fr.refl w⟩
 · have nh : 4096 - ((a + m : Nat) : Int) < (q : Int) ↔ False := by simp; omega
   have nz : (q : Int) = 0 ↔ False := by simp; omega
   have sl := s0.len
   refine does_fn g91 rfl ?_
   simp only [fn91, evs, ↓reduceIte, Nat.reduceEqDiff, Nat.reduceAdd]
   refine OQ_does (gcheck_ok k (p : Int) 0) ?_
   rintro _ _ ⟨rfl, rfl⟩
   simp only [evs, ↓reduceIte, Nat.reduceEqDiff, gchk_at hp, sl]
   refine OQ_does (gLen_ok k) ?_
   rintro _ _ ⟨rfl, rfl⟩
   simp (disch := omega) only [evs, ↓reduceIte, Nat.reduceEqDiff, fwrap_i64, nh, sl, nz]
   refine OQ_does (bring_ok w k hp) ?_
   rintro _ h1 ⟨rfl, k1, F1⟩
   simp only [evs, ↓reduceIte, Nat.reduceEqDiff, sl]
   refine OQ_does (widenG_ok F1.wf k1 (n := q) (by omega)) ?_
   rintro _ h2 ⟨rfl, B', v', G', g', hB, k2, hg, F2⟩
   have F02 : Fr [b, B] h h2 := Fr.trans F1 F2 w (fun x hx => .inl hx) (fun x hx => .inl (by simp at hx; simp [hx]))
   have s2 := s h2 F02
   have l0 : hload1 h2 b 0 = some v' := k2.ob.ld1 0
   have l1 : hload1 h2 b 1 = some (.int .i64 (p : Int)) := k2.ob.ld1 1
   have nb2 := k2.nb
   obtain ⟨u1, e1, _, d1⟩ := k2.tb.from (by omega) .i64 (p : Int) p rfl (by omega)
   simp only [evs, ↓reduceIte, Nat.reduceEqDiff, eff, l0, l1, e1]
   refine copy_ok (by omega) F2.wf d1 s2 ox (by omega) k2.tb ?_
   rintro h3 t3 F3 n3
   rw [insL k2.l1 lx (by rw [k2.lg]; omega)] at t3
   have ob3 := F3.own b _ (by simpa using k2.ne.symm) k2.ob
   have l1' : hload1 h3 b 1 = some (.int .i64 (p : Int)) := ob3.ld1 1
   simp (disch := omega) only [evs, eff, fwrap_i64]
   refine store_step (c' := [v', .int .i64 ((p + q : Nat) : Int), .int .i64 (g' : Int)]) F3.wf ob3 rfl rfl rfl ?_
   rintro h4 ob4 F4 n4
   have l2 : hload1 h4 b 2 = some (.int .i64 (g' : Int)) := ob4.ld1 2
   simp (disch := omega) only [evs, ↓reduceIte, Nat.reduceEqDiff, Nat.reduceAdd, DF, Nat.reduceSub, fwrap_i64, l0, l1, l1', l2, sl]
   refine store_step (c' := [v', .int .i64 ((p + q : Nat) : Int), .int .i64 ((g' - q : Nat) : Int)]) F4.wf ob4 rfl rfl (by rw [show ((g' - q : Nat) : Int) = (g' : Int) - q by omega]; rfl) ?_
   rintro h5 ob5 F5 n5
   simp only [evs, ↓reduceIte]
   have ne := k2.ne
   have tl := k2.l1; have tg := k2.lg; have t2 := k2.l2
   refine ⟨B', hB.imp id (fun q => Nat.le_trans F1.next q), ⟨v', (c1 ++ c2).take (p * 4) ++ xs, G'.drop (q * 4), (c1 ++ c2).drop (p * 4), p + q, g' - q, a + m - p, ⟨ob5, ?_, ?_, ?_, t2, ?_, k2.o2, ne, by omega, by omega, ((NoI.app (k2.n6.sub fun x m => by simp [m]) nx).app (k2.n6.sub fun x m => by simp [List.mem_of_mem_drop m])).app (k2.n6.sub fun x m => by simp [m])⟩, by simp, by omega⟩, ?_⟩
   · exact (show p + g' + (a + m - p) = p + q + (g' - q) + (a + m - p) by omega) ▸ (t3.fr F4 (by simpa using ne)).fr F5 (by simpa using ne)
   · rw [List.length_append]; omega
   · rw [List.length_drop]; omega
   · rw [onesB_append, k2.o1, ox]; rfl
   · have f3 : Fr [b, B] h h3 := Fr.trans F02 F3 w (fun x hx => .inl hx) (fun x hx => by
      simp at hx; subst hx
      rcases hB with rfl | hB
      · exact .inl (by simp)
      · exact .inr (Nat.le_trans F1.next hB))
     exact Fr.trans (Fr.trans f3 F4 w (fun x hx => .inl hx) (fun x hx => .inl (by simp at hx; simp [hx]))) F5 w (fun x hx => .inl hx) (fun x hx => .inl (by simp at hx; simp [hx]))
theorem Fr.new {h h1 h2 : Heap} {S : List Nat} (w : WF h) (f1 : Fr [] h h1) (f2 : Fr S h1 h2) (hs : ∀ x ∈ S, h.next ≤ x) : Fr [] h h2 :=
 Fr.trans f1 f2 w (fun x hx => .inl hx) (fun x hx => .inr (hs x hx))
variable {h : Heap} {b B : Nat}
theorem gLenn_ok {n : Nat} {l : List V} (k : Gp h b B n l) : Does go 52 [.ptr b 0] h fun u h' => u = .int .i64 (n : Int) ∧ h = h' := by
 obtain ⟨v, c1, G, c2, a, g, m, k, rfl, rfl⟩ := k
 exact gLen_ok k
end Go.Ev.Lay
namespace Go.Ev
variable {call : CallF}
theorem WF.hnew {h : Heap} (w : WF h) (k : Blk) : WF (hnew h k) := by
 intro p hp
 have hp' : h.next + 1 ≤ p := hp
 have := w p (by omega)
 exact ⟨by show (h.bl.set _ _).get p = none; rw [T.get_set_ne _ _ (by omega)]; exact this.1, this.2⟩
theorem Fr.hnew {h : Heap} (w : WF h) (k : Blk) : Fr [] h (hnew h k) where
 next := Nat.le_succ _
 wf := w.hnew k
 own := fun b c _ o => by
  have := o.lt w
  obtain ⟨f, k', e, x⟩ := o
  exact ⟨f, k', by show (h.bl.set _ _).get b = _; rw [T.get_set_ne _ _ (by omega)]; exact e, x⟩
 pl := fun b c _ o => by
  have := o.own.lt w
  obtain ⟨⟨k', e⟩, f⟩ := o
  exact ⟨⟨k', by show (h.bl.set _ _).get b = _; rw [T.get_set_ne _ _ (by omega)]; exact e⟩, f⟩
 lp := fun b x _ e => by
  have : b ≠ h.next := by rintro rfl; rw [(w _ (Nat.le_refl _)).1] at e; cases e
  show (h.bl.set _ _).get b = _; rw [T.get_set_ne _ _ this]; exact e
 ro := fun b c r => r.new w _
structure FrB (S : List Nat) (B : Nat) (h h' : Heap) : Prop where
 next : h.next ≤ h'.next
 wf : WF h'
 own : ∀ b c, b ∉ S → Own h b c → Own h' b c
 pl : ∀ b c, b ∉ S → Pl h b c → Pl h' b c
 lp : ∀ b x, b ≠ B → isLp x = true → h.bl.get b = some x → h'.bl.get b = some x
 ro : ∀ b c, Rs h b c → Rs h' b c
theorem Fr.b {S S' : List Nat} {h h' : Heap} {B : Nat} (f : Fr S' h h') (hs : ∀ x ∈ S', x ∈ S) : FrB S B h h' := ⟨f.next, f.wf, fun b c hb o => f.own b c (fun q => hb (hs b q)) o, fun b c hb o => f.pl b c (fun q => hb (hs b q)) o, fun b x _ hx e => f.lp b x hx e, f.ro⟩
theorem FrB.trans {S : List Nat} {h h1 h2 : Heap} {B : Nat} (a : FrB S B h h1) (b : FrB S B h1 h2) : FrB S B h h2 :=
 ⟨Nat.le_trans a.next b.next, b.wf, fun x c hx o => b.own x c hx (a.own x c hx o), fun x c hx o => b.pl x c hx (a.pl x c hx o), fun x k hx hk o => b.lp x k hx hk (a.lp x k hx hk o), fun x c r => b.ro x c (a.ro x c r)⟩
theorem FrB.hset {S : List Nat} {h : Heap} (w : WF h) {B : Nat} {x : Blk} (e : h.bl.get B = some x) (hx : isLp x = true) (k : Blk) : FrB S B h (hset h B k) := by
 have hB : B < h.next := by
  rcases Nat.lt_or_ge B h.next with q | q
  · exact q
  · rw [(w B q).1] at e; cases e
 refine ⟨Nat.le_refl _, ?_, ?_, ?_, ?_, ?_⟩
 · intro p hp
   have hp' : h.next ≤ p := hp
   have := w p hp'
   exact ⟨by show (h.bl.set _ _).get p = none; rw [T.get_set_ne _ _ (by omega)]; exact this.1, this.2⟩
 · rintro b c _ ⟨f, k', e', y⟩
   have : b ≠ B := by rintro rfl; rw [e] at e'; cases e'; cases hx
   exact ⟨f, k', by show (h.bl.set _ _).get b = _; rw [T.get_set_ne _ _ this]; exact e', y⟩
 · rintro b c _ ⟨⟨k', e'⟩, y⟩
   have : b ≠ B := by rintro rfl; rw [e] at e'; cases e'; cases hx
   exact ⟨⟨k', by show (h.bl.set _ _).get b = _; rw [T.get_set_ne _ _ this]; exact e'⟩, y⟩
 · intro b y hb hy e'
   show (h.bl.set _ _).get b = _; rw [T.get_set_ne _ _ hb]; exact e'
 · rintro b c ⟨f, k', ow, e1, e2, e3, e4⟩
   have h1 : b ≠ B := by rintro rfl; rw [e] at e1; cases e1; cases hx
   have h2 : ow ≠ B := by rintro rfl; rw [e] at e3; cases e3
   exact ⟨f, k', ow, by show (h.bl.set _ _).get b = _; rw [T.get_set_ne _ _ h1]; exact e1, e2, by show (h.bl.set _ _).get ow = _; rw [T.get_set_ne _ _ h2]; exact e3, e4⟩
theorem FrB.fr {S : List Nat} {B : Nat} {h h1 h2 : Heap} (w : WF h) (f : Fr [] h h1) (a : FrB S B h1 h2) (hs : ∀ x ∈ S, h.next ≤ x) (hB : h.next ≤ B) : Fr [] h h2 :=
 ⟨Nat.le_trans f.next a.next, a.wf, fun b c _ o => a.own b c (fun q => by have := hs b q; have := o.lt w; omega) (f.get o), fun b c _ o => a.pl b c (fun q => by have := hs b q; have := o.own.lt w; omega) (f.pl b c (by simp) o),
  fun b x hx e => a.lp b x (by rintro rfl; rw [(w _ hB).1] at e; cases e) hx (f.lp b x hx e), fun b c r => a.ro b c (f.ro b c r)⟩
theorem hset_get (h : Heap) (B : Nat) (k : Blk) : (hset h B k).bl.get B = some k := T.get_set_self _ _ _
theorem hnew_get (h : Heap) (k : Blk) : (hnew h k).bl.get h.next = some k := T.get_set_self _ _ _
def Rdb (h : Heap) (b : Nat) (c : List V) : Prop := Own h b c ∨ Rs h b c
theorem Rdb.cells {h : Heap} {b : Nat} {c : List V} (a : Rdb h b c) : cellsAt h b = some c := by
 rcases a with o | ⟨f, k, ow, e1, e2, _⟩
 · exact o.cells
 · simp only [cellsAt, e1, rd, e2, Nat.beq_refl, Bool.or_true, if_true]
   rfl
theorem Rdb.ld1 {h : Heap} {b : Nat} {c : List V} (a : Rdb h b c) (o : Nat) : hload1 h b o = nth c o := by simp only [hload1, a.cells]
theorem Rdb.ld {h : Heap} {b : Nat} {c : List V} (a : Rdb h b c) (o n : Nat) : hload h b o n = takeL n (dropL c o) := by simp only [hload, a.cells]
def ASl (h : Heap) (esz : Nat) (v : V) (n : Nat) (cs : List V) : Prop :=
 cs.length = n * esz ∧ match v with
 | .nils => n = 0
 | .sliceE => n = 0
 | .sliceZ _ _ => n = 0
 | .slice b o len cap => len = n ∧ n ≤ cap ∧ ∃ c, Rdb h b c ∧ o + n * esz ≤ c.length ∧ cs = (c.drop o).take (n * esz)
 | .sliceU b o len e => len = n ∧ e = esz ∧ ∃ c, Rdb h b c ∧ o + n * esz ≤ c.length ∧ cs = (c.drop o).take (n * esz)
 | _ => False
theorem Sl.a {h : Heap} {esz : Nat} {v : V} {n : Nat} {cs : List V} (a : Sl h esz v n cs) : ASl h esz v n cs := by
 obtain ⟨hl, a⟩ := a
 refine ⟨hl, ?_⟩
 cases v with
 | slice b o l k => obtain ⟨h1, h2, c, o, x⟩ := a; exact ⟨h1, h2, c, .inl o, x⟩
 | sliceU b o l k => obtain ⟨h1, h2, c, o, x⟩ := a; exact ⟨h1, h2, c, .inl o, x⟩
 | sliceZ _ _ => exact a.elim
 | _ => exact a
theorem ASl.map {h h' : Heap} {esz : Nat} {v : V} {n : Nat} {cs : List V} (a : ASl h esz v n cs) (f : ∀ b c, Rdb h b c → (cs ≠ [] → ∃ x ∈ cs, x ∈ c) → Rdb h' b c) : ASl h' esz v n cs := by
 obtain ⟨hl, a⟩ := a
 refine ⟨hl, ?_⟩
 have key : ∀ (o : Nat) (c : List V), cs = (c.drop o).take (n * esz) → cs ≠ [] → ∃ x ∈ cs, x ∈ c := by
  intro o c e hne
  obtain ⟨x, hx⟩ := List.exists_mem_of_ne_nil cs hne
  exact ⟨x, hx, List.mem_of_mem_drop (List.mem_of_mem_take (e ▸ hx))⟩
 cases v with
 | slice b o l k => obtain ⟨h1, h2, c, oc, x1, x2⟩ := a; exact ⟨h1, h2, c, f b c oc (key o c x2), x1, x2⟩
 | sliceU b o l k => obtain ⟨h1, h2, c, oc, x1, x2⟩ := a; exact ⟨h1, h2, c, f b c oc (key o c x2), x1, x2⟩
 | _ => exact a
theorem ASl.fr {h h' : Heap} {esz : Nat} {v : V} {n : Nat} {cs : List V} (a : ASl h esz v n cs) (f : Fr [] h h') : ASl h' esz v n cs := a.map fun b c r _ => r.imp (fun o => f.get o) (f.ro b c)
theorem ASl.len {h : Heap} {esz : Nat} {v : V} {n : Nat} {cs : List V} (a : ASl h esz v n cs) : aP .lenS [v] = some (.int .i64 n) := by
 obtain ⟨hl, a⟩ := a
 cases v with
 | slice b o l k => obtain ⟨rfl, _⟩ := a; rfl
 | sliceU b o l k => obtain ⟨rfl, _⟩ := a; rfl
 | nils => have a : n = 0 := a; subst a; rfl
 | sliceE => have a : n = 0 := a; subst a; rfl
 | sliceZ _ _ => have a : n = 0 := a; subst a; rfl
 | _ => exact a.elim
theorem ASl.one {h : Heap} {esz : Nat} {v : V} {n : Nat} {cs : List V} (a : ASl h esz v n cs) : v.one = true := by
 obtain ⟨hl, a⟩ := a
 cases v with
 | slice b o l k => rfl
 | sliceU b o l k => rfl
 | nils => rfl
 | sliceE => rfl
 | sliceZ _ _ => rfl
 | _ => exact a.elim
theorem ASl.ix {h : Heap} {esz : Nat} {v : V} {n : Nat} {cs : List V} (a : ASl h esz v n cs) (k : IntKind) (i : Int) (h0 : 0 ≤ i) (h1 : i < n) :
 ∃ b o, aP (.ixs esz) [v, .int k i] = some (.ptr b o) ∧ (∀ j, j < esz → hload1 h b (o + j) = cs[i.toNat * esz + j]?) ∧ hload h b o esz = some ((cs.drop (i.toNat * esz)).take esz) := by
 obtain ⟨hl, a⟩ := a
 obtain ⟨m, rfl⟩ : ∃ m : Nat, i = m := ⟨i.toNat, by omega⟩
 have hm : m < n := by omega
 have hmul : m * esz + esz ≤ n * esz := by rw [← Nat.succ_mul]; exact Nat.mul_le_mul_right _ hm
 have main : ∀ (b o : Nat) (c : List V), Rdb h b c → o + n * esz ≤ c.length → cs = (c.drop o).take (n * esz) →
  (∀ j, j < esz → hload1 h b (o + m * esz + j) = cs[m * esz + j]?) ∧ hload h b (o + m * esz) esz = some ((cs.drop (m * esz)).take esz) := by
  intro b o c hc hlen e
  subst e
  constructor
  · intro j hj
    rw [hc.ld1, nth_eq, List.getElem?_take, if_pos (by omega), List.getElem?_drop]
    congr 1; omega
  · rw [hc.ld, dropL_eq, takeL_at _ _ (by simp; omega), List.drop_take, List.drop_drop, List.take_take]
    congr 2
    omega
 cases v with
 | slice b o l q =>
  obtain ⟨rfl, _, c, hc, hlen, e⟩ := a
  exact ⟨b, o + m * esz, aP_ixS _ _ _ _ _ _ _ h0 h1, main b o c hc hlen e⟩
 | sliceU b o l q =>
  obtain ⟨rfl, rfl, c, hc, hlen, e⟩ := a
  exact ⟨b, o + m * q, aP_ixU _ _ _ _ _ _ _ h0 h1, main b o c hc hlen e⟩
 | nils => have a : n = 0 := a; omega
 | sliceE => have a : n = 0 := a; omega
 | sliceZ _ _ => have a : n = 0 := a; omega
 | _ => exact a.elim
section
variable {α : Type} {f : α → List V} {k : Nat}
def ARecs (f : α → List V) (k : Nat) (h : Heap) (v : V) (L : List α) : Prop := ASl h k v L.length (L.flatMap f)
theorem Recs.a {h : Heap} {v : V} {L : List α} (a : Recs f k h v L) : ARecs f k h v L := Sl.a a
theorem ARecs.fr {h h' : Heap} {v : V} {L : List α} (a : ARecs f k h v L) (r : Fr [] h h') : ARecs f k h' v L := ASl.fr a r
theorem ARecs.len {h : Heap} {v : V} {L : List α} (a : ARecs f k h v L) : aP .lenS [v] = some (.int .i64 L.length) := ASl.len a
theorem ARecs.one {h : Heap} {v : V} {L : List α} (a : ARecs f k h v L) : v.one = true := ASl.one a
theorem ARecs.ix {h : Heap} {v : V} {L : List α} (hf : ∀ x, (f x).length = k) (a : ARecs f k h v L) (kd : IntKind) (i : Int) (h0 : 0 ≤ i) (h1 : i < L.length) :
 ∃ b o x, aP (.ixs k) [v, .int kd i] = some (.ptr b o) ∧ (∀ j, j < k → hload1 h b (o + j) = (f x)[j]?) ∧ hload h b o k = some (f x) ∧ L[i.toNat]? = some x := by
 obtain ⟨b, o, e, g, g2⟩ := ASl.ix a kd i h0 h1
 have hi : i.toNat < L.length := by omega
 have e3 : L[i.toNat]? = some L[i.toNat] := by simp [hi]
 have ed : L.drop i.toNat = L[i.toNat] :: L.drop (i.toNat + 1) := List.drop_eq_getElem_cons hi
 refine ⟨b, o, L[i.toNat], e, fun j hj => ?_, ?_, e3⟩
 · rw [g j hj, ← List.getElem?_drop, flat_drop hf, ed, List.flatMap_cons, List.getElem?_append_left (by rw [hf]; exact hj)]
 · rw [g2, flat_drop hf, ed, List.flatMap_cons]
   have := hf L[i.toNat]
   rw [List.take_append, List.take_of_length_le (by omega), this]; simp
end
end Go.Ev
namespace Go.Ev.Lay
set_option maxRecDepth 4000
def ItQ (h : Heap) (nx : Bool) (o : Option V) (K : V → Heap → Prop) : Prop := ∃ d, o = some d ∧ OQ (ait h nx d) K
theorem ItQ_some {h : Heap} (nx : Bool) (d : V) (K : V → Heap → Prop) : ItQ h nx (some d) K ↔ OQ (ait h nx d) K :=
 ⟨fun ⟨_, e, k⟩ => by cases e; exact k, fun k => ⟨d, rfl, k⟩⟩
theorem op_it {call : CallF} {loc : List V} {env : T V} {h : Heap} (nx : Bool) (x : Opd) (K : V → Heap → Prop) : OQ (evOp call loc env h (.it nx x)) K ↔ ItQ h nx (evO loc env x) K := by
 simp only [evOp, OQ, ItQ]
 cases evO loc env x with
 | none => simp
 | some d => simp
theorem it_new {h : Heap} (z : List UInt8) (K : V → Heap → Prop) : OQ (ait h false (.str z)) K ↔ K (.ptr h.next 0) (hnew h (.si z 0)) := OQ_some _ _ _
theorem it_end {h : Heap} {b pos : Nat} {z : List UInt8} (hb : h.bl.get b = some (.si z pos)) (hp : ¬ pos < z.length) (K : V → Heap → Prop) : OQ (ait h true (.ptr b 0)) K ↔ K (.tup [.bool false]) h := by
 show OQ (match h.bl.get b with | some (.si z pos) => _ | _ => _) K ↔ _
 rw [hb]; simp only [if_neg hp]; exact OQ_some _ _ _
theorem it_next {h : Heap} {b pos : Nat} {z : List UInt8} (hb : h.bl.get b = some (.si z pos)) (hp : pos < z.length) (K : V → Heap → Prop) : OQ (ait h true (.ptr b 0)) K ↔
 K (.tup [.bool true, .int .i64 (pos : Int), .int .i32 ((Utf8.decode ⟨z.toArray⟩ pos).1 : Int)]) (hset h b (.si z (pos + (Utf8.decode ⟨z.toArray⟩ pos).2))) := by
 show OQ (match h.bl.get b with | some (.si z pos) => _ | _ => _) K ↔ _
 rw [hb]; simp only [if_pos hp]; exact OQ_some _ _ _
theorem _root_.Go.Ev.WF.hset {h : Heap} (w : WF h) {b : Nat} {x : Blk} (hb : h.bl.get b = some x) (y : Blk) : WF (hset h b y) := by
 intro p hp
 obtain ⟨q1, q2⟩ := w p hp
 refine ⟨?_, q2⟩
 show (h.bl.set b y).get p = none
 rw [T.gs, if_neg (by rintro rfl; rw [hb] at q1; cases q1)]
 exact q1
theorem Fr.si {h : Heap} (w : WF h) {b pos pos' : Nat} {z : List UInt8} (hb : h.bl.get b = some (.si z pos)) : Fr [] h (hset h b (.si z pos')) where
 next := Nat.le_refl _
 wf := WF.hset w hb _
 own := fun x c _ ⟨f, k, e, q⟩ => ⟨f, k, by
  show (h.bl.set b _).get x = _
  rw [T.gs, if_neg (by rintro rfl; rw [hb] at e; cases e)]; exact e, q⟩
 pl := fun x c _ ⟨⟨k, e⟩, q⟩ => ⟨⟨k, by
  show (h.bl.set b _).get x = _
  rw [T.gs, if_neg (by rintro rfl; rw [hb] at e; cases e)]; exact e⟩, q⟩
 lp := fun x k hk e => by
  show (h.bl.set b _).get x = _
  rw [T.gs, if_neg (by rintro rfl; rw [hb] at e; cases e; cases hk)]; exact e
 ro := fun x c ⟨f, k, ow, e, q1, q2, q3⟩ => ⟨f, k, ow, by
  show (h.bl.set b _).get x = _
  rw [T.gs, if_neg (by rintro rfl; rw [hb] at e; cases e)]; exact e, q1, by
  show (h.bl.set b _).get ow = _
  rw [T.gs, if_neg (by rintro rfl; rw [hb] at q2; cases q2)]; exact q2, q3⟩
def Pred (g : Nat) (p : Int → Bool) : Prop := g < 1099511627776 ∧ (∀ (r : Int) (h : Heap), Does go g [.int .i32 r] h fun u h' => u = .bool (p r) ∧ h = h') ∧ ∀ r : Int, 128 ≤ r → p r = true
def anyB (p : Int → Bool) (z : List UInt8) : Bool := z.any fun b => p (b.toNat : Int)
theorem dec_at (z : List UInt8) (pos : Nat) (hp : pos < z.length) (p : Int → Bool) (h128 : ∀ r : Int, 128 ≤ r → p r = true) :
 (p ((Utf8.decode ⟨z.toArray⟩ pos).1 : Int) = p ((z[pos]).toNat : Int)) ∧ (p ((z[pos]).toNat : Int) = false → (Utf8.decode ⟨z.toArray⟩ pos).2 = 1) := by
 have hs : pos < (ByteArray.mk z.toArray).size := hp
 have he : (ByteArray.mk z.toArray)[pos]'hs = z[pos] := rfl
 by_cases c : (z[pos]).toNat < 128
 · have := Go.decode_ascii ⟨z.toArray⟩ pos hs (by rw [he]; exact c)
   rw [this, he]
   exact ⟨rfl, fun _ => rfl⟩
 · have := Go.decode_high ⟨z.toArray⟩ pos hs (by rw [he]; omega)
   rw [h128 _ (by omega), h128 _ (by omega)]
   exact ⟨rfl, fun e => by cases e⟩
theorem indexF_ok {h : Heap} {z : List UInt8} {g : Nat} {p : Int → Bool} (w : WF h) (P : Pred g p) (hz : z.length < 16777216) :
 Does go 265 [.str z, .func (.func g) [] [], .bool true] h fun u h' => ∃ r : Int, u = .int .i64 r ∧ (decide (0 ≤ r) = anyB p z) ∧ Fr [] h h' := by
 obtain ⟨hg, hp, h128⟩ := P
 obtain ⟨h1, e_h1⟩ : ∃ h1, h1 = hnew h (.si z 0) := ⟨_, rfl⟩
 have F_h1 : Fr [] h h1 := e_h1 ▸ Fr.hnew w _
 have b1 : h1.bl.get h.next = some (.si z 0) := by rw [e_h1]; exact hnew_get _ _
 refine does_fn g265 rfl ?_
 simp only [fn265, evs, ↓reduceIte, Nat.reduceEqDiff, Nat.reduceAdd, Int.reduceNeg, op_it, ItQ_some, it_new, ← e_h1]
 refine W_loop (fun k env hh => Fr [] h hh ∧ ∃ (i : Nat), env.get 10 = some (.ptr h.next 0) ∧ env.get 1 = some (.func (.func g) [] []) ∧ env.get 2 = some (.bool true) ∧ hh.bl.get h.next = some (.si z i) ∧
  i ≤ z.length ∧ anyB p (z.drop i) = anyB p z ∧ k = z.length - i) z.length (by omega) ?_ ?_
 · exact ⟨F_h1, 0, (by simp [T.gs]), (by simp [T.gs]), (by simp [T.gs]), b1, by omega, rfl, rfl⟩
 · rintro k env hh ⟨F, i, g10, g1, g2, bb, hi, e, rfl⟩
   by_cases hlt : i < z.length
   · have ⟨d1, d2⟩ := dec_at z i hlt p h128
     have F1 : Fr [] hh (hset hh h.next (.si z (i + (Utf8.decode ⟨z.toArray⟩ i).2))) := Fr.si F.wf bb
     have b2 := hset_get hh h.next (.si z (i + (Utf8.decode ⟨z.toArray⟩ i).2))
     rw [List.drop_eq_getElem_cons hlt] at e
     simp only [evs, ↓reduceIte, Nat.reduceEqDiff, Int.reduceNeg, g10, g1, op_it, ItQ_some, it_next bb hlt, hg]
     refine OQ_does (hp _ _) ?_
     rintro _ h2 ⟨rfl, rfl⟩
     cases c : p ((z[i]).toNat : Int)
     · have w1 := d2 c
       rw [c] at d1
       rw [w1] at F1 b2 ⊢
       simp only [evs, ↓reduceIte, Nat.reduceEqDiff, Int.reduceNeg, d1, g2]
       unfold anyB at e
       rw [List.any_cons, c, Bool.false_or] at e
       refine (roundQ_norm _ _ _).2 ⟨z.length - (i + 1), by omega, F.then F1, i + 1, (by simp [T.gs, g10]), (by simp [T.gs, g1]), (by simp [T.gs, g2]), b2, by omega, e, rfl⟩
       done
     · rw [c] at d1
       simp only [evs, ↓reduceIte, Nat.reduceEqDiff, Int.reduceNeg, d1, g2]
       unfold anyB at e ⊢
       rw [List.any_cons, c, Bool.true_or] at e
       exact ⟨i, rfl, by rw [← e]; simp, F.then F1⟩
   · simp only [evs, ↓reduceIte, Int.reduceNeg, g10, op_it, ItQ_some, it_end bb hlt]
     rw [List.drop_of_length_le (by omega)] at e
     exact ⟨-1, rfl, by rw [← e]; rfl, F⟩
theorem contains_ok {h : Heap} {z : List UInt8} {g : Nat} {p : Int → Bool} (w : WF h) (P : Pred g p) (hz : z.length < 16777216) :
 Does go 172 [.str z, .func (.func g) [] []] h fun u h' => u = .bool (anyB p z) ∧ Fr [] h h' := by
 refine does_fn g172 rfl ?_
 simp only [fn172, evs, ↓reduceIte, Nat.reduceEqDiff, Nat.reduceAdd]
 refine OQ_does (?_ : Does go 230 _ _ (fun u h' => ∃ r : Int, u = .int .i64 r ∧ (decide (0 ≤ r) = anyB p z) ∧ Fr [] h h')) ?_
 · refine does_fn g230 rfl ?_
   simp only [fn230, evs, ↓reduceIte, Nat.reduceEqDiff, Nat.reduceAdd]
   refine OQ_does (indexF_ok w P hz) ?_
   rintro _ h1 ⟨r, rfl, e, F⟩
   simp only [evs, ↓reduceIte]
   exact ⟨r, rfl, e, F⟩
 · rintro _ h1 ⟨r, rfl, e, F⟩
   simp only [evs, ↓reduceIte]
   exact ⟨by rw [e], F⟩
def badT (r : Int) : Bool := decide (r < 32) || decide (126 < r)
def badN (r : Int) : Bool := (decide (r < 97) || decide (122 < r)) && (decide (r < 48) || decide (57 < r))
theorem P173 : Pred 173 badT := ⟨by decide, fun r h => by
 by_cases c : r < 32
 · refine does_fn g173 rfl ?_
   simp only [fn173, evs, ↓reduceIte, Nat.reduceEqDiff, c]
   simp [badT, c]
 · refine does_fn g173 rfl ?_
   simp only [fn173, evs, ↓reduceIte, Nat.reduceEqDiff, c]
   simp [badT, c], fun r hr => by simp [badT]; omega⟩
theorem P232 : Pred 232 badN := ⟨by decide, fun r h => by
 by_cases c : r < 97
 · by_cases d : r < 48
   · refine does_fn g232 rfl ?_
     simp only [fn232, evs, ↓reduceIte, Nat.reduceEqDiff, c, d]
     simp [badN, c, d]
   · refine does_fn g232 rfl ?_
     simp only [fn232, evs, ↓reduceIte, Nat.reduceEqDiff, c, d]
     simp [badN, c, d]
 · by_cases c' : (122 : Int) < r
   · by_cases d : r < 48
     · refine does_fn g232 rfl ?_
       simp only [fn232, evs, ↓reduceIte, Nat.reduceEqDiff, c, d, c']
       simp [badN, c, d, c']
     · refine does_fn g232 rfl ?_
       simp only [fn232, evs, ↓reduceIte, Nat.reduceEqDiff, c, d, c']
       simp [badN, c, d, c']
   · refine does_fn g232 rfl ?_
     simp only [fn232, evs, ↓reduceIte, Nat.reduceEqDiff, c, c']
     simp [badN, c, c'], fun r hr => by simp [badN]; omega⟩
def okT (z : List UInt8) : Bool := decide (z.length ≤ 64) && !anyB badT z
def okN (z : List UInt8) : Bool := decide (0 < z.length) && (decide (z.length ≤ 16) && !anyB badN z)
theorem aP_lenStr (a : List UInt8) : aP .lenStr [.str a] = some (.int .i64 (a.length : Nat)) := rfl
theorem aP_sbn (a b : List UInt8) : aP (.sb .neq) [.str a, .str b] = some (.bool (!(a == b))) := rfl
theorem aP_sbe (a b : List UInt8) : aP (.sb .eql) [.str a, .str b] = some (.bool (a == b)) := rfl
theorem beq_nil_str (z : List UInt8) : (z == []) = decide (z.length = 0) := by cases z <;> rfl
theorem name_ok {h : Heap} {z : List UInt8} (w : WF h) : Does go 177 [.str z] h fun u h' => u = .bool (okN z) ∧ Fr [] h h' := by
 by_cases c0 : z.length = 0
 · refine does_fn g177 rfl ?_
   simp only [fn177, evs, ↓reduceIte, Nat.reduceEqDiff, aP_sbn, beq_nil_str, c0]
   exact ⟨by simp [okN, c0], Fr.refl w⟩
 · by_cases c1 : z.length ≤ 16
   · refine does_fn g177 rfl ?_
     simp only [fn177, evs, ↓reduceIte, Nat.reduceEqDiff, aP_lenStr, aP_sbn, beq_nil_str, c0, show (z.length : Int) ≤ 16 by omega]
     refine OQ_does (contains_ok w P232 (by omega)) ?_
     rintro _ h1 ⟨rfl, F⟩
     simp only [evs, ↓reduceIte]
     exact ⟨by simp [okN, c1]; intro _; omega, F⟩
   · refine does_fn g177 rfl ?_
     simp only [fn177, evs, ↓reduceIte, Nat.reduceEqDiff, aP_lenStr, aP_sbn, beq_nil_str, c0, show ¬ (z.length : Int) ≤ 16 by omega]
     exact ⟨by simp [okN, c1], Fr.refl w⟩
abbrev sS (s : List UInt8) : List V := [.str s]
theorem sS_len (s : List UInt8) : (sS s).length = 1 := rfl
theorem nname_ok {h : Heap} {z : List UInt8} (w : WF h) : Does go 176 [.str z] h fun u h' => u = .bool (!okN z) ∧ Fr [] h h' := by
 refine does_fn g176 rfl ?_
 simp only [fn176, evs, ↓reduceIte, Nat.reduceEqDiff]
 refine OQ_does (name_ok w) ?_
 rintro _ h1 ⟨rfl, F⟩
 simp only [evs, ↓reduceIte]
 exact F
def NotN (g : Nat) : Prop := g < 1099511627776 ∧ ∀ (z : List UInt8) (h : Heap), WF h → Does go g [.str z] h fun u h' => u = .bool (!okN z) ∧ Fr [] h h'
theorem N176 : NotN 176 := ⟨by decide, fun _ _ w => nname_ok w⟩
theorem indexN_ok {h : Heap} {v : V} {g : Nat} {L : List (List UInt8)} (P : NotN g) (w : WF h) (a : ARecs sS 1 h v L) (hn : L.length ≤ 4096) :
 Does go 231 [v, .func (.func g) [] []] h fun u h' => ∃ r : Int, u = .int .i64 r ∧ (decide (0 ≤ r) = !L.all okN) ∧ Fr [] h h' := by
 refine does_fn g231 rfl ?_
 simp only [fn231, evs, ↓reduceIte, Nat.reduceEqDiff, Nat.reduceAdd, Int.reduceNeg, a.len]
 refine W_loop (fun k env hh => Fr [] h hh ∧ ∃ (i : Nat), env.get 8 = some (.int .i64 i) ∧ env.get 7 = some (.int .i64 L.length) ∧ env.get 0 = some v ∧ env.get 1 = some (.func (.func g) [] []) ∧
  i ≤ L.length ∧ (L.drop i).all okN = L.all okN ∧ k = L.length - i) L.length (by omega) ?_ ?_
 · exact ⟨Fr.refl w, 0, (by simp [T.gs]), (by simp [T.gs]), (by simp [T.gs]), (by simp [T.gs]), by omega, rfl, rfl⟩
 · rintro k env hh ⟨F, i, g8, g7, g0, g1, hi, e, rfl⟩
   by_cases hlt : i < L.length
   · have hlt' : (i : Int) < L.length := by omega
     obtain ⟨b, o, s, e1, e2, _, e5⟩ := (a.fr F).ix sS_len .i64 i (by omega) hlt'
     have e4 : hload1 hh b o = some (.str s) := e2 0 (by omega)
     rw [Int.toNat_natCast] at e5
     rw [drop_cons e5, List.all_cons] at e
     simp only [evs, ↓reduceIte, Nat.reduceEqDiff, Int.reduceNeg, g8, g7, g0, g1, hlt', e1, e4, P.1]
     refine OQ_does (P.2 _ _ F.wf) ?_
     rintro _ h1 ⟨rfl, F1⟩
     cases c : okN s
     · simp only [evs, ↓reduceIte, Nat.reduceEqDiff, Int.reduceNeg]
       rw [c] at e
       exact ⟨i, rfl, by rw [← e]; simp, F.then F1⟩
     · simp (disch := omega) only [evs, ↓reduceIte, Nat.reduceEqDiff, Int.reduceNeg, fwrap_i64, g8]
       rw [c] at e
       refine (roundQ_norm _ _ _).2 ⟨L.length - (i + 1), by omega, F.then F1, i + 1, (by simp [T.gs]), (by simp [T.gs, g7]), (by simp [T.gs, g0]), (by simp [T.gs, g1]), by omega, by simpa using e, rfl⟩
       done
   · simp only [evs, ↓reduceIte, Int.reduceNeg, g8, g7, show ¬ (i : Int) < L.length by omega]
     rw [List.drop_of_length_le (by omega)] at e
     exact ⟨-1, rfl, by rw [← e]; rfl, F⟩
theorem containsN_ok {h : Heap} {v : V} {g : Nat} {L : List (List UInt8)} (P : NotN g) (w : WF h) (a : ARecs sS 1 h v L) (hn : L.length ≤ 4096) :
 Does go 175 [v, .func (.func g) [] []] h fun u h' => u = .bool (!L.all okN) ∧ Fr [] h h' := by
 refine does_fn g175 rfl ?_
 simp only [fn175, evs, ↓reduceIte, Nat.reduceEqDiff, Nat.reduceAdd]
 refine OQ_does (indexN_ok P w a hn) ?_
 rintro _ h1 ⟨r, rfl, e, F⟩
 simp only [evs, ↓reduceIte]
 exact ⟨by rw [e], F⟩
structure Itm where
 key : Nat
 type : Nat
 text : List UInt8
 marks : List (List UInt8)
 vm : V
def Itm.cells (x : Itm) : List V := [.int .u64 (x.key : Int), .int .u8 (x.type : Int), .str x.text, x.vm]
structure ItmH (h : Heap) (x : Itm) : Prop where
 k : x.key < 18446744073709551616
 t : x.type < 256
 m : ARecs sS 1 h x.vm x.marks
 n : x.marks.length ≤ 4096
 l : x.text.length < 16777216
theorem ItmH.fr {h h' : Heap} {x : Itm} (a : ItmH h x) (f : Fr [] h h') : ItmH h' x := ⟨a.k, a.t, a.m.fr f, a.n, a.l⟩
theorem ItmH.one {h : Heap} {x : Itm} (a : ItmH h x) : onesB x.cells = true := by
 show onesB [.int .u64 (x.key : Int), .int .u8 (x.type : Int), .str x.text, x.vm] = true
 simp only [onesB_cons, onesB_nil, a.m.one]; rfl
def okM (ms : List (List UInt8)) : Bool := decide (ms.length ≤ 8) && ms.all okN
def okI (x : Itm) (types : Nat) : Bool := decide (x.key ≠ 0) && (decide (x.type < types) && (okT x.text && okM x.marks))
theorem text_ok {h : Heap} {x : Itm} {b : Nat} (w : WF h) (a : ItmH h x) (o : Own h b x.cells) : Does go 171 [.ptr b 0] h fun u h' => u = .bool (okT x.text) ∧ Fr [] h h' := by
 have l2 : hload1 h b 2 = some (.str x.text) := o.ld1 2
 by_cases c : x.text.length ≤ 64
 · refine does_fn g171 rfl ?_
   simp only [fn171, evs, ↓reduceIte, l2, aP_lenStr, show (x.text.length : Int) ≤ 64 by omega]
   refine OQ_does (contains_ok w P173 a.l) ?_
   rintro _ h1 ⟨rfl, F⟩
   simp only [evs, ↓reduceIte]
   exact ⟨by simp [okT, c], F⟩
 · refine does_fn g171 rfl ?_
   simp only [fn171, evs, ↓reduceIte, l2, aP_lenStr, show ¬ (x.text.length : Int) ≤ 64 by omega]
   exact ⟨by simp [okT, c], Fr.refl w⟩
theorem marks_ok {h : Heap} {x : Itm} {b : Nat} (w : WF h) (a : ItmH h x) (o : Own h b x.cells) : Does go 174 [.ptr b 0] h fun u h' => u = .bool (okM x.marks) ∧ Fr [] h h' := by
 have l2 : hload1 h b 3 = some x.vm := o.ld1 3
 by_cases c : x.marks.length ≤ 8
 · refine does_fn g174 rfl ?_
   simp only [fn174, evs, ↓reduceIte, l2, a.m.len, show (x.marks.length : Int) ≤ 8 by omega]
   refine OQ_does (containsN_ok N176 w a.m a.n) ?_
   rintro _ h1 ⟨rfl, F⟩
   simp only [evs, ↓reduceIte]
   exact ⟨by simp [okM, c], F⟩
 · refine does_fn g174 rfl ?_
   simp only [fn174, evs, ↓reduceIte, l2, a.m.len, show ¬ (x.marks.length : Int) ≤ 8 by omega]
   exact ⟨by simp [okM, c], Fr.refl w⟩
theorem check_ok {h : Heap} {x : Itm} {types : Nat} (w : WF h) (a : ItmH h x) (ht : types < 256) : Does go 102 [.agg x.cells, .int .i64 (types : Int)] h fun u h' => u = .int .i64 (if okI x types then 0 else 6) ∧ Fr [] h h' := by
 obtain ⟨h1, e_h1⟩ : ∃ h1, h1 = halloc h x.cells := ⟨_, rfl⟩
 have F_h1 : Fr [] h h1 := e_h1 ▸ Fr.halloc w _
 have o_h1 : Own h1 h.next x.cells := e_h1 ▸ Own.new w _
 have l0 : hload1 h1 h.next 0 = some (.int .u64 (x.key : Int)) := o_h1.ld1 0
 have l1 : hload1 h1 h.next 1 = some (.int .u8 (x.type : Int)) := o_h1.ld1 1
 have xt := a.t
 by_cases c0 : x.key = 0
 · refine does_fn g102 rfl ?_
   simp only [fn102, evs, ↓reduceIte, Nat.reduceEqDiff, Nat.reduceAdd, ← e_h1, l0, show (x.key : Int) = 0 by omega]
   exact ⟨by simp [okI, c0], F_h1⟩
 by_cases c1 : x.type < types
 · refine does_fn g102 rfl ?_
   simp (disch := omega) only [fn102, evs, ↓reduceIte, Nat.reduceEqDiff, Nat.reduceAdd, Nat.reduceLT, fwrap_i64, ← e_h1, l0, show ¬ (x.key : Int) = 0 by omega, l1, show ¬ (types : Int) ≤ x.type by omega]
   refine OQ_does (text_ok F_h1.wf (a.fr F_h1) o_h1) ?_
   rintro _ h2 ⟨rfl, F2⟩
   cases c2 : okT x.text
   · simp only [evs, ↓reduceIte]
     exact ⟨by simp [okI, c2], F_h1.then F2⟩
   · simp only [evs, ↓reduceIte, Nat.reduceLT]
     refine OQ_does (marks_ok F2.wf (a.fr (F_h1.then F2)) (F2.get o_h1)) ?_
     rintro _ h3 ⟨rfl, F3⟩
     cases c3 : okM x.marks
     · simp only [evs, ↓reduceIte]
       exact ⟨by simp [okI, c3], (F_h1.then F2).then F3⟩
     · simp only [evs, ↓reduceIte]
       exact ⟨by simp [okI, c0, c1, c2, c3], (F_h1.then F2).then F3⟩
 · refine does_fn g102 rfl ?_
   simp (disch := omega) only [fn102, evs, ↓reduceIte, Nat.reduceEqDiff, Nat.reduceAdd, fwrap_i64, ← e_h1, l0, show ¬ (x.key : Int) = 0 by omega, l1, show (types : Int) ≤ x.type by omega]
   exact ⟨by simp [okI, c1], F_h1⟩
theorem inName_ok {h : Heap} (r : Nat) : Does go 294 [.int .u8 (r : Int)] h fun u h' => u = .bool (!badN r) ∧ h = h' := by
 by_cases c : (97 : Int) ≤ r
 · by_cases d : (r : Int) ≤ 122
   · refine does_fn g294 rfl ?_
     simp only [fn294, evs, ↓reduceIte, Nat.reduceEqDiff, c, d]
     simp [badN]; omega
   · by_cases e : (48 : Int) ≤ r
     · by_cases f : (r : Int) ≤ 57
       · omega
       · refine does_fn g294 rfl ?_
         simp only [fn294, evs, ↓reduceIte, Nat.reduceEqDiff, c, d, e, f]
         simp [badN]; omega
     · omega
 · by_cases e : (48 : Int) ≤ r
   · by_cases f : (r : Int) ≤ 57
     · refine does_fn g294 rfl ?_
       simp only [fn294, evs, ↓reduceIte, Nat.reduceEqDiff, c, e, f]
       simp [badN]; omega
     · refine does_fn g294 rfl ?_
       simp only [fn294, evs, ↓reduceIte, Nat.reduceEqDiff, c, e, f]
       simp [badN]; omega
   · refine does_fn g294 rfl ?_
     simp only [fn294, evs, ↓reduceIte, Nat.reduceEqDiff, c, e]
     simp [badN]; omega
theorem aP_ixstr {z : List UInt8} {i : Nat} (h : i < z.length) (k : IntKind) : aP .ixstr [.str z, .int k (i : Int)] = some (.int .u8 ((z[i]).toNat : Nat)) := by
 show (z[i]?).map _ = _
 rw [List.getElem?_eq_getElem h]; rfl
theorem named_ok {h : Heap} {z : List UInt8} : Does go 279 [.str z] h fun u h' => u = .bool (okN z) ∧ h = h' := by
 by_cases c0 : z.length < 1
 · refine does_fn g279 rfl ?_
   simp only [fn279, evs, ↓reduceIte, Nat.reduceEqDiff, aP_lenStr, show (z.length : Int) < 1 by omega]
   simp [okN]; intro _; omega
 by_cases c1 : 16 < z.length
 · refine does_fn g279 rfl ?_
   simp only [fn279, evs, ↓reduceIte, Nat.reduceEqDiff, aP_lenStr, show ¬ (z.length : Int) < 1 by omega, show (16 : Int) < z.length by omega]
   simp [okN]; intro _ _; omega
 · have e0 : okN z = !anyB badN z := by simp [okN, show 0 < z.length by omega, show z.length ≤ 16 by omega]
   rw [e0]
   refine does_fn g279 rfl ?_
   simp only [fn279, evs, ↓reduceIte, Nat.reduceEqDiff, aP_lenStr, show ¬ (z.length : Int) < 1 by omega, show ¬ (16 : Int) < z.length by omega]
   refine W_loop (fun k env hh => h = hh ∧ ∃ (i : Nat), env.get 14 = some (.int .i64 i) ∧ env.get 13 = some (.int .i64 z.length) ∧ env.get 0 = some (.str z) ∧
    i ≤ z.length ∧ anyB badN (z.drop i) = anyB badN z ∧ k = z.length - i) z.length (by omega) ?_ ?_
   · exact ⟨rfl, 0, (by simp [T.gs]), (by simp [T.gs]), (by simp [T.gs]), by omega, rfl, rfl⟩
   · rintro k env hh ⟨rfl, i, g14, g13, g0, hi, e, rfl⟩
     by_cases hlt : i < z.length
     · unfold anyB at e
       rw [List.drop_eq_getElem_cons hlt, List.any_cons] at e
       simp only [evs, ↓reduceIte, Nat.reduceEqDiff, g14, g13, g0, show (i : Int) < z.length by omega, aP_ixstr hlt]
       refine OQ_does (inName_ok _) ?_
       rintro _ _ ⟨rfl, rfl⟩
       cases c : badN ((z[i]).toNat : Int)
       · simp (disch := omega) only [evs, ↓reduceIte, Nat.reduceEqDiff, fwrap_i64, g14]
         rw [c, Bool.false_or] at e
         refine (roundQ_norm _ _ _).2 ⟨z.length - (i + 1), by omega, rfl, i + 1, (by simp [T.gs]), (by simp [T.gs, g13]), (by simp [T.gs, g0]), by omega, e, rfl⟩
         done
       · simp only [evs, ↓reduceIte]
         rw [c, Bool.true_or] at e
         unfold anyB
         rw [← e]; simp
     · simp only [evs, ↓reduceIte, g14, g13, show ¬ (i : Int) < z.length by omega]
       rw [List.drop_of_length_le (by omega)] at e
       rw [← e]; rfl
theorem P293 : Pred 293 badT := ⟨by decide, fun r h => by
 by_cases c : r < 32
 · refine does_fn g293 rfl ?_
   simp only [fn293, evs, ↓reduceIte, Nat.reduceEqDiff, c]
   simp [badT, c]
 · refine does_fn g293 rfl ?_
   simp only [fn293, evs, ↓reduceIte, Nat.reduceEqDiff, c]
   simp [badT, c], fun r hr => by simp [badT]; omega⟩
theorem ntext_ok {h : Heap} {z : List UInt8} (w : WF h) : Does go 278 [.str z] h fun u h' => u = .bool (okT z) ∧ Fr [] h h' := by
 by_cases c : z.length ≤ 64
 · refine does_fn g278 rfl ?_
   simp only [fn278, evs, ↓reduceIte, Nat.reduceEqDiff, aP_lenStr, show (z.length : Int) ≤ 64 by omega]
   refine OQ_does (?_ : Does go 230 _ _ (fun u h' => ∃ r : Int, u = .int .i64 r ∧ (decide (0 ≤ r) = anyB badT z) ∧ Fr [] h h')) ?_
   · refine does_fn g230 rfl ?_
     simp only [fn230, evs, ↓reduceIte, Nat.reduceEqDiff, Nat.reduceAdd]
     refine OQ_does (indexF_ok w P293 (by omega)) ?_
     rintro _ h1 ⟨r, rfl, e, F⟩
     simp only [evs, ↓reduceIte]
     exact ⟨r, rfl, e, F⟩
   · rintro _ h1 ⟨r, rfl, e, F⟩
     simp only [evs, ↓reduceIte]
     refine ⟨?_, F⟩
     have : decide (r < 0) = !decide (0 ≤ r) := by by_cases q : 0 ≤ r <;> simp [q] <;> omega
     simp [okT, c, ← e]
     exact this
 · refine does_fn g278 rfl ?_
   simp only [fn278, evs, ↓reduceIte, Nat.reduceEqDiff, aP_lenStr, show ¬ (z.length : Int) ≤ 64 by omega]
   exact ⟨by simp [okT, c], Fr.refl w⟩
abbrev Str := List UInt8
inductive NT where
 | nil
 | cons (kind : Nat) (tag key : Str) (attrs : List (Str × Str)) (text : Str) (va vc : V) (sub next : NT)
def attC (a : Str × Str) : List V := [.str a.1, .str a.2]
theorem attC_len (a : Str × Str) : (attC a).length = 2 := rfl
namespace NT
def len : NT → Nat
 | nil => 0
 | cons _ _ _ _ _ _ _ _ nx => nx.len + 1
def cells : NT → List V
 | nil => []
 | cons k tg ky _ tx va vc _ nx => [.int .u8 (k : Int), .str tg, .str ky, va, .str tx, vc] ++ nx.cells
def keys : NT → List Str
 | nil => []
 | cons _ _ ky _ _ _ _ _ nx => ky :: nx.keys
theorem cells_len : ∀ t : NT, t.cells.length = t.len * 6
 | nil => rfl
 | cons _ _ _ _ _ _ _ _ nx => by simp [cells, len, cells_len nx]; omega
theorem keys_len : ∀ t : NT, t.keys.length = t.len
 | nil => rfl
 | cons _ _ _ _ _ _ _ _ nx => by simp [keys, len, keys_len nx]
def at' : NT → Nat → NT
 | t, 0 => t
 | nil, _ + 1 => nil
 | cons _ _ _ _ _ _ _ _ nx, i + 1 => nx.at' i
end NT
def NH (h : Heap) : NT → Prop
 | .nil => True
 | .cons k _ _ at' _ va vc sub nx => k < 256 ∧ Recs attC 2 h va at' ∧ at'.length ≤ 4096 ∧ Sl h 6 vc sub.len sub.cells ∧ sub.len ≤ 4096 ∧ NH h sub ∧ NH h nx
theorem NH.fr {h h' : Heap} (f : Fr [] h h') : ∀ {t : NT}, NH h t → NH h' t
 | .nil, _ => trivial
 | .cons _ _ _ _ _ _ _ _ _, ⟨a, b, c, d, e, g, i⟩ => ⟨a, b.fr f, c, d.fr f, e, NH.fr f g, NH.fr f i⟩
set_option maxRecDepth 4000
namespace NT
theorem split : ∀ (t : NT) (i : Nat), i < t.len → ∃ k tg ky at' tx va vc sub nx, t.at' i = .cons k tg ky at' tx va vc sub nx ∧ t.cells.drop (i * 6) = [.int .u8 ((k : Nat) : Int), .str tg, .str ky, va, .str tx, vc] ++ nx.cells ∧ t.at' (i + 1) = nx ∧ t.keys.drop i = ky :: nx.keys ∧ t.keys[i]? = some ky ∧ nx.len + (i + 1) = t.len
 | .nil, _, h => by cases h
 | .cons k tg ky at' tx va vc sub nx, 0, _ => ⟨k, tg, ky, at', tx, va, vc, sub, nx, rfl, rfl, by cases nx <;> rfl, rfl, rfl, rfl⟩
 | .cons _ _ _ _ _ _ _ _ nx, i + 1, h => by
  obtain ⟨k, tg, ky, at', tx, va, vc, sub, n, e1, e2, e3, e4, e5, e6⟩ := split nx i (by simp [len] at h; omega)
  refine ⟨k, tg, ky, at', tx, va, vc, sub, n, e1, ?_, e3, e4, ?_, by simp only [len]; omega⟩
  · rw [show (i + 1) * 6 = 6 + i * 6 by omega, ← List.drop_drop]; exact e2
  · simpa [keys] using e5
theorem at_end : ∀ (t : NT) (i : Nat), t.len ≤ i → t.at' i = .nil
 | .nil, 0, _ => rfl
 | .nil, _ + 1, _ => rfl
 | .cons _ _ _ _ _ _ _ _ nx, 0, h => by simp [len] at h
 | .cons _ _ _ _ _ _ _ _ nx, i + 1, h => at_end nx i (by simp [len] at h; omega)
end NT
theorem NH.at' {h : Heap} : ∀ {t : NT} (i : Nat), NH h t → NH h (t.at' i)
 | .nil, 0, _ => trivial
 | .nil, _ + 1, _ => trivial
 | .cons _ _ _ _ _ _ _ _ _, 0, a => a
 | .cons _ _ _ _ _ _ _ _ _, i + 1, ⟨_, _, _, _, _, _, g⟩ => NH.at' i g
def At6 (h : Heap) (b o : Nat) (x0 x1 x2 x3 x4 x5 : V) : Prop := hload1 h b o = some x0 ∧ hload1 h b (o + 1) = some x1 ∧ hload1 h b (o + 2) = some x2 ∧ hload1 h b (o + 3) = some x3 ∧ hload1 h b (o + 4) = some x4 ∧ hload1 h b (o + 5) = some x5 ∧ hload h b o 6 = some [x0, x1, x2, x3, x4, x5]
theorem _root_.Go.Ev.Sl.ix6 {h : Heap} {v : V} {n : Nat} {cs : List V} (a : Sl h 6 v n cs) {i : Nat} (hi : i < n) {x0 x1 x2 x3 x4 x5 : V} {r : List V} (e : cs.drop (i * 6) = [x0, x1, x2, x3, x4, x5] ++ r) :
 ∃ b o, aP (.ixs 6) [v, .int .i64 (i : Int)] = some (.ptr b o) ∧ At6 h b o x0 x1 x2 x3 x4 x5 := by
 obtain ⟨b, o, e1, e2, e3⟩ := Sl.ix a .i64 (i : Int) (by omega) (by omega)
 rw [Int.toNat_natCast] at e2 e3
 rw [e] at e3
 have g : ∀ j, cs[i * 6 + j]? = ([x0, x1, x2, x3, x4, x5] ++ r)[j]? := fun j => by rw [← e, List.getElem?_drop]
 refine ⟨b, o, e1, ?_, ?_, ?_, ?_, ?_, ?_, e3⟩
 · have := e2 0 (by omega); rw [g] at this; exact this
 · have := e2 1 (by omega); rw [g] at this; exact this
 · have := e2 2 (by omega); rw [g] at this; exact this
 · have := e2 3 (by omega); rw [g] at this; exact this
 · have := e2 4 (by omega); rw [g] at this; exact this
 · have := e2 5 (by omega); rw [g] at this; exact this
theorem _root_.Go.Ev.Own.at6 {h : Heap} {b : Nat} {x0 x1 x2 x3 x4 x5 : V} (o : Own h b [x0, x1, x2, x3, x4, x5]) : At6 h b 0 x0 x1 x2 x3 x4 x5 := ⟨o.ld1 0, o.ld1 1, o.ld1 2, o.ld1 3, o.ld1 4, o.ld1 5, by rw [o.ld]; rfl⟩
theorem sameKey_ok {h : Heap} {x0 x1 x3 x4 x5 : V} {ky k0 : Str} {bk : Nat} (w : WF h) (hk : ∀ h', Fr [] h h' → hload1 h' bk 2 = some (.str k0)) (ones : onesB [x0, x1, .str ky, x3, x4, x5] = true) :
 Does go 281 [.agg [x0, x1, .str ky, x3, x4, x5], .ptr bk 0] h fun u h' => u = .bool (ky == k0) ∧ Fr [] h h' := by
 obtain ⟨h1, e_h1⟩ : ∃ h1, h1 = halloc h [x0, x1, .str ky, x3, x4, x5] := ⟨_, rfl⟩
 have F_h1 : Fr [] h h1 := e_h1 ▸ Fr.halloc w _
 have o_h1 : Own h1 h.next [x0, x1, .str ky, x3, x4, x5] := e_h1 ▸ Own.new w _
 have l2 : hload1 h1 h.next 2 = some (.str ky) := o_h1.ld1 2
 refine does_fn g281 rfl ?_
 simp only [fn281, evs, ↓reduceIte, Nat.reduceEqDiff, Nat.reduceAdd, ← e_h1, l2, hk h1 F_h1, aP_sbe]
 exact F_h1
theorem indexK_ok {h : Heap} {u : V} {t : NT} {i bk : Nat} {k0 : Str} (w : WF h) (a : Sl h 6 u i (t.cells.take (i * 6))) (hi : i ≤ t.len) (hn : i ≤ 4096) (ones : onesB t.cells = true) (hk : ∀ h', Fr [] h h' → hload1 h' bk 2 = some (.str k0)) :
 Does go 280 [u, .func (.func 281) [] [.ptr bk 0]] h fun z h' => z = .bool ((t.keys.take i).any (· == k0)) ∧ Fr [] h h' := by
 refine does_fn g280 rfl ?_
 simp only [fn280, evs, ↓reduceIte, Nat.reduceEqDiff, Nat.reduceAdd]
 refine OQ_does (?_ : Does go 295 _ _ (fun z h' => ∃ r : Int, z = .int .i64 r ∧ (decide (0 ≤ r) = (t.keys.take i).any (· == k0)) ∧ Fr [] h h')) ?_
 · refine does_fn g295 rfl ?_
   simp only [fn295, evs, ↓reduceIte, Nat.reduceEqDiff, Nat.reduceAdd, Int.reduceNeg, a.len]
   refine W_loop (fun k env hh => Fr [] h hh ∧ ∃ (j : Nat), env.get 8 = some (.int .i64 j) ∧ env.get 7 = some (.int .i64 i) ∧ env.get 0 = some u ∧ env.get 1 = some (.func (.func 281) [] [.ptr bk 0]) ∧
    j ≤ i ∧ ((t.keys.take i).drop j).any (· == k0) = (t.keys.take i).any (· == k0) ∧ k = i - j) i (by omega) ?_ ?_
   · exact ⟨Fr.refl w, 0, (by simp [T.gs]), (by simp [T.gs]), (by simp [T.gs]), (by simp [T.gs]), by omega, rfl, rfl⟩
   · rintro k env hh ⟨F, j, g8, g7, g0, g1, hj, e, rfl⟩
     by_cases hlt : j < i
     · obtain ⟨kd, tg, ky, at', tx, va, vc, sub, nx, e1, e2, e3, e4, e5, _⟩ := t.split j (by omega)
       have q : (t.cells.take (i * 6)).drop (j * 6) = [.int .u8 (kd : Int), .str tg, .str ky, va, .str tx, vc] ++ nx.cells.take (i * 6 - j * 6 - 6) := by
        rw [List.drop_take, e2, show i * 6 - j * 6 = ([.int .u8 (kd : Int), .str tg, .str ky, va, .str tx, vc] : List V).length + (i * 6 - j * 6 - 6) by simp; omega, List.take_length_add_append]
        simp
       obtain ⟨b, o, p1, p2⟩ := (a.fr F).ix6 hlt q
       have on : onesB [.int .u8 (kd : Int), .str tg, .str ky, va, .str tx, vc] = true := by
        have := onesB_drop (j * 6) ones
        rw [e2, onesB_append] at this
        exact (Bool.and_eq_true _ _ ▸ this).1
       have ek : (t.keys.take i)[j]? = some ky := by rw [List.getElem?_take, if_pos hlt]; exact e5
       rw [drop_cons ek, List.any_cons] at e
       simp only [evs, ↓reduceIte, Nat.reduceEqDiff, Nat.reduceLT, Int.reduceNeg, g8, g7, g0, g1, show (j : Int) < (i : Int) by omega, p1, p2.2.2.2.2.2.2]
       refine OQ_does (sameKey_ok F.wf (fun h' f => hk h' (F.then f)) on) ?_
       rintro _ h1 ⟨rfl, F1⟩
       cases c : ky == k0
       · simp (disch := omega) only [evs, ↓reduceIte, Nat.reduceEqDiff, Int.reduceNeg, fwrap_i64, g8]
         rw [c] at e
         refine (roundQ_norm _ _ _).2 ⟨i - (j + 1), by omega, F.then F1, j + 1, (by simp [T.gs]), (by simp [T.gs, g7]), (by simp [T.gs, g0]), (by simp [T.gs, g1]), by omega, by simpa using e, rfl⟩
         done
       · simp only [evs, ↓reduceIte, Nat.reduceEqDiff, Int.reduceNeg]
         rw [c] at e
         exact ⟨j, rfl, by rw [← e]; simp, F.then F1⟩
     · simp only [evs, ↓reduceIte, Int.reduceNeg, g8, g7, show ¬ (j : Int) < (i : Int) by omega]
       rw [List.drop_of_length_le (by simp; omega)] at e
       exact ⟨-1, rfl, by rw [← e]; rfl, F⟩
 · rintro _ h1 ⟨r, rfl, e, F⟩
   simp only [evs, ↓reduceIte]
   exact ⟨by rw [e], F⟩
end Go.Ev.Lay
