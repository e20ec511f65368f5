/- An evaluator of the program, and contracts over it: EvR to EvMh. -/
import Derived.MapKept
import Derived.Laws.StructEq
import Derived.Laws.BytesString
import Derived.Lib.OthersKept
import Derived.Laws.LoneSync
import Derived.Laws.AppendOwn
import Derived.Lib.ConvBytes
import Derived.Lib.UnsafeStr
import Derived.Lib.Builder
import Derived.Test.YthhhghfnhbocnaaGreatDoorP01
set_option linter.unusedSimpArgs false
set_option linter.unusedVariables false
set_option linter.constructorNameAsVariable false
set_option linter.unnecessarySimpa false
namespace Go.Ev
noncomputable def agrow (h : Heap) (esz bytes need : Nat) (c : List V) : Option (V × Heap) :=
  bif Nat.ble ((2 * need + 1024) * bytes) 281474976710656 then some (.sliceU h.next 0 need esz, halloc h c) else none
noncomputable def aapp (h : Heap) (esz bytes : Nat) (s x : V) : Option (V × Heap) :=
  match srcLen x with
  | none => none
  | some n =>
    bif Nat.beq n 0 then
      match dstLen s with
      | some _ => some (s, h)
      | none => none
    else
      match srcCells h esz x n with
      | none => none
      | some xs =>
        match s with
        | .nils => agrow h esz bytes n xs
        | .slice b o len cap =>
          bif Nat.ble (len + n) cap then (hstore h b (o + len * esz) xs).map fun h' => (.slice b o (len + n) cap, h')
          else match hload h b o (len * esz) with
            | some old => agrow h esz bytes (len + n) (old ++ xs)
            | none => none
        | .sliceU b o len e =>
          bif Nat.beq e esz && Nat.ble ((2 * (len + n) + 1024) * bytes) 281474976710656 then
            match cellsAt h b with
            | some c =>
              bif Nat.ble (o + (len + n) * esz) c.length then (hstore h b (o + len * esz) xs).map fun h' => (.sliceU b o (len + n) e, h')
              else bif Nat.ble (o + len * esz) c.length && onesB xs then
                match takeL (len * esz) (dropL c o) with
                | some old => (hsuper h b (o + len * esz) (old ++ xs)).map fun h' => (.sliceU h.next 0 (len + n) e, h')
                | none => none
              else none
            | none => none
          else none
        | _ => none
section
variable {P : Program} {m : M} {h : Heap} {w : World}
theorem zeroCells_size (z : Array Value) (n : Nat) : (Builtin.zeroCells z n).size = n * z.size := by simp [Builtin.zeroCells]
theorem HRel.drew (H : HRel m h w) : HRel m h w.drew := H.congr rfl
theorem hstore_next {h' : Heap} {b o : Nat} {vs : List V} (x : hstore h b o vs = some h') : h'.next = h.next := by
  obtain ⟨_, _, _, _, _, _, _, _, q, _⟩ := hstore_some x
  exact q
def MS2 (P : Program) (m : M) (h : Heap) (w : World) (o : Oper) (ρ : Operand → Value) (v : V) (h' : Heap) (elem : TypeId) (s : V) : Prop :=
  ∃ x w' m', Gives ((execOp ρ o).run P w) x w' ∧ VRel m' v x ∧ HRel m' h' w' ∧ Ext m h w m' h' w' ∧
    (h'.next = h.next ∨ ∃ loc C fz t, m' h.next = some loc ∧ w'.heap[loc.block]? = some (.cells C t fz) ∧
      ((loc.base = 0 ∧ t = elem) ∨ ∃ b k n e lb D fz', s = .sliceU b k n e ∧ m b = some lb ∧ loc.base = lb.base + k ∧ w.heap[lb.block]? = some (.cells D t fz')))
theorem agrow_sound (H : HRel m h w) {o : Oper} {ρ : Operand → Value} {esz bytes : Nat} {x y : Operand} {elem : TypeId} {z : Value} (F : AppFacts P o esz bytes x y elem z)
    {base : Option Addr} {len cap n : Nat} {old xs : List V} {v : V} {h' : Heap} (hx : ρ x = .slice base len cap) (hn : ∀ w, (Builtin.lenOf (ρ y)).run P w = .ok n w) (hle : ¬ len + n ≤ cap)
    (hold : ∃ ys, (Builtin.firstCells esz len (ρ x)).run P w.drew = .ok (List.toArray ys) w.drew ∧ VsRel m old ys ∧ old.length = len * esz)
    (hnew : ∃ ys, (Builtin.firstCells esz n (ρ y)).run P w.drew = .ok (List.toArray ys) w.drew ∧ VsRel m xs ys ∧ xs.length = n * esz)
    (hs : agrow h esz bytes (len + n) (old ++ xs) = some (v, h')) {s : V} : MS2 P m h w o ρ v h' elem s := by
  unfold agrow at hs
  cases hb : Nat.ble ((2 * (len + n) + 1024) * bytes) 281474976710656
  · rw [hb] at hs; cases hs
  · rw [hb] at hs; simp only [cond_true, Option.some.injEq, Prod.mk.injEq] at hs
    obtain ⟨rfl, rfl⟩ := hs
    obtain ⟨nc, hnc, hrun⟩ := F.grows ρ w base len cap n hx (hn w) hle (Nat.le_of_ble_eq_true hb)
    obtain ⟨ys, h1, r1, l1⟩ := hold
    obtain ⟨zs, h2, r2, l2⟩ := hnew
    rw [h1] at hrun
    simp only [Result.andThen_ok] at hrun
    rw [h2] at hrun
    simp only [Result.andThen_ok, newRow_run] at hrun
    have rr := VsRel.append r1 r2
    have hl1 := r1.length
    have hl2 := r2.length
    have hXs : (List.toArray ys ++ List.toArray zs ++ Builtin.zeroCells z.cells (nc - (len + n))).size = nc * esz := by
      simp [zeroCells_size, F.zsz, hl1, hl2, l1, l2, ← Nat.add_mul]
      congr 1; omega
    have := H.drew.alloc (old ++ xs) (List.toArray ys ++ List.toArray zs ++ Builtin.zeroCells z.cells (nc - (len + n))) elem
      (by rw [hXs]; simp [l1, l2, ← Nat.add_mul]; exact Nat.mul_le_mul_right _ hnc)
      (fun i v hi => by
        obtain ⟨q, hq, rq⟩ := rr.get i v hi
        refine ⟨q, ?_, rq⟩
        have hil : i < (ys ++ zs).length := (List.getElem?_eq_some_iff.1 hq).1
        rw [Array.getElem?_append_left (by simpa using hil)]
        simpa using hq)
    obtain ⟨H', E'⟩ := this
    refine ⟨_, _, _, .inl hrun, ⟨_, mset_self _ _ _, ?_, ?_⟩, H', (Ext.drew m h w).trans E', .inr ⟨_, _, _, _, mset_self _ _ _, heap_alloc_new w.drew _, .inl ⟨rfl, rfl⟩⟩⟩
    · simp only [hXs, Nat.sub_zero]
      rw [Nat.mul_div_cancel _ F.pos]; exact hnc
    · simp only [hXs, Nat.sub_zero]
      rw [Nat.mul_div_cancel _ F.pos]
theorem aapp_sound2 (H : HRel m h w) {o : Oper} {ρ : Operand → Value} {esz bytes : Nat} {s x v : V} {h' : Heap} (hc : chkApp P o.op esz bytes = true) (hv : VsRel m [s, x] (OV ρ o.op))
    (hs : aapp h esz bytes s x = some (v, h')) : ∃ elem, (∃ args ts t, callOf o.op .append = some (args, ts) ∧ ts[0]? = some t ∧ P.underlying t = some (.slice elem)) ∧ MS2 P m h w o ρ v h' elem s := by
  obtain ⟨ox, oy, ts, elem, z, hy, F, t0, ht0, hu0⟩ := app_facts hc
  refine ⟨elem, ⟨#[ox, oy], ts, t0, by rw [hy]; simp [callOf], ht0, hu0⟩, ?_⟩
  obtain ⟨x', y', e', rx, ry⟩ := two_of hv
  rw [hy] at e'; change [ρ ox, ρ oy] = [x', y'] at e'; simp only [List.cons.injEq, and_true] at e'
  unfold aapp at hs
  split at hs
  · cases hs
  · rename_i n hn
    have hlen : ∀ w, (Builtin.lenOf (ρ oy)).run P w = .ok n w := fun w => by rw [e'.2]; exact srcLen_run hn ry w
    cases hb : Nat.beq n 0
    · simp only [hb, cond_false] at hs
      split at hs
      · cases hs
      · rename_i xs hxs
        have hnew : ∃ ys, (Builtin.firstCells esz n (ρ oy)).run P w.drew = .ok (List.toArray ys) w.drew ∧ VsRel m xs ys ∧ xs.length = n * esz := by
          rw [e'.2]; exact srcCells_run (P := P) H.drew hxs ry
        have hnew0 : ∃ ys, (Builtin.firstCells esz n (ρ oy)).run P w = .ok (List.toArray ys) w ∧ VsRel m xs ys ∧ xs.length = n * esz := by
          rw [e'.2]; exact srcCells_run (P := P) H hxs ry
        have hn0 : n ≠ 0 := by intro q; subst q; simp at hb
        split at hs
        · -- nil
          simp only [VRel] at rx
          have hxx : ρ ox = .slice none 0 0 := e'.1.trans rx
          refine agrow_sound (old := []) (len := 0) H F hxx hlen (by omega) ⟨[], ?_, rfl, by simp⟩ hnew (by simpa using hs)
          rw [hxx]; rfl
        · -- a slice of a known capacity
          rename_i b k len cap
          obtain ⟨loc, hm, hlc, hxx⟩ := rx
          have hxx := e'.1.trans hxx
          cases hle : Nat.ble (len + n) cap
          · simp only [hle, cond_false] at hs
            split at hs
            · rename_i old hold
              refine agrow_sound H F hxx hlen (by intro q; rw [Nat.ble_eq_true_of_le q] at hle; cases hle) ?_ hnew hs
              rw [hxx]
              exact H.drew.load P hm hold
            · cases hs
          · simp only [hle, cond_true] at hs
            have hle := Nat.le_of_ble_eq_true hle
            cases hst : hstore h b (k + len * esz) xs with
            | none => rw [hst] at hs; cases hs
            | some h2 =>
              rw [hst] at hs; simp only [Option.map_some, Option.some.injEq, Prod.mk.injEq] at hs
              obtain ⟨rfl, rfl⟩ := hs
              obtain ⟨ys, h1, r1, l1⟩ := hnew0
              obtain ⟨w', hrun, H', E'⟩ := H.store P hm hst r1
              refine ⟨_, w', m, .inl ?_, ⟨loc, hm, hle, rfl⟩, H', E', .inl (hstore_next hst)⟩
              rw [F.fits ρ w _ len cap n hxx (hlen w) hle, h1]
              simp only [Result.andThen_ok, add_mk, Nat.add_assoc, hrun]
        · -- a slice of which only a least capacity is known
          rename_i b k len e
          obtain ⟨loc, hm, hlc, hxx⟩ := rx
          have hxx := e'.1.trans hxx
          cases hbe : (Nat.beq e esz && Nat.ble ((2 * (len + n) + 1024) * bytes) 281474976710656)
          · rw [hbe] at hs; cases hs
          · rw [hbe] at hs; simp only [cond_true] at hs
            simp only [Bool.and_eq_true] at hbe
            have he := Nat.eq_of_beq_eq_true hbe.1
            subst he
            have hlim := Nat.le_of_ble_eq_true hbe.2
            split at hs
            · rename_i c hcells
              obtain ⟨f, mk, hg, hrd⟩ := cellsAt_some hcells
              obtain ⟨bk, hbk, rel⟩ := H.blk b loc hm
              rw [hg] at hbk; cases hbk
              obtain ⟨C, el, fz, hC, hroom, hcl, hcell, hfz⟩ := rel hrd
              cases hle : Nat.ble (k + (len + n) * e) c.length
              · simp only [hle, cond_false] at hs
                have hle' : ¬ k + (len + n) * e ≤ c.length := by intro q; rw [Nat.ble_eq_true_of_le q] at hle; cases hle
                cases hco : (Nat.ble (k + len * e) c.length && onesB xs)
                · rw [hco] at hs; cases hs
                rw [hco] at hs; simp only [cond_true] at hs
                simp only [Bool.and_eq_true] at hco
                have hon := Nat.le_of_ble_eq_true hco.1
                have hones := hco.2
                split at hs
                · rename_i old hold
                  obtain ⟨hold', hol⟩ := takeL_eq hold
                  rw [dropL_eq] at hold' hol
                  cases hsu : hsuper h b (k + len * e) (old ++ xs) with
                  | none => rw [hsu] at hs; cases hs
                  | some h2 =>
                    rw [hsu] at hs; simp only [Option.map_some, Option.some.injEq, Prod.mk.injEq] at hs
                    obtain ⟨rfl, rfl⟩ := hs
                    obtain ⟨ys, hy1, r1, l1⟩ := hnew0
                    have hyl := r1.length
                    have holen : old.length = len * e := by rw [hold']; simp at hol ⊢; omega
                    have holdget : ∀ i : Nat, i < len * e → old[i]? = c[k + i]? := by
                      intro i hi; rw [hold', List.getElem?_take, if_pos hi, List.getElem?_drop]
                    have hadd : (len + n) * e = len * e + n * e := Nat.add_mul _ _ _
                    have hpos := F.pos
                    have hne : 0 < n * e := Nat.mul_pos (by omega) hpos
                    by_cases hfit : len + n ≤ (loc.room - k) / e
                    · -- in place
                      have hmul : (len + n) * e ≤ loc.room - k := by
                        have := Nat.mul_le_mul_right e hfit
                        exact Nat.le_trans this (Nat.div_mul_le_self _ _)
                      obtain ⟨w', hrun, hst⟩ := run_storeCells P loc.block (loc.base + (k + len * e)) el fz ys 0 C w hC (by omega)
                        (fun j hj => by have := hfz (k + len * e + j) (by omega); rwa [show loc.base + (k + len * e + j) = loc.base + (k + len * e) + 0 + j by omega] at this)
                        (onesB_mem hones r1)
                      obtain ⟨C', hC', hsz', hget'⟩ := hst.row C el fz hC
                      have hsup := H.super (loc' := ⟨loc.block, loc.base + k, loc.room - k, none⟩) (news := xs) (w' := w') hm hg hsu (by simp [holen]) hon (by omega)
                        ⟨Nat.le_refl _, by simp [holen, l1]; omega⟩
                        ⟨C', el, fz, hC', by simp only []; omega, fun i u hi => by
                            simp only []
                            rw [hget' (loc.base + k + i)]
                            by_cases hil : i < len * e
                            · rw [List.getElem?_append_left (by omega), holdget i hil] at hi
                              rw [if_neg (by omega), Nat.add_assoc]
                              exact hcell _ u hi
                            · rw [List.getElem?_append_right (by omega)] at hi
                              obtain ⟨q, hq, rq⟩ := r1.get _ _ hi
                              have hqi := (List.getElem?_eq_some_iff.1 hq).1
                              refine ⟨q, ?_, rq⟩
                              rw [if_pos (by omega), if_pos (by omega), ← hq]
                              congr 1; omega,
                          fun i hi => by simp only [] at hi ⊢; have := hfz (k + i) (by omega); rwa [← Nat.add_assoc] at this⟩
                        (.inr ⟨rfl, rfl, hst.other, fun C0 el0 fz0 hC0 => by
                            rw [hC] at hC0; cases hC0
                            exact ⟨C', hC', hsz', fun j hj => by rw [hget' j, if_neg (by omega)]⟩⟩)
                        (fun _ => ⟨by simp only []; omega, fun C0 el0 fz0 C1 hC0 hC1 j hj => by
                            rw [hC] at hC0; cases hC0
                            rw [hC'] at hC1; cases hC1
                            rw [hget' j, if_neg (by omega)]⟩)
                        (by rw [hst.size]; exact Nat.le_refl _) (by rw [hst.size]; exact H.inb b loc hm) hst.os hst.tape hst.output
                      obtain ⟨H', E'⟩ := hsup
                      refine ⟨_, w', _, .inl ?_, ⟨_, mset_self _ _ _, hfit, rfl⟩, H', E', .inr ⟨_, C', fz, el, mset_self _ _ _, hC', .inr ⟨b, k, len, e, loc, C, fz, rfl, hm, rfl, hC⟩⟩⟩
                      rw [F.fits ρ w _ len _ n hxx (hlen w) hfit, hy1]
                      simp only [Result.andThen_ok, add_mk, Nat.add_assoc, hrun]
                      simp
                    · -- a new row
                      obtain ⟨nc, hnc, hrun⟩ := F.grows ρ w _ len _ n hxx (hlen w) hfit hlim
                      obtain ⟨zs, h2', r2, l2⟩ := hnew
                      have holdrun : ∃ ys, (Builtin.firstCells e len (ρ ox)).run P w.drew = .ok (List.toArray ys) w.drew ∧ VsRel m old ys ∧ old.length = len * e := by
                        rw [hxx]
                        refine H.drew.load P hm ?_
                        unfold hload; rw [hcells]; exact hold
                      obtain ⟨os, h1, ro, lo⟩ := holdrun
                      rw [h1] at hrun
                      simp only [Result.andThen_ok] at hrun
                      rw [h2'] at hrun
                      simp only [Result.andThen_ok, newRow_run] at hrun
                      have rr := VsRel.append ro r2
                      have hl1 := ro.length
                      have hl2 := r2.length
                      have hXs : (List.toArray os ++ List.toArray zs ++ Builtin.zeroCells z.cells (nc - (len + n))).size = nc * e := by
                        simp [zeroCells_size, F.zsz, hl1, hl2, lo, l2, ← Nat.add_mul]
                        congr 1; omega
                      have hncm : (len + n) * e ≤ nc * e := Nat.mul_le_mul_right e hnc
                      have hsup := H.super (loc' := ⟨w.heap.size, 0, nc * e, none⟩) (news := xs) (w' := w.drew.alloc (.cells (List.toArray os ++ List.toArray zs ++ Builtin.zeroCells z.cells (nc - (len + n))) elem)) hm hg hsu (by simp [holen]) hon (by omega)
                        ⟨Nat.le_refl _, by simp [holen, l1]; omega⟩
                        ⟨_, elem, (0, 0), heap_alloc_new w.drew _, by simp only [hXs]; omega, fun i u hi => by
                            obtain ⟨q, hq, rq⟩ := rr.get i u hi
                            refine ⟨q, ?_, rq⟩
                            have hil : i < (os ++ zs).length := (List.getElem?_eq_some_iff.1 hq).1
                            simp only [Nat.zero_add]
                            rw [Array.getElem?_append_left (by simpa using hil)]
                            simpa using hq, fun i hi => by simp⟩
                        (.inl ⟨rfl, fun i hi => heap_alloc_old w.drew _ _ hi⟩) (fun q => by have := H.inb b loc hm; simp only [] at q; omega) (by simp) (by simp) rfl rfl rfl
                      obtain ⟨H', E'⟩ := hsup
                      refine ⟨_, _, _, .inl hrun, ⟨_, mset_self _ _ _, ?_, ?_⟩, H', E', .inr ⟨_, _, _, _, mset_self _ _ _, heap_alloc_new w.drew _, .inl ⟨rfl, rfl⟩⟩⟩
                      · simp only [Nat.sub_zero]; rw [Nat.mul_div_cancel _ hpos]; exact hnc
                      · simp only [Nat.sub_zero]; rw [Nat.mul_div_cancel _ hpos]; rfl
                · cases hs
              · simp only [hle, cond_true] at hs
                have hle := Nat.le_of_ble_eq_true hle
                cases hst : hstore h b (k + len * e) xs with
                | none => rw [hst] at hs; cases hs
                | some h2 =>
                  rw [hst] at hs; simp only [Option.map_some, Option.some.injEq, Prod.mk.injEq] at hs
                  obtain ⟨rfl, rfl⟩ := hs
                  obtain ⟨ys, h1, r1, l1⟩ := hnew0
                  obtain ⟨w', hrun, H', E'⟩ := H.store P hm hst r1
                  have hfit : len + n ≤ (loc.room - k) / e := by
                    rw [Nat.le_div_iff_mul_le F.pos]; omega
                  refine ⟨_, w', m, .inl ?_, ⟨loc, hm, hfit, rfl⟩, H', E', .inl (hstore_next hst)⟩
                  rw [F.fits ρ w _ len _ n hxx (hlen w) hfit, h1]
                  simp only [Result.andThen_ok, add_mk, Nat.add_assoc, hrun]
            · cases hs
        · cases hs
    · simp only [hb, cond_true] at hs
      have hn0 := Nat.eq_of_beq_eq_true hb
      subst hn0
      split at hs
      · rename_i sl hsl
        simp only [Option.some.injEq, Prod.mk.injEq] at hs
        obtain ⟨rfl, rfl⟩ := hs
        obtain ⟨a, c, hxx⟩ := rx.nonnil hsl
        have hcap : sl + 0 ≤ c := by
          unfold dstLen at hsl
          split at hsl
          · cases hsl
          rename_i hns
          unfold srcLen at hsl
          split at hsl
          · cases hsl; obtain ⟨_, _, q, e⟩ := rx; rw [hxx] at e; cases e; exact q
          · cases hsl; obtain ⟨_, _, q, e⟩ := rx; rw [hxx] at e; cases e; exact q
          · cases hsl; simp only [VRel] at rx; rw [hxx] at rx; cases rx; omega
          · cases hsl; omega
          · cases hsl; omega
          · exact absurd rfl (hns _)
          · cases hsl
        refine ⟨x', w, m, .inl ?_, rx, H, Ext.refl _ _ _, .inl rfl⟩
        rw [F.fits ρ w a sl c 0 (e'.1.trans hxx) (hlen w) hcap, e'.2]
        rw [first0 ry hn esz w, hxx]
        cases a <;> simp [storeCells]
      · cases hs
theorem aapp_sound (H : HRel m h w) {o : Oper} {ρ : Operand → Value} {esz bytes : Nat} {s x v : V} {h' : Heap} (hc : chkApp P o.op esz bytes = true) (hv : VsRel m [s, x] (OV ρ o.op))
    (hs : aapp h esz bytes s x = some (v, h')) : MS P m h w o ρ v h' := by
  obtain ⟨_, _, x', w', m', a, b, c, d, _⟩ := aapp_sound2 H hc hv hs
  exact ⟨x', w', m', a, b, c, d⟩
end
section
variable {P : Program} {m : M} {h : Heap} {w : World}
def keyEq (ks : Option (List Nat)) (a b : V) : Option Bool :=
  match ks, a, b with
  | none, .int k a, .int k' b => bif kbeq k k' then some (ieq a b) else none
  | some ks, .agg l, .agg l' => cmpL ks l l'
  | _, _, _ => none
def keyIs (P : Program) (t : TypeId) : Option (List Nat) → Bool
  | none => leafIs P t 0
  | some ks => seqIs P t ks
def keyFits : Option (List Nat) → V → Bool
  | none, .int _ _ => true
  | some ks, .agg l => Nat.beq l.length ks.length
  | _, _ => false
def mfind (ks : Option (List Nat)) (key : V) : List (V × V × Nat) → Nat → Option (Option (Nat × V))
  | [], _ => some none
  | (k, v, _) :: es, i => match keyEq ks key k with
    | some true => some (some (i, v))
    | some false => mfind ks key es (i + 1)
    | none => none
def EsRel (m : M) : List (V × V × Nat) → List MapEntry → Prop
  | [], es' => es' = []
  | (k, v, n) :: es, es' => ∃ e r, es' = e :: r ∧ VRel m k e.key ∧ VRel m v e.val ∧ e.born = n ∧ EsRel m es r
def RO (m : M) : Option (Nat × V) → Option (Nat × Value) → Prop
  | none, r => r = none
  | some (i, v), r => ∃ x, r = some (i, x) ∧ VRel m v x
theorem EsRel.of_get : ∀ (es : List (V × V × Nat)) (es' : List MapEntry), es'.length = es.length → (∀ (i : Nat) k v n, es[i]? = some (k, v, n) → ∃ e : MapEntry, es'[i]? = some e ∧ VRel m k e.key ∧ VRel m v e.val ∧ e.born = n) → EsRel m es es'
  | [], es', hl, _ => by cases es' <;> simp_all [EsRel]
  | (k, v, n) :: es, [], hl, _ => by simp at hl
  | (k, v, n) :: es, e :: r, hl, hg => by
    obtain ⟨e', h1, h2⟩ := hg 0 k v n rfl
    simp at h1; subst h1
    exact ⟨e, r, rfl, h2.1, h2.2.1, h2.2.2, EsRel.of_get es r (by simpa using hl) (fun i k v n hi => by simpa using hg (i + 1) k v n (by simpa using hi))⟩
theorem EsRel.length : ∀ {es : List (V × V × Nat)} {es' : List MapEntry}, EsRel m es es' → es'.length = es.length
  | [], _, h => by simp only [EsRel] at h; subst h; rfl
  | (_, _, _) :: _, _, ⟨_, _, rfl, _, _, _, t⟩ => by simp [EsRel.length t]
theorem EsRel.get : ∀ {es : List (V × V × Nat)} {es' : List MapEntry}, EsRel m es es' → ∀ (i : Nat) k v n, es[i]? = some (k, v, n) → ∃ e : MapEntry, es'[i]? = some e ∧ VRel m k e.key ∧ VRel m v e.val ∧ e.born = n
  | [], _, _, i, _, _, _, hi => by simp at hi
  | (_, _, _) :: _, _, ⟨e, _, rfl, h1, h2, h3, t⟩, 0, k, v, n, hi => by
    simp at hi; obtain ⟨rfl, rfl, rfl⟩ := hi; exact ⟨e, rfl, h1, h2, h3⟩
  | (_, _, _) :: _, _, ⟨_, _, rfl, _, _, _, t⟩, i + 1, k, v, n, hi => by simpa using EsRel.get t i k v n (by simpa using hi)
theorem find_int {kk : IntKind} {key : V} {x : Value} (rx : VRel m key x) : ∀ (es : List (V × V × Nat)) (es' : List MapEntry) (i : Nat) (r : Option (Nat × V)), EsRel m es es' →
    mfind none key es i = some r → ∃ r', Instr.findNow (.int kk) x es' i = some r' ∧ RO m r r'
  | [], es', i, r, he, hf => by
    simp only [EsRel] at he; subst he
    simp only [mfind, Option.some.injEq] at hf; subst hf
    exact ⟨none, rfl, rfl⟩
  | (k, v, n) :: es, es', i, r, he, hf => by
    obtain ⟨e, t, rfl, h1, h2, h3, ht⟩ := he
    simp only [mfind] at hf
    cases hk : keyEq none key k with
    | none => rw [hk] at hf; cases hf
    | some b =>
      rw [hk] at hf
      have key1 : Instr.sameNow (.int kk) x e.key = some b := by
        cases key <;> cases k <;> simp only [keyEq] at hk <;> first | (cases hk; done) | skip
        rename_i t1 a t2 b'
        cases hkb : kbeq t1 t2
        · rw [hkb] at hk; cases hk
        · rw [hkb] at hk; simp only [cond_true, Option.some.injEq] at hk
          have := kbeq_eq hkb; subst this
          simp only [VRel] at rx h1
          rw [rx, h1, ← hk, ieq_eq]
          simp [Instr.sameNow]
      cases b
      · simp only [] at hf
        obtain ⟨r', f1, f2⟩ := find_int rx es t (i + 1) r ht hf
        exact ⟨r', by simp only [Instr.findNow, key1]; exact f1, f2⟩
      · simp only [Option.some.injEq] at hf; subst hf
        exact ⟨some (i, e.val), by simp only [Instr.findNow, key1], _, rfl, h2⟩
theorem equal_struct {t : TypeId} {ks : List Nat} (hs : seqIs P t ks = true) {l l' : List V} {x y : Value} {r : Bool} (rx : VRel m (.agg l) x) (ry : VRel m (.agg l') y) (hc : cmpL ks l l' = some r) (w : World) :
    (Op.equal t x y).run P w = .ok r w := by
  unfold seqIs at hs
  split at hs
  · rename_i fields hu
    simp only [Bool.and_eq_true, Bool.not_eq_true'] at hs
    obtain ⟨⟨h1, h2⟩, h3⟩ := hs
    obtain ⟨xs, rfl, rxs⟩ := rx
    obtain ⟨ys, rfl, rys⟩ := ry
    have hfo : P.fieldsOf t = fields := by unfold Program.fieldsOf; rw [hu]
    show (Op.equalIn (9999 + 1) t (.agg (List.toArray xs)) (.agg (List.toArray ys))).run P w = .ok r w
    rw [run_equalIn_struct w 9999 t _ _ (by rw [hfo]; exact hu) h1, hfo]
    exact cmpL_run 9998 ks fields.toList 0 xs ys l l' r h3 (by simpa using rxs) (by simpa using rys) hc
  · cases hs
theorem find_struct {t : TypeId} {ks : List Nat} (hs : seqIs P t ks = true) {key : V} {x : Value} (rx : VRel m key x) (w : World) : ∀ (es : List (V × V × Nat)) (es' : List MapEntry) (i : Nat) (r : Option (Nat × V)), EsRel m es es' →
    mfind (some ks) key es i = some r → ∃ r', (Instr.findAsking t x es' i).run P w = .ok r' w ∧ RO m r r'
  | [], es', i, r, he, hf => by
    simp only [EsRel] at he; subst he
    simp only [mfind, Option.some.injEq] at hf; subst hf
    exact ⟨none, rfl, rfl⟩
  | (k, v, n) :: es, es', i, r, he, hf => by
    obtain ⟨e, u, rfl, h1, h2, h3, ht⟩ := he
    simp only [mfind] at hf
    cases hk : keyEq (some ks) key k with
    | none => rw [hk] at hf; cases hf
    | some b =>
      rw [hk] at hf
      have key1 : (Op.equal t x e.key).run P w = .ok b w := by
        cases key <;> cases k <;> simp only [keyEq] at hk <;> first | (cases hk; done) | skip
        exact equal_struct hs rx h1 hk w
      cases b
      · simp only [] at hf
        obtain ⟨r', f1, f2⟩ := find_struct hs rx w es u (i + 1) r ht hf
        exact ⟨r', by simp [Instr.findAsking, key1, f1], f2⟩
      · simp only [Option.some.injEq] at hf; subst hf
        exact ⟨some (i, e.val), by simp [Instr.findAsking, key1], _, rfl, h2⟩
theorem findKey_run {t : TypeId} {ks : Option (List Nat)} (hs : keyIs P t ks = true) {key : V} {x : Value} (rx : VRel m key x) (w : World) {es : List (V × V × Nat)} {es' : List MapEntry} {r : Option (Nat × V)} (he : EsRel m es es')
    (hf : mfind ks key es 0 = some r) : ∃ r', (Instr.findKey t x es').run P w = .ok r' w ∧ RO m r r' := by
  cases ks with
  | none =>
    simp only [keyIs, leafIs] at hs
    split at hs
    all_goals first | (cases hs; done) | skip
    · rename_i kk _ hu
      obtain ⟨r', f1, f2⟩ := find_int (kk := kk) rx es es' 0 r he hf
      refine ⟨r', ?_, f2⟩
      simp only [Instr.findKey, Sem.run_bind, run_under hu, Result.andThen_ok, f1, Sem.run_pure]
    all_goals (rename_i h0 _; cases h0)
  | some ks =>
    simp only [keyIs] at hs
    obtain ⟨r', f1, f2⟩ := find_struct hs rx w es es' 0 r he hf
    have hu : ∃ fields, P.underlying t = some (.struct fields) := by
      unfold seqIs at hs; split at hs
      · exact ⟨_, by assumption⟩
      · cases hs
    obtain ⟨fields, hu⟩ := hu
    cases es' with
    | nil =>
      refine ⟨r', ?_, f2⟩
      have : r' = none := by simp [Instr.findAsking] at f1; exact f1.symm
      subst this
      simp only [Instr.findKey, Sem.run_bind, run_under hu, Result.andThen_ok, Instr.findNow, Sem.run_pure]
    | cons e u =>
      refine ⟨r', ?_, f2⟩
      have hn : Instr.findNow (.struct fields) x (e :: u) 0 = none := by
        simp only [Instr.findNow, Instr.sameNow]
      simp only [Instr.findKey, Sem.run_bind, run_under hu, Result.andThen_ok, hn, f1]
theorem checkKey_leaf {t : TypeId} {k : Nat} (hl : leafIs P t k = true) (e : Bool) (n : Nat) (x : Value) (w : World) : (Instr.checkKey e (n + 1) t x).run P w = .ok () w := by
  unfold leafIs at hl
  split at hl
  all_goals first | (cases hl; done) | skip
  all_goals
    rename_i hu
    simp only [Instr.checkKey, Sem.run_bind, run_under hu, Result.andThen_ok]
    cases x <;> rfl
theorem checkFields {cs : List Value} (e : Bool) (n : Nat) (w : World) : ∀ (ks : List Nat) (fs : List Field) (j : Nat), flatOK P j fs ks = true → j + ks.length ≤ cs.length →
    (forIn (m := Sem) fs PUnit.unit (fun f _ => do
      if f.name ≠ "_" then Instr.checkKey e (n + 1) f.type (← part f.type (List.toArray cs) f.offset)
      pure (ForInStep.yield PUnit.unit))).run P w = .ok PUnit.unit w
  | [], [], j, _, _ => by simp
  | [], _ :: _, _, hf, _ => by simp [flatOK] at hf
  | _ :: _, [], _, hf, _ => by simp [flatOK] at hf
  | k :: ks, f :: fs, j, hf, hl => by
    simp only [flatOK, Bool.and_eq_true, Bool.not_eq_true', beq_eq_false_iff_ne] at hf
    obtain ⟨⟨⟨hname, hoff⟩, hleaf⟩, hrest⟩ := hf
    have hoff := Nat.eq_of_beq_eq_true hoff
    have hagg := leaf_run hleaf
    simp only [List.length_cons] at hl
    have hj : j < cs.length := by omega
    have hp : (part f.type (List.toArray cs) f.offset).run P w = .ok cs[j] w := by
      simp [part, run_agg hagg, hoff, hj]
    have ih := checkFields (cs := cs) e n w ks fs (j + 1) hrest (by omega)
    simp only [List.forIn_cons, Sem.run_bind, hname, ne_eq, not_false_eq_true, if_true, Result.andThen_ok, hp, checkKey_leaf hleaf, Sem.run_pure]
    exact ih
theorem checkKey_run {t : TypeId} {ks : Option (List Nat)} (hs : keyIs P t ks = true) {key : V} {x : Value} (rx : VRel m key x) (hf : keyFits ks key = true) (e : Bool) (w : World) : (Instr.checkKey e 10000 t x).run P w = .ok () w := by
  cases ks with
  | none => exact checkKey_leaf hs e 9999 x w
  | some ks =>
    cases key <;> simp only [keyFits] at hf <;> first | (cases hf; done) | skip
    rename_i l
    have hf := Nat.eq_of_beq_eq_true hf
    obtain ⟨xs, rfl, rxs⟩ := rx
    simp only [keyIs, seqIs] at hs
    split at hs
    · rename_i fields hu
      simp only [Bool.and_eq_true, Bool.not_eq_true'] at hs
      have hx := rxs.length
      show (Instr.checkKey e (9998 + 1 + 1) t _).run P w = _
      rw [Instr.checkKey]
      simp only [Sem.run_bind, run_under hu, Result.andThen_ok]
      rw [← Array.forIn_toList]
      have := checkFields (P := P) (cs := xs) e 9998 w ks fields.toList 0 hs.2 (by omega)
      simp only [ne_eq, Nat.reduceAdd] at this ⊢
      rw [this]; rfl
    · cases hs
end
mutual
def vEq : V → V → Bool
  | .bool a, .bool b => !(xor a b)
  | .int k n, .int k' n' => kbeq k k' && ieq n n'
  | .str s, .str t => s == t
  | .nilp, .nilp => true
  | .ptr b o, .ptr b' o' => Nat.beq b b' && Nat.beq o o'
  | .nils, .nils => true
  | .slice b o l c, .slice b' o' l' c' => Nat.beq b b' && Nat.beq o o' && Nat.beq l l' && Nat.beq c c'
  | .sliceU b o l c, .sliceU b' o' l' c' => Nat.beq b b' && Nat.beq o o' && Nat.beq l l' && Nat.beq c c'
  | .sliceE, .sliceE => true
  | .nilm, .nilm => true
  | .map b, .map b' => Nat.beq b b'
  | .nilf, .nilf => true
  | .func f a c, .func f' a' c' => decide (f = f') && vsEq a a' && vsEq c c'
  | .nili, .nili => true
  | .iface t v, .iface t' v' => Nat.beq t t' && vEq v v'
  | .agg l, .agg l' => vsEq l l'
  | .tup l, .tup l' => vsEq l l'
  | .yld b, .yld b' => Nat.beq b b'
  | .sliceZ a c, .sliceZ a' c' => decide (a = a') && Nat.beq c c'
  | _, _ => false
def vsEq : List V → List V → Bool
  | [], [] => true
  | v :: vs, u :: us => vEq v u && vsEq vs us
  | _, _ => false
end
mutual
theorem vEq_eq : ∀ (a b : V), vEq a b = true → a = b
  | .bool a, b, h => by cases b <;> simp [vEq] at h; rename_i b; cases a <;> cases b <;> simp_all
  | .int k n, b, h => by
    cases b <;> simp [vEq] at h
    rename_i k' n'
    have := kbeq_eq h.1; subst this
    have h2 := h.2; rw [ieq_eq] at h2; simp at h2; subst h2; rfl
  | .str s, b, h => by cases b <;> simp [vEq] at h; subst h; rfl
  | .nilp, b, h => by cases b <;> simp [vEq] at h; rfl
  | .ptr p o, b, h => by cases b <;> simp [vEq] at h; obtain ⟨rfl, rfl⟩ := h; rfl
  | .nils, b, h => by cases b <;> simp [vEq] at h; rfl
  | .slice p o l c, b, h => by cases b <;> simp [vEq] at h; obtain ⟨⟨⟨rfl, rfl⟩, rfl⟩, rfl⟩ := h; rfl
  | .sliceU p o l c, b, h => by cases b <;> simp [vEq] at h; obtain ⟨⟨⟨rfl, rfl⟩, rfl⟩, rfl⟩ := h; rfl
  | .sliceE, b, h => by cases b <;> simp [vEq] at h; rfl
  | .nilm, b, h => by cases b <;> simp [vEq] at h; rfl
  | .map p, b, h => by cases b <;> simp [vEq] at h; subst h; rfl
  | .nilf, b, h => by cases b <;> simp [vEq] at h; rfl
  | .func f x y, b, h => by
    cases b <;> simp only [vEq, Bool.false_eq_true] at h
    simp only [Bool.and_eq_true, decide_eq_true_eq] at h
    obtain ⟨⟨rfl, h1⟩, h2⟩ := h
    rw [vsEq_eq _ _ h1, vsEq_eq _ _ h2]
  | .nili, b, h => by cases b <;> simp [vEq] at h; rfl
  | .iface t v, b, h => by
    cases b <;> simp only [vEq, Bool.false_eq_true] at h
    simp only [Bool.and_eq_true] at h
    rw [Nat.eq_of_beq_eq_true h.1, vEq_eq _ _ h.2]
  | .agg l, b, h => by cases b <;> simp only [vEq, Bool.false_eq_true] at h; rw [vsEq_eq _ _ h]
  | .tup l, b, h => by cases b <;> simp only [vEq, Bool.false_eq_true] at h; rw [vsEq_eq _ _ h]
  | .yld p, b, h => by cases b <;> simp [vEq] at h; subst h; rfl
  | .sliceZ a c, b, h => by cases b <;> simp [vEq] at h; obtain ⟨rfl, rfl⟩ := h; rfl
theorem vsEq_eq : ∀ (a b : List V), vsEq a b = true → a = b
  | [], [], _ => rfl
  | [], _ :: _, h => by simp [vsEq] at h
  | _ :: _, [], h => by simp [vsEq] at h
  | v :: vs, u :: us, h => by
    simp only [vsEq, Bool.and_eq_true] at h
    rw [vEq_eq v u h.1, vsEq_eq vs us h.2]
end
section
variable {P : Program} {m : M} {h : Heap} {w : World}
def scal : V → Bool
  | .int _ _ => true
  | .bool _ => true
  | .str _ => true
  | _ => false
def keyOK : Option (List Nat) → V → Bool
  | some ks, .agg l => Nat.beq l.length ks.length && l.all scal
  | ks, v => keyFits ks v
theorem keyOK_fits {ks : Option (List Nat)} {v : V} (h : keyOK ks v = true) : keyFits ks v = true := by
  unfold keyOK at h
  split at h
  · simp only [Bool.and_eq_true] at h; exact h.1
  · exact h
theorem scal_same {v : V} {x y : Value} (hs : scal v = true) (rx : VRel m v x) (ry : VRel m v y) (n : Nat) : x = y ∧ Instr.sameBits n x y = true := by
  cases v <;> simp only [scal] at hs <;> first | (cases hs; done) | skip
  all_goals
    simp only [VRel] at rx ry
    subst rx; subst ry
    refine ⟨rfl, ?_⟩
    cases n <;> simp [Instr.sameBits, beq_toListBytes]
theorem scals_same (n : Nat) : ∀ (l : List V) (xs ys : List Value), l.all scal = true → VsRel m l xs → VsRel m l ys → xs = ys ∧ ((xs.zip ys).all fun p => Instr.sameBits n p.1 p.2) = true
  | [], xs, ys, _, hx, hy => by simp only [VsRel] at hx hy; subst hx; subst hy; exact ⟨rfl, rfl⟩
  | v :: l, xs, ys, hs, ⟨x, xs', e1, r1, t1⟩, ⟨y, ys', e2, r2, t2⟩ => by
    subst e1; subst e2
    simp only [List.all_cons, Bool.and_eq_true] at hs
    obtain ⟨a, b⟩ := scal_same hs.1 r1 r2 n
    obtain ⟨c, d⟩ := scals_same n l xs' ys' hs.2 t1 t2
    exact ⟨by rw [a, c], by simp only [List.zip_cons_cons, List.all_cons, b, d]; rfl⟩
theorem key_same {ks : Option (List Nat)} {v : V} {x y : Value} (hk : keyOK ks v = true) (rx : VRel m v x) (ry : VRel m v y) : Instr.sameBits 10000 x y = true := by
  unfold keyOK at hk
  split at hk
  · rename_i ks l
    simp only [Bool.and_eq_true] at hk
    obtain ⟨xs, rfl, rxs⟩ := rx
    obtain ⟨ys, rfl, rys⟩ := ry
    obtain ⟨a, b⟩ := scals_same 9999 l xs ys hk.2 rxs rys
    subst a
    show Instr.sameBits (9999 + 1) _ _ = true
    simp only [Instr.sameBits, Bool.and_eq_true]
    exact ⟨by simp, by simpa using b⟩
  · rename_i hnot
    unfold keyFits at hk
    split at hk
    · exact (scal_same rfl rx ry 10000).2
    · rename_i ks l; exact absurd rfl (hnot ks l rfl)
    · cases hk
noncomputable def hmap (h : Heap) : Heap := ⟨h.bl.set h.next (.mp [] 0), h.next + 1, h.fams, h.tys⟩
theorem HRel.allocM (H : HRel m h w) : HRel (mset m h.next ⟨w.heap.size, 0, 0, none⟩) (hmap h) (w.alloc (.map #[] 0)) ∧ Ext m h w (mset m h.next ⟨w.heap.size, 0, 0, none⟩) (hmap h) (w.alloc (.map #[] 0)) := by
  have hle := H.le_mset ⟨w.heap.size, 0, 0, none⟩
  refine H.up rfl ⟨⟨⟨?_, ?_⟩, ?_, ?_, ?_⟩, ⟨hle, ?_, Nat.le_succ _, ?_, by simp, ?_, rfl, rfl, rfl, Cov.new m _ _ rfl, fun b hb => Kept.of_eq (heap_alloc_old w _ _ hb), lps_mset rfl⟩⟩
  · intro p cp f k hp
    show match h.fams.get f with | none => f = p | some (_, e) => k ≤ e
    rw [hmap, T.get_set] at hp
    by_cases e : p = h.next
    · rw [if_pos e] at hp; cases hp
    · rw [if_neg e] at hp; exact H.wf.fam _ _ _ _ hp
  · intro p hp
    have hp' : h.next + 1 ≤ p := hp
    refine ⟨?_, (H.wf.fresh p (by omega)).2⟩
    rw [hmap, T.get_set_ne _ _ (by omega)]
    exact (H.wf.fresh p (by omega)).1
  · intro p loc hp
    by_cases e : p = h.next
    · subst e
      rw [mset_self] at hp; cases hp
      exact ⟨.mp [] 0, by rw [hmap, T.get_set_self], [], heap_alloc_new w _, rfl, fun i k v n hi => by simp at hi⟩
    · rw [mset_ne _ _ e] at hp
      obtain ⟨b, hb, r⟩ := H.blk p loc hp
      refine ⟨b, by rw [hmap, T.get_set_ne _ _ e]; exact hb, r.mono hle (fun _ _ _ _ x => x) (heap_alloc_old w _ _ (H.inb p loc hp))⟩
  · intro p loc hp
    by_cases e : p = h.next
    · subst e; rw [mset_self] at hp; cases hp; simp
    · rw [mset_ne _ _ e] at hp; have := H.inb p loc hp; simp; omega
  · intro p q lp lq hp hq he hne
    by_cases e : p = h.next
    · subst e
      rw [mset_self] at hp; cases hp
      rw [mset_ne _ _ (Ne.symm hne)] at hq
      have := H.inb q lq hq
      simp only [] at he; omega
    · rw [mset_ne _ _ e] at hp
      by_cases e2 : q = h.next
      · subst e2
        rw [mset_self] at hq; cases hq
        have := H.inb p lp hp
        simp only [] at he; omega
      · rw [mset_ne _ _ e2] at hq
        obtain ⟨cp, cq, f, kp, kq, a, b, d⟩ := H.sep p q lp lq hp hq he hne
        exact ⟨cp, cq, f, kp, kq, by rw [hmap, T.get_set_ne _ _ e]; exact a, by rw [hmap, T.get_set_ne _ _ e2]; exact b, d⟩
  · intro p loc hp hn
    by_cases e : p = h.next
    · subst e; rw [mset_self] at hp; cases hp; exact ⟨Nat.le_refl _, .inl (Nat.le_refl _)⟩
    · rw [mset_ne _ _ e] at hp; rw [hp] at hn; cases hn
  · intro p _ hp
    rw [hmap, T.get_set_ne _ _ (by omega)]
  · intro b _ hb
    exact heap_alloc_old w _ _ hb
noncomputable def hsetM (h : Heap) (b : Nat) (es : List (V × V × Nat)) (clock : Nat) : Heap := ⟨h.bl.set b (.mp es clock), h.next, h.fams, h.tys⟩
theorem HRel.setM (H : HRel m h w) {b : Nat} {loc : Loc} (hm : m b = some loc) {es0 : List (V × V × Nat)} {c0 : Nat} (hb : h.bl.get b = some (.mp es0 c0)) {es : List (V × V × Nat)} {es' : List MapEntry} (clock : Nat) (he : EsRel m es es') :
    HRel m (hsetM h b es clock) { w with heap := w.heap.setIfInBounds loc.block (.map (List.toArray es') clock) } ∧
    Ext m h w m (hsetM h b es clock) { w with heap := w.heap.setIfInBounds loc.block (.map (List.toArray es') clock) } := by
  have hin := H.inb b loc hm
  have hother : ∀ p lp, m p = some lp → p ≠ b → lp.block ≠ loc.block := by
    intro p lp hp hne hbl
    obtain ⟨cp, cq, f, kp, kq, a1, a2, _⟩ := H.sep p b lp loc hp hm hbl hne
    rw [hb] at a2; cases a2
  refine H.up rfl ⟨⟨⟨?_, ?_⟩, ?_, ?_, ?_⟩, ⟨fun _ _ x => x, fun p l a c => (by rw [a] at c; cases c), Nat.le_refl _, ?_, by simp, ?_, rfl, rfl, rfl, fun _ _ _ x => x, ?_, fun _ _ a b => by simp [a] at b⟩⟩
  · intro p cp f k hp
    show match h.fams.get f with | none => f = p | some (_, e) => k ≤ e
    rw [hsetM, T.get_set] at hp
    by_cases e : p = b
    · rw [if_pos e] at hp; cases hp
    · rw [if_neg e] at hp; exact H.wf.fam _ _ _ _ hp
  · intro p hp
    have hfr := H.wf.fresh p hp
    have hpb : p ≠ b := by intro e; subst e; rw [hb] at hfr; simp at hfr
    exact ⟨by rw [hsetM, T.get_set_ne _ _ hpb]; exact hfr.1, hfr.2⟩
  · intro p lp hp
    by_cases e : p = b
    · subst e
      rw [hm] at hp; cases hp
      refine ⟨.mp es clock, by rw [hsetM, T.get_set_self], es', by simp [hin], he.length, he.get⟩
    · obtain ⟨bk, hbk, r⟩ := H.blk p lp hp
      refine ⟨bk, by rw [hsetM, T.get_set_ne _ _ e]; exact hbk, r.mono (fun _ _ x => x) (fun _ _ _ _ x => x) ?_⟩
      have := hother p lp hp e
      simp [Array.getElem?_setIfInBounds, Ne.symm this]
  · intro p lp hp
    have := H.inb p lp hp
    simpa using this
  · intro p q lp lq hp hq hbl hne
    obtain ⟨cp, cq, f, kp, kq, a1, a2, a3⟩ := H.sep p q lp lq hp hq hbl hne
    have h1 : p ≠ b := by intro e; subst e; rw [hb] at a1; cases a1
    have h2 : q ≠ b := by intro e; subst e; rw [hb] at a2; cases a2
    exact ⟨cp, cq, f, kp, kq, by rw [hsetM, T.get_set_ne _ _ h1]; exact a1, by rw [hsetM, T.get_set_ne _ _ h2]; exact a2, a3⟩
  · intro p hn hp
    have h1 : p ≠ b := by intro e; subst e; rw [hm] at hn; cases hn
    rw [hsetM, T.get_set_ne _ _ h1]
  · intro k hk hlt
    have := hk b loc hm
    simp [Array.getElem?_setIfInBounds, this]
  · intro g hgl
    by_cases h4 : g = loc.block
    · subst h4
      obtain ⟨bk, hbk, rel⟩ := H.blk b loc hm
      rw [hb] at hbk; cases hbk
      obtain ⟨es1, he1, _⟩ := rel
      intro x hx
      rw [he1] at hx; cases hx
      exact ⟨.map (List.toArray es') clock, by simp [hin], trivial⟩
    · exact Kept.of_eq (by simp [Array.getElem?_setIfInBounds, Ne.symm h4])
noncomputable def amm (h : Heap) : List V → Option (V × Heap)
  | [] => some (.map h.next, hmap h)
  | [.int _ _] => some (.map h.next, hmap h)
  | _ => none
def chkMM (P : Program) (op : Op) : Bool := match op with
  | .makeMap t _ => (match P.underlying t with | some (.map _ _) => true | _ => false)
  | _ => false
theorem amm_sound (H : HRel m h w) {o : Oper} {ρ : Operand → Value} {vs : List V} {v : V} {h' : Heap} (hc : chkMM P o.op = true) (hv : VsRel m vs (OV ρ o.op)) (hs : amm h vs = some (v, h')) : MS P m h w o ρ v h' := by
  unfold chkMM at hc
  split at hc
  · rename_i t r hy
    split at hc
    · rename_i kt et hu
      obtain ⟨H', E'⟩ := H.allocM
      rw [hy] at hv
      have run : ∀ q : Option Value, (∀ y, q = some y → ∃ k n, y = .int k n) → (Instr.makeMap t q).run P w = .ok (.map (some w.heap.size)) (w.alloc (.map #[] 0)) := by
        intro q hq
        cases q with
        | none => simp [Instr.makeMap]
        | some y =>
          obtain ⟨k, n, rfl⟩ := hq y rfl
          simp [Instr.makeMap, run_under hu, asInt, asIntOf]
      have go : (∀ y, r.map ρ = some y → ∃ k n, y = .int k n) → v = .map h.next → h' = hmap h → MS P m h w o ρ v h' := by
        rintro hq rfl rfl
        refine ⟨_, _, _, .inl ?_, ⟨_, mset_self _ _ _, rfl⟩, H', E'⟩
        simp [execOp, hy, run _ hq]
      unfold amm at hs
      split at hs
      · cases hs
        refine go (fun y hq => ?_) rfl rfl
        cases r with
        | none => cases hq
        | some a => simp [OV, Op.operands, VsRel] at hv
      · rename_i k n
        cases hs
        refine go (fun y hq => ?_) rfl rfl
        cases r with
        | none => cases hq
        | some a =>
          obtain ⟨x, e, rx⟩ := one_of hv
          simp [OV, Op.operands] at e
          simp at hq
          simp only [VRel] at rx
          exact ⟨k, n, by rw [← hq, e, rx]⟩
      · cases hs
    · cases hc
  · cases hc
def zeroV (P : Program) (t : TypeId) (z : V) : Bool := match P.info? t with
  | some i => match i.zero with
    | some x => vis z x
    | none => false
  | none => false
theorem run_zeroV {t : TypeId} {z : V} (hz : zeroV P t z = true) (w : World) : ∃ x, (zeroValue t).run P w = .ok x w ∧ VRel m z x := by
  unfold zeroV at hz
  split at hz
  · rename_i i hi
    split at hz
    · rename_i x hx
      exact ⟨x, by simp [zeroValue, run_info hi, hx], vis_rel m _ _ hz⟩
    · cases hz
  · cases hz
noncomputable def entsOf (h : Heap) : V → Option (List (V × V × Nat))
  | .nilm => some []
  | .map b => match h.bl.get b with
    | some (.mp es _) => some es
    | _ => none
  | _ => none
noncomputable def alk (h : Heap) (ks : Option (List Nat)) (zero : V) (ok : Bool) (x key : V) : Option V :=
  match entsOf h x with
  | some es => bif keyOK ks key then
      match mfind ks key es 0 with
      | some (some (_, v)) => some (bif ok then .tup [v, .bool true] else v)
      | some none => some (bif ok then .tup [zero, .bool false] else zero)
      | none => none
    else none
  | none => none
def chkLk (P : Program) (op : Op) (ks : Option (List Nat)) (zero : V) (ok : Bool) : Bool := match op with
  | .lookup t _ _ ok' => (ok == ok') && (match P.underlying t with | some (.map k e) => keyIs P k ks && zeroV P e zero | _ => false)
  | _ => false
theorem alk_sound (H : HRel m h w) {o : Oper} {ρ : Operand → Value} {ks : Option (List Nat)} {zero : V} {ok : Bool} {x key v : V} (hc : chkLk P o.op ks zero ok = true) (hv : VsRel m [x, key] (OV ρ o.op))
    (hs : alk h ks zero ok x key = some v) : MS P m h w o ρ v h := by
  unfold chkLk at hc
  split at hc
  · rename_i t a b ok' hy
    simp only [Bool.and_eq_true, beq_iff_eq] at hc
    obtain ⟨hok, hc⟩ := hc
    subst hok
    split at hc
    · rename_i kt et hu
      simp only [Bool.and_eq_true] at hc
      obtain ⟨hk, hz⟩ := hc
      obtain ⟨x', y', e', rx, ry⟩ := two_of hv
      rw [hy] at e'; change [ρ a, ρ b] = [x', y'] at e'; simp only [List.cons.injEq, and_true] at e'
      unfold alk at hs
      split at hs
      · rename_i es hes
        cases hkf : keyOK ks key
        · rw [hkf] at hs; cases hs
        · rw [hkf] at hs; simp only [cond_true] at hs
          have hck := fun e => checkKey_run (P := P) hk ry (keyOK_fits hkf) e w
          obtain ⟨zx, hzx, rz⟩ := run_zeroV (m := m) hz w
          have main : ∀ es' : List MapEntry, EsRel m es es' → (∀ r', (Instr.findKey kt y' es').run P w = .ok r' w → (Instr.lookup t x' y' ok).run P w = .ok (match r' with
              | some (_, u) => if ok then .tuple #[u, .bool true] else u
              | none => if ok then .tuple #[zx, .bool false] else zx) w) → MS P m h w o ρ v h := by
            intro es' he hrun
            cases hf : mfind ks key es 0 with
            | none => rw [hf] at hs; cases hs
            | some r =>
              rw [hf] at hs
              obtain ⟨r', f1, f2⟩ := findKey_run hk ry w he hf
              have hl := hrun r' f1
              cases r with
              | none =>
                simp only [RO] at f2; subst f2
                simp only [Option.some.injEq] at hs; subst hs
                refine ⟨if ok then .tuple #[zx, .bool false] else zx, w, m, .inl ?_, ?_, H, Ext.refl _ _ _⟩
                · simp [execOp, hy, e'.1, e'.2, hl]
                · cases ok
                  · exact rz
                  · exact ⟨[zx, .bool false], rfl, zx, _, rfl, rz, _, _, rfl, rfl, rfl⟩
              | some p =>
                obtain ⟨i, u⟩ := p
                obtain ⟨ux, rfl, ru⟩ := f2
                simp only [Option.some.injEq] at hs; subst hs
                refine ⟨if ok then .tuple #[ux, .bool true] else ux, w, m, .inl ?_, ?_, H, Ext.refl _ _ _⟩
                · simp [execOp, hy, e'.1, e'.2, hl]
                · cases ok
                  · exact ru
                  · exact ⟨[ux, .bool true], rfl, ux, _, rfl, ru, _, _, rfl, rfl, rfl⟩
          unfold entsOf at hes
          split at hes
          · cases hes
            simp only [VRel] at rx; subst rx
            refine main [] rfl (fun r' hr => ?_)
            simp only [Instr.lookup, Sem.run_bind, run_under hu, Result.andThen_ok, Sem.run_pure, hck, hr]
            cases r' with
            | none => simp [hzx]
            | some p => simp
          · rename_i b'
            split at hes
            · rename_i es1 cl hb
              cases hes
              obtain ⟨loc, hm, rfl⟩ := rx
              obtain ⟨bk, hbk, rel⟩ := H.blk b' loc hm
              rw [hb] at hbk; cases hbk
              obtain ⟨es', g1, g2, g3⟩ := rel
              refine main es' (EsRel.of_get _ _ g2 g3) (fun r' hr => ?_)
              simp only [Instr.lookup, Sem.run_bind, run_under hu, Result.andThen_ok, Sem.run_pure, Go.MapKept.run_getObj_map g1, hck, hr]
              cases r' with
              | none => simp [hzx]
              | some p => simp
            · cases hes
          · cases hes
      · cases hs
    · cases hc
  · cases hc
noncomputable def amu (h : Heap) (ks : Option (List Nat)) (x key val : V) : Option (V × Heap) :=
  match x with
  | .map b => match h.bl.get b with
    | some (.mp es clock) => bif keyOK ks key then
        match mfind ks key es 0 with
        | some (some (i, _)) => match es[i]? with
          | some (k, _, n) => bif vEq key k then some (.tup [], hsetM h b (es.set i (key, val, n)) clock) else none
          | none => none
        | some none => some (.tup [], hsetM h b (es ++ [(key, val, clock)]) (clock + 1))
        | none => none
      else none
    | _ => none
  | _ => none
def chkMu (P : Program) (op : Op) (ks : Option (List Nat)) : Bool := match op with
  | .mapUpdate t _ _ _ => (match P.underlying t with | some (.map k _) => keyIs P k ks | _ => false)
  | .insert t _ _ _ => (match P.underlying t with | some (.map k _) => keyIs P k ks | _ => false)
  | _ => false
theorem EsRel.append {es es2 : List (V × V × Nat)} {es' es2' : List MapEntry} (a : EsRel m es es') (b : EsRel m es2 es2') : EsRel m (es ++ es2) (es' ++ es2') := by
  induction es generalizing es' with
  | nil => simp only [EsRel] at a; subst a; exact b
  | cons p es ih =>
    obtain ⟨k, v, n⟩ := p
    obtain ⟨e, r, rfl, h1, h2, h3, t⟩ := a
    exact ⟨e, r ++ es2', rfl, h1, h2, h3, ih t⟩
theorem EsRel.set {es : List (V × V × Nat)} {es' : List MapEntry} (a : EsRel m es es') {i : Nat} {k v : V} {n : Nat} {e : MapEntry} (h1 : VRel m k e.key) (h2 : VRel m v e.val) (h3 : e.born = n) : EsRel m (es.set i (k, v, n)) (es'.set i e) := by
  induction es generalizing es' i with
  | nil => simp only [EsRel] at a; subst a; simp [EsRel]
  | cons p es ih =>
    obtain ⟨k0, v0, n0⟩ := p
    obtain ⟨e0, r, rfl, g1, g2, g3, t⟩ := a
    cases i with
    | zero => exact ⟨e, r, rfl, h1, h2, h3, t⟩
    | succ i => exact ⟨e0, r.set i e, rfl, g1, g2, g3, ih t⟩
theorem amu_sound (H : HRel m h w) {o : Oper} {ρ : Operand → Value} {ks : Option (List Nat)} {x key val v : V} {h' : Heap} (hc : chkMu P o.op ks = true) (hv : VsRel m [x, key, val] (OV ρ o.op))
    (hs : amu h ks x key val = some (v, h')) : MS P m h w o ρ v h' := by
  have main : ∀ (t : TypeId) (a b c : Operand), (execOp ρ o).run P w = ((Instr.mapUpdate t (ρ a) (ρ b) (ρ c)).run P w).andThen (fun _ w' => .ok .skip w') → OV ρ o.op = [ρ a, ρ b, ρ c] →
      (∃ kt et, P.underlying t = some (.map kt et) ∧ keyIs P kt ks = true) → MS P m h w o ρ v h' := by
    rintro t a b c hex hops ⟨kt, et, hu, hk⟩
    rw [hops] at hv
    obtain ⟨x', y', z', e', rx, ry, rz⟩ := three_of hv
    simp only [List.cons.injEq, and_true] at e'
    unfold amu at hs
    split at hs
    · rename_i b'
      split at hs
      · rename_i es clock hb
        cases hkf : keyOK ks key
        · rw [hkf] at hs; cases hs
        · rw [hkf] at hs; simp only [cond_true] at hs
          have hck := fun e => checkKey_run (P := P) hk ry (keyOK_fits hkf) e w
          obtain ⟨loc, hm, rfl⟩ := rx
          obtain ⟨bk, hbk, rel⟩ := H.blk b' loc hm
          rw [hb] at hbk; cases hbk
          obtain ⟨es', g1, g2, g3⟩ := rel
          have he := EsRel.of_get _ _ g2 g3
          cases hf : mfind ks key es 0 with
          | none => rw [hf] at hs; cases hs
          | some r =>
            rw [hf] at hs
            obtain ⟨r', f1, f2⟩ := findKey_run hk ry w he hf
            cases r with
            | none =>
              simp only [RO] at f2; subst f2
              simp only [Option.some.injEq, Prod.mk.injEq] at hs
              obtain ⟨rfl, rfl⟩ := hs
              have he' : EsRel m (es ++ [(key, val, clock)]) (es' ++ [{ key := y', val := z', born := clock }]) := he.append ⟨_, _, rfl, ry, rz, rfl, rfl⟩
              obtain ⟨H', E'⟩ := H.setM hm hb (clock + 1) he'
              refine ⟨undef, _, m, .inr ⟨?_, rfl⟩, ⟨[], rfl, rfl⟩, H', E'⟩
              rw [hex, e'.1, e'.2.1, e'.2.2]
              simp only [Instr.mapUpdate, Sem.run_bind, run_under hu, Result.andThen_ok, Go.MapKept.run_getObj_map g1, hck, f1, Go.MapKept.run_setObj_map _ g1, List.push_toArray]
            | some p =>
              obtain ⟨i, u⟩ := p
              obtain ⟨ux, rfl, ru⟩ := f2
              simp only [] at hs
              split at hs
              · rename_i k0 v0 n0 hi
                cases hq : vEq key k0
                · rw [hq] at hs; cases hs
                · rw [hq] at hs; simp only [cond_true, Option.some.injEq, Prod.mk.injEq] at hs
                  obtain ⟨rfl, rfl⟩ := hs
                  have := vEq_eq _ _ hq; subst this
                  obtain ⟨e0, q1, q2, q3, q4⟩ := he.get i _ _ _ hi
                  have hsb := key_same hkf q2 ry
                  have he' : EsRel m (es.set i (key, val, n0)) (es'.set i { e0 with key := y', val := z' }) := he.set ry rz q4
                  obtain ⟨H', E'⟩ := H.setM hm hb clock he'
                  refine ⟨undef, _, m, .inr ⟨?_, rfl⟩, ⟨[], rfl, rfl⟩, H', E'⟩
                  rw [hex, e'.1, e'.2.1, e'.2.2]
                  have hmod : (List.toArray es').modify i (fun e => { e with key := y', val := z' }) = List.toArray (es'.set i { e0 with key := y', val := z' }) := by
                    apply Array.ext_getElem?
                    intro j
                    rw [Array.getElem?_modify]
                    simp only [List.getElem?_toArray, List.getElem?_set]
                    by_cases c : i = j
                    · subst c
                      have hlt : i < es'.length := (List.getElem?_eq_some_iff.1 q1).1
                      have hg : es'[i] = e0 := by rw [List.getElem?_eq_getElem hlt] at q1; exact Option.some.inj q1
                      simp [hlt, hg]
                    · simp [c]
                  have hget : (List.toArray es')[i]? = some e0 := by simpa using q1
                  simp only [Instr.mapUpdate, Sem.run_bind, run_under hu, Result.andThen_ok, Go.MapKept.run_getObj_map g1, hck, f1, hget, Option.map_some, Option.getD_some, Instr.keyThatStays, hsb, if_true, Sem.run_pure, hmod, Go.MapKept.run_setObj_map _ g1]
              · cases hs
      · cases hs
    · cases hs
  unfold chkMu at hc
  split at hc
  · rename_i t a b c hy
    split at hc
    · rename_i kt et hu
      refine main t a b c ?_ (by rw [hy]; rfl) ⟨kt, et, hu, hc⟩
      simp [execOp, hy]
    · cases hc
  · rename_i t a b c hy
    split at hc
    · rename_i kt et hu
      refine main t a b c ?_ (by rw [hy]; rfl) ⟨kt, et, hu, hc⟩
      simp [execOp, hy]
    · cases hc
  · cases hc
end
section
variable {P : Program} {m : M} {h : Heap} {w : World}
noncomputable def aclr (h : Heap) (zero : List V) (d : V) : Option (V × Heap) :=
  match d with
  | .nils => some (.tup [], h)
  | .sliceE => some (.tup [], h)
  | .slice b o n _ => bif Nat.beq n 0 then some (.tup [], h) else (hstore h b o (repL zero n)).map fun h' => (.tup [], h')
  | .sliceU b o n _ => bif Nat.beq n 0 then some (.tup [], h) else (hstore h b o (repL zero n)).map fun h' => (.tup [], h')
  | _ => none
def chkClr (P : Program) (op : Op) (zero : List V) : Bool := match callOf op .clear with
  | some (args, ts) => Nat.beq args.size 1 && (match ts[0]? with
    | some t => (match P.underlying t with | some (.slice e) => zeroIs P e zero | _ => false)
    | none => false)
  | none => false
theorem one_arg' {op : Op} {b : Builtin} {args : Array Operand} {ts : Array TypeId} (hcl : callOf op b = some (args, ts)) (h : args.size = 1) : ∃ x, op = .call { callee := .builtin b, args := #[x], argTypes := ts } := by
  unfold callOf at hcl
  split at hcl
  · rename_i b' args' ts'
    split at hcl
    · rename_i hb
      subst hb
      simp only [Option.some.injEq, Prod.mk.injEq] at hcl
      obtain ⟨rfl, rfl⟩ := hcl
      obtain ⟨l⟩ := args'
      match l, h with
      | [x], _ => exact ⟨x, rfl⟩
    · cases hcl
  · cases hcl
theorem aclr_sound (H : HRel m h w) {o : Oper} {ρ : Operand → Value} {zero : List V} {d v : V} {h' : Heap} (hc : chkClr P o.op zero = true) (hv : VsRel m [d] (OV ρ o.op))
    (hs : aclr h zero d = some (v, h')) : MS P m h w o ρ v h' := by
  unfold chkClr at hc
  split at hc
  · rename_i args ts hcl
    simp only [Bool.and_eq_true] at hc
    obtain ⟨hsz, ht⟩ := hc
    split at ht
    · rename_i t hts
      split at ht
      · rename_i e hu
        obtain ⟨x, hy⟩ := one_arg' hcl (Nat.eq_of_beq_eq_true hsz)
        obtain ⟨x', e', rx⟩ := one_of hv
        rw [hy] at e'; change [ρ x] = [x'] at e'; simp only [List.cons.injEq, and_true] at e'
        obtain ⟨z, hz, hvz⟩ := run_zero (w := w) ht
        have rz : VsRel m zero z.cells.toList := vsis_rel m _ _ hvz
        have hgo : (execOp ρ o).run P w = ((Builtin.clear_ ts o.type #[x']).run P w).andThen fun y w' => .ok (.value y) w' := by
          simp only [execOp, hy, resolve, invoke, builtin, Sem.run_bind, Sem.run_pure, Result.andThen_ok, List.map_toArray, List.map_cons, List.map_nil, e']
        have nop : (∃ c, x' = .slice none 0 c) ∨ (∃ a c, x' = .slice a 0 c) → v = .tup [] → h' = h → MS P m h w o ρ v h' := by
          rintro hx rfl rfl
          refine ⟨.tuple #[], w, m, .inl ?_, ⟨[], rfl, rfl⟩, H, Ext.refl _ _ _⟩
          rw [hgo]
          rcases hx with ⟨c, rfl⟩ | ⟨a, c, rfl⟩
          · simp [Builtin.clear_, hts, run_under hu]
          · cases a <;> simp [Builtin.clear_, hts, run_under hu]
        have st : ∀ b k n c loc, m b = some loc → x' = .slice (some ⟨loc.block, loc.base + k, none⟩) n c → (bif Nat.beq n 0 then some (V.tup [], h) else (hstore h b k (repL zero n)).map fun h' => (V.tup [], h')) = some (v, h') → MS P m h w o ρ v h' := by
          intro b k n c loc hm hx hst
          cases hb : Nat.beq n 0
          · rw [hb] at hst; simp only [cond_false] at hst
            cases hst' : hstore h b k (repL zero n) with
            | none => rw [hst'] at hst; cases hst
            | some h2 =>
              rw [hst'] at hst; simp only [Option.map_some, Option.some.injEq, Prod.mk.injEq] at hst
              obtain ⟨rfl, rfl⟩ := hst
              have rel := zeros_rel rz n
              obtain ⟨w', hrun, H', E'⟩ := H.store P hm hst' rel
              refine ⟨.tuple #[], w', m, .inl ?_, ⟨[], rfl, rfl⟩, H', E'⟩
              rw [hgo, hx]
              have hn : n ≠ 0 := by intro q; subst q; cases hb
              obtain ⟨n', rfl⟩ := Nat.exists_eq_succ_of_ne_zero hn
              simp only [Builtin.clear_, hts, Sem.run_bind, run_under hu, Result.andThen_ok, List.getElem?_toArray, List.getElem?_cons_zero, hz, Builtin.zeroCells, Sem.run_pure]
              have e1 : z.cells.size = z.cells.toList.length := by simp
              rw [e1, show z.cells = z.cells.toList.toArray by simp]
              simp only [List.size_toArray] at hrun ⊢
              rw [hrun]; rfl
          · rw [hb] at hst; simp only [cond_true, Option.some.injEq, Prod.mk.injEq] at hst
            have := Nat.eq_of_beq_eq_true hb; subst this
            exact nop (.inr ⟨_, _, hx⟩) hst.1.symm hst.2.symm
        unfold aclr at hs
        split at hs
        · cases hs; exact nop (.inl ⟨0, rx⟩) rfl rfl
        · cases hs; obtain ⟨a, c, hx⟩ := rx; exact nop (.inr ⟨_, _, hx⟩) rfl rfl
        · obtain ⟨loc, hm, _, hx⟩ := rx; exact st _ _ _ _ loc hm hx hs
        · obtain ⟨loc, hm, _, hx⟩ := rx; exact st _ _ _ _ loc hm hx hs
        · cases hs
      · cases ht
    · cases ht
  · cases hc
end
section
variable {P : Program} {m : M} {h : Heap} {w : World}
def bytesOf : List V → Option (List UInt8)
  | [] => some []
  | .int .u8 n :: l => match bytesOf l with
    | some s => some (UInt8.ofNat n.toNat :: s)
    | none => none
  | _ => none
noncomputable def ab2s (h : Heap) (x : V) : Option V :=
  match x with
  | .nils => some (.str [])
  | .slice b o n _ => match hload h b o n with
    | some cs => (bytesOf cs).map .str
    | none => none
  | .sliceU b o n _ => match hload h b o n with
    | some cs => (bytesOf cs).map .str
    | none => none
  | _ => none
def chkB2s (P : Program) (op : Op) : Bool := match op with
  | .convert src dst _ => (match P.underlying src, P.underlying dst with
    | some (.slice e), some .string => (match P.underlying e with | some (.int .u8) => true | _ => false)
    | _, _ => false)
  | _ => false
theorem bytesOf_rel : ∀ (l : List V) (s : List UInt8) (xs : List Value), bytesOf l = some s → VsRel m l xs → ∃ ns : List Int, xs = ns.map (Value.int .u8) ∧ s = ns.map fun n => UInt8.ofNat n.toNat
  | [], s, xs, hb, r => by
    simp only [bytesOf, Option.some.injEq] at hb; subst hb
    simp only [VsRel] at r; subst r
    exact ⟨[], rfl, rfl⟩
  | v :: l, s, xs, hb, r => by
    unfold bytesOf at hb
    split at hb
    · rename_i q; cases q
    · rename_i n l' q
      cases q
      obtain ⟨x, xs', rfl, rx, rt⟩ := r
      split at hb
      · rename_i s' hs'
        cases hb
        obtain ⟨ns, h1, h2⟩ := bytesOf_rel l s' xs' hs' rt
        simp only [VRel] at rx
        exact ⟨n :: ns, by rw [rx, h1]; rfl, by rw [h2]; rfl⟩
      · cases hb
    · cases hb
theorem fold_push : ∀ (ns : List Int) (s : ByteArray), ns.foldl (fun r n => r.push (UInt8.ofNat n.toNat)) s = ⟨s.data ++ (ns.map fun n => UInt8.ofNat n.toNat).toArray⟩
  | [], s => by simp
  | n :: ns, s => by
    rw [List.foldl_cons, fold_push ns]
    congr 1
    simp [ByteArray.push]
theorem ab2s_sound (H : HRel m h w) {o : Oper} {ρ : Operand → Value} {x v : V} (hc : chkB2s P o.op = true) (hv : VsRel m [x] (OV ρ o.op)) (hs : ab2s h x = some v) : MS P m h w o ρ v h := by
  unfold chkB2s at hc
  split at hc
  · rename_i src dst a hy
    split at hc
    · rename_i e hsrc hdst
      split at hc
      · rename_i he
        obtain ⟨x', e', rx⟩ := one_of hv
        rw [hy] at e'; change [ρ a] = [x'] at e'; simp only [List.cons.injEq, and_true] at e'
        have hgo : ∀ b l c, x' = .slice b l c → (execOp ρ o).run P w = ((Conv.bytesToString (.slice b l c)).run P w).andThen fun y w' => .ok (.value y) w' := by
          intro b l c hx
          simp only [execOp, hy, e', hx, Sem.run_bind, run_convert_bytes_string w src dst e b l c hsrc he hdst, Sem.run_pure]
        have main : ∀ b k n cs c loc, m b = some loc → x' = .slice (some ⟨loc.block, loc.base + k, none⟩) n c → hload h b k n = some cs → (bytesOf cs).map V.str = some v → MS P m h w o ρ v h := by
          intro b k n cs c loc hm hx hl hb
          obtain ⟨xs, h1, h2, h3⟩ := H.load P hm hl
          cases hbo : bytesOf cs with
          | none => rw [hbo] at hb; cases hb
          | some s =>
            rw [hbo] at hb; simp only [Option.map_some, Option.some.injEq] at hb; subst hb
            obtain ⟨ns, q1, q2⟩ := bytesOf_rel cs s xs hbo h2
            rw [q1] at h1
            refine ⟨.string ⟨s.toArray⟩, w, m, .inl ?_, ?_, H, Ext.refl _ _ _⟩
            · rw [hgo _ _ _ hx, run_bytesToString w _ n c ns h1, fold_push, ← q2]
              show Result.ok (Next.value (.string ⟨#[] ++ s.toArray⟩)) w = _
              rw [Array.empty_append]
            · simp only [VRel]
        unfold ab2s at hs
        split at hs
        · cases hs
          simp only [VRel] at rx
          refine ⟨.string .empty, w, m, .inl ?_, ?_, H, Ext.refl _ _ _⟩
          · rw [hgo _ _ _ rx]; rfl
          · simp only [VRel]; rfl
        · split at hs
          · rename_i cs hl
            obtain ⟨loc, hm, _, hx⟩ := rx
            exact main _ _ _ _ _ loc hm hx hl hs
          · cases hs
        · split at hs
          · rename_i cs hl
            obtain ⟨loc, hm, _, hx⟩ := rx
            exact main _ _ _ _ _ loc hm hx hl hs
          · cases hs
        · cases hs
      · cases hc
    · cases hc
  · cases hc
end
variable {P : Program} {m : M} {h : Heap} {w : World}
noncomputable def hsi (h : Heap) (z : List UInt8) : Heap := ⟨h.bl.set h.next (.si z 0), h.next + 1, h.fams, h.tys⟩
theorem HRel.allocI (H : HRel m h w) (z : List UInt8) : HRel (mset m h.next ⟨w.heap.size, 0, 0, none⟩) (hsi h z) (w.alloc (.stringIter ⟨z.toArray⟩ 0)) ∧ Ext m h w (mset m h.next ⟨w.heap.size, 0, 0, none⟩) (hsi h z) (w.alloc (.stringIter ⟨z.toArray⟩ 0)) := by
  have hle := H.le_mset ⟨w.heap.size, 0, 0, none⟩
  refine H.up rfl ⟨⟨⟨?_, ?_⟩, ?_, ?_, ?_⟩, ⟨hle, ?_, Nat.le_succ _, ?_, by simp, ?_, rfl, rfl, rfl, Cov.new m _ _ rfl, fun b hb => Kept.of_eq (heap_alloc_old w _ _ hb), lps_mset rfl⟩⟩
  · intro p cp f k hp
    show match h.fams.get f with | none => f = p | some (_, e) => k ≤ e
    rw [hsi, T.get_set] at hp
    by_cases e : p = h.next
    · rw [if_pos e] at hp; cases hp
    · rw [if_neg e] at hp; exact H.wf.fam _ _ _ _ hp
  · intro p hp
    have hp' : h.next + 1 ≤ p := hp
    refine ⟨?_, (H.wf.fresh p (by omega)).2⟩
    rw [hsi, T.get_set_ne _ _ (by omega)]
    exact (H.wf.fresh p (by omega)).1
  · intro p loc hp
    by_cases e : p = h.next
    · subst e
      rw [mset_self] at hp; cases hp
      exact ⟨.si z 0, by rw [hsi, T.get_set_self], rfl, heap_alloc_new w _⟩
    · rw [mset_ne _ _ e] at hp
      obtain ⟨b, hb, r⟩ := H.blk p loc hp
      refine ⟨b, by rw [hsi, T.get_set_ne _ _ e]; exact hb, r.mono hle (fun _ _ _ _ x => x) (heap_alloc_old w _ _ (H.inb p loc hp))⟩
  · intro p loc hp
    by_cases e : p = h.next
    · subst e; rw [mset_self] at hp; cases hp; simp
    · rw [mset_ne _ _ e] at hp; have := H.inb p loc hp; simp; omega
  · intro p q lp lq hp hq he hne
    by_cases e : p = h.next
    · subst e
      rw [mset_self] at hp; cases hp
      rw [mset_ne _ _ (Ne.symm hne)] at hq
      have := H.inb q lq hq
      simp only [] at he; omega
    · rw [mset_ne _ _ e] at hp
      by_cases e2 : q = h.next
      · subst e2
        rw [mset_self] at hq; cases hq
        have := H.inb p lp hp
        simp only [] at he; omega
      · rw [mset_ne _ _ e2] at hq
        obtain ⟨cp, cq, f, kp, kq, a, b, d⟩ := H.sep p q lp lq hp hq he hne
        exact ⟨cp, cq, f, kp, kq, by rw [hsi, T.get_set_ne _ _ e]; exact a, by rw [hsi, T.get_set_ne _ _ e2]; exact b, d⟩
  · intro p loc hp hn
    by_cases e : p = h.next
    · subst e; rw [mset_self] at hp; cases hp; exact ⟨Nat.le_refl _, .inl (Nat.le_refl _)⟩
    · rw [mset_ne _ _ e] at hp; rw [hp] at hn; cases hn
  · intro p _ hp
    rw [hsi, T.get_set_ne _ _ (by omega)]
  · intro b _ hb
    exact heap_alloc_old w _ _ hb
noncomputable def hsetI (h : Heap) (b : Nat) (z : List UInt8) (pos : Nat) : Heap := ⟨h.bl.set b (.si z pos), h.next, h.fams, h.tys⟩
theorem HRel.setI (H : HRel m h w) {b : Nat} {loc : Loc} (hm : m b = some loc) {z : List UInt8} {c0 : Nat} (hb : h.bl.get b = some (.si z c0)) (pos : Nat) :
    HRel m (hsetI h b z pos) { w with heap := w.heap.setIfInBounds loc.block (.stringIter ⟨z.toArray⟩ pos) } ∧
    Ext m h w m (hsetI h b z pos) { w with heap := w.heap.setIfInBounds loc.block (.stringIter ⟨z.toArray⟩ pos) } := by
  have hin := H.inb b loc hm
  have hother : ∀ p lp, m p = some lp → p ≠ b → lp.block ≠ loc.block := by
    intro p lp hp hne hbl
    obtain ⟨cp, cq, f, kp, kq, a1, a2, _⟩ := H.sep p b lp loc hp hm hbl hne
    rw [hb] at a2; cases a2
  refine H.up rfl ⟨⟨⟨?_, ?_⟩, ?_, ?_, ?_⟩, ⟨fun _ _ x => x, fun p l a c => (by rw [a] at c; cases c), Nat.le_refl _, ?_, by simp, ?_, rfl, rfl, rfl, fun _ _ _ x => x, ?_, fun _ _ a b => by simp [a] at b⟩⟩
  · intro p cp f k hp
    show match h.fams.get f with | none => f = p | some (_, e) => k ≤ e
    rw [hsetI, T.get_set] at hp
    by_cases e : p = b
    · rw [if_pos e] at hp; cases hp
    · rw [if_neg e] at hp; exact H.wf.fam _ _ _ _ hp
  · intro p hp
    have hfr := H.wf.fresh p hp
    have hpb : p ≠ b := by intro e; subst e; rw [hb] at hfr; simp at hfr
    exact ⟨by rw [hsetI, T.get_set_ne _ _ hpb]; exact hfr.1, hfr.2⟩
  · intro p lp hp
    by_cases e : p = b
    · subst e
      rw [hm] at hp; cases hp
      obtain ⟨bk, hbk, rel⟩ := H.blk p loc hm
      rw [hb] at hbk; cases hbk
      exact ⟨.si z pos, by rw [hsetI, T.get_set_self], rel.1, by show _ = _; simp [hin]⟩
    · obtain ⟨bk, hbk, r⟩ := H.blk p lp hp
      refine ⟨bk, by rw [hsetI, T.get_set_ne _ _ e]; exact hbk, r.mono (fun _ _ x => x) (fun _ _ _ _ x => x) ?_⟩
      have := hother p lp hp e
      simp [Array.getElem?_setIfInBounds, Ne.symm this]
  · intro p lp hp
    have := H.inb p lp hp
    simpa using this
  · intro p q lp lq hp hq hbl hne
    obtain ⟨cp, cq, f, kp, kq, a1, a2, a3⟩ := H.sep p q lp lq hp hq hbl hne
    have h1 : p ≠ b := by intro e; subst e; rw [hb] at a1; cases a1
    have h2 : q ≠ b := by intro e; subst e; rw [hb] at a2; cases a2
    exact ⟨cp, cq, f, kp, kq, by rw [hsetI, T.get_set_ne _ _ h1]; exact a1, by rw [hsetI, T.get_set_ne _ _ h2]; exact a2, a3⟩
  · intro p hn hp
    have h1 : p ≠ b := by intro e; subst e; rw [hm] at hn; cases hn
    rw [hsetI, T.get_set_ne _ _ h1]
  · intro k hk hlt
    have := hk b loc hm
    simp [Array.getElem?_setIfInBounds, this]
  · intro g hgl
    by_cases h4 : g = loc.block
    · subst h4
      obtain ⟨bk, hbk, rel⟩ := H.blk b loc hm
      rw [hb] at hbk; cases hbk
      have he1 : w.heap[loc.block]? = some (.stringIter ⟨z.toArray⟩ c0) := rel.2
      intro x hx
      rw [he1] at hx; cases hx
      exact ⟨.stringIter ⟨z.toArray⟩ pos, by simp [hin], trivial⟩
    · exact Kept.of_eq (by simp [Array.getElem?_setIfInBounds, Ne.symm h4])
noncomputable def ait (h : Heap) (nx : Bool) (x : V) : Option (V × Heap) :=
  bif nx then
    match x with
    | .ptr b 0 => match h.bl.get b with
      | some (.si z pos) => if pos < z.length then some (.tup [.bool true, .int .i64 (pos : Int), .int .i32 ((Utf8.decode ⟨z.toArray⟩ pos).1 : Int)], hsetI h b z (pos + (Utf8.decode ⟨z.toArray⟩ pos).2)) else some (.tup [.bool false], h)
      | _ => none
    | _ => none
  else
    match x with
    | .str z => some (.ptr h.next 0, hsi h z)
    | _ => none
def chkIt (P : Program) (op : Op) (nx : Bool) : Bool := match op with
  | .range t _ => !nx && (match P.underlying t with | some .string => true | _ => false)
  | .next _ s => nx && s
  | _ => false
theorem ait_sound (H : HRel m h w) {o : Oper} {ρ : Operand → Value} {nx : Bool} {x v : V} {h' : Heap} (hc : chkIt P o.op nx = true) (hv : VsRel m [x] (OV ρ o.op)) (hs : ait h nx x = some (v, h')) : MS P m h w o ρ v h' := by
  unfold chkIt at hc
  split at hc
  · rename_i t a hy
    simp only [Bool.and_eq_true, Bool.not_eq_true'] at hc
    obtain ⟨rfl, hc⟩ := hc
    split at hc
    · rename_i hu
      obtain ⟨y, ys, e', ry, rn⟩ := hv
      rw [hy] at e'; change [ρ a] = y :: ys at e'; simp only [List.cons.injEq] at e'
      unfold ait at hs
      simp only [cond_false] at hs
      split at hs
      · rename_i z
        cases hs
        have hx : ρ a = .string ⟨z.toArray⟩ := e'.1.trans ry
        obtain ⟨H', E'⟩ := H.allocI z
        refine ⟨_, _, _, .inl ?_, ⟨_, mset_self _ _ _, rfl⟩, H', E'⟩
        simp [execOp, hy, Instr.range, run_under hu, hx, newObj]
        rfl
      · cases hs
    · cases hc
  · rename_i a s hy
    simp only [Bool.and_eq_true] at hc
    obtain ⟨rfl, rfl⟩ := hc
    obtain ⟨y, ys, e', ry, rn⟩ := hv
    rw [hy] at e'; change [ρ a] = y :: ys at e'; simp only [List.cons.injEq] at e'
    unfold ait at hs
    simp only [cond_true] at hs
    split at hs
    · rename_i b
      obtain ⟨loc, hm, rfl⟩ := ry
      split at hs
      · rename_i z pos hb
        obtain ⟨bk, hbk, rel⟩ := H.blk b loc hm
        rw [hb] at hbk; cases hbk
        have hx : ρ a = .pointer (some ⟨loc.block, 0, none⟩) := by rw [e'.1, rel.1]
        have hz : (⟨z.toArray⟩ : ByteArray).size = z.length := by simp [ByteArray.size]
        split at hs
        · rename_i hlt
          cases hs
          obtain ⟨H', E'⟩ := H.setI hm hb (pos + (Utf8.decode ⟨z.toArray⟩ pos).2)
          refine ⟨_, _, _, .inl ?_, ⟨_, rfl, _, _, rfl, rfl, _, _, rfl, rfl, _, _, rfl, rfl, rfl⟩, H', E'⟩
          have := Go.Lib.run_next_any_at (P := P) w loc.block ⟨z.toArray⟩ pos o.type rel.2 (by rw [hz]; exact hlt)
          simp [execOp, hy, hx, this, World.iterAt]
        · rename_i hlt
          cases hs
          refine ⟨_, _, _, .inl ?_, ⟨_, rfl, _, _, rfl, rfl, rfl⟩, H, Ext.refl _ _ _⟩
          have := Go.Lib.run_next_end_at (P := P) w loc.block ⟨z.toArray⟩ pos o.type rel.2 (by rw [hz]; exact hlt)
          simp [execOp, hy, hx, this]
      · cases hs
    · cases hs
  · cases hc
section
variable {P : Program} {m : M} {h : Heap} {w : World}
def eIdx (n : Nat) : List (V × V × Nat) → Nat → Option Nat
  | [], _ => none
  | (_, _, k) :: es, i => bif Nat.beq k n then some i else eIdx n es (i + 1)
noncomputable def ame (h : Heap) (ks : Option (List Nat)) (zero : V) (st : Bool) (vs : List V) : Option (V × Heap) :=
  match st, vs with
  | false, [.map b, key] => (match h.bl.get b with
    | some (.mp es clock) => bif keyOK ks key then
        match mfind ks key es 0 with
        | some (some (i, _)) => (match es[i]? with
          | some (k, u, n) => bif vEq key k then some (.tup [u, .int .i64 n], hsetM h b (es.set i (key, u, n)) clock) else none
          | none => none)
        | some none => some (.tup [zero, .int .i64 clock], hsetM h b (es ++ [(key, zero, clock)]) (clock + 1))
        | none => none
      else none
    | _ => none)
  | true, [.map b, .int _ (.ofNat n), val] => (match h.bl.get b with
    | some (.mp es clock) => (match eIdx n es 0 with
      | some i => (match es[i]? with
        | some (k, _, n') => some (.tup [], hsetM h b (es.set i (k, val, n')) clock)
        | none => none)
      | none => none)
    | _ => none)
  | _, _ => none
def chkMe (P : Program) (op : Op) (ks : Option (List Nat)) (zero : V) (st : Bool) : Bool := match op with
  | .mapEntry t _ _ => !st && (match P.underlying t with | some (.map k e) => keyIs P k ks && zeroV P e zero | _ => false)
  | .entryStore _ _ _ _ => st
  | _ => false
theorem mfind_get {ks : Option (List Nat)} {key : V} : ∀ (es : List (V × V × Nat)) (j i : Nat) (u : V), mfind ks key es j = some (some (i, u)) → ∃ k n, j ≤ i ∧ es[i - j]? = some (k, u, n)
  | [], j, i, u, h => by simp [mfind] at h
  | (k, v, n) :: es, j, i, u, h => by
    simp only [mfind] at h
    cases hk : keyEq ks key k with
    | none => rw [hk] at h; cases h
    | some b =>
      rw [hk] at h
      cases b
      · obtain ⟨k', n', h1, h2⟩ := mfind_get es (j + 1) i u h
        refine ⟨k', n', by omega, ?_⟩
        rw [show i - j = (i - (j + 1)) + 1 by omega]
        simpa using h2
      · simp only [Option.some.injEq, Prod.mk.injEq] at h
        obtain ⟨rfl, rfl⟩ := h
        exact ⟨k, n, Nat.le_refl _, by simp⟩
theorem eIdx_run {n : Nat} : ∀ (es : List (V × V × Nat)) (es' : List MapEntry) (j i : Nat), EsRel m es es' → eIdx n es j = some i →
    ∃ p, i = j + p ∧ es'.findIdx? (fun e => (e.born : Int) == (n : Int)) = some p
  | [], es', j, i, _, h => by simp [eIdx] at h
  | (k, v, q) :: es, es', j, i, he, h => by
    obtain ⟨e, r, rfl, h1, h2, h3, t⟩ := he
    simp only [eIdx] at h
    cases hq : Nat.beq q n
    · rw [hq] at h; simp only [cond_false] at h
      obtain ⟨p, rfl, hp⟩ := eIdx_run es r (j + 1) i t h
      refine ⟨p + 1, by omega, ?_⟩
      have hne : q ≠ n := Nat.ne_of_beq_eq_false hq
      have : ((e.born : Int) == (n : Int)) = false := beq_eq_false_iff_ne.2 (by rw [h3]; omega)
      rw [List.findIdx?_cons, this, hp]; rfl
    · rw [hq] at h; simp only [cond_true, Option.some.injEq] at h
      subst h
      have := Nat.eq_of_beq_eq_true hq
      refine ⟨0, rfl, ?_⟩
      have : ((e.born : Int) == (n : Int)) = true := beq_iff_eq.2 (by rw [h3]; omega)
      rw [List.findIdx?_cons, this]; rfl
theorem modify_set (es' : List MapEntry) (i : Nat) (e0 : MapEntry) (f : MapEntry → MapEntry) (q1 : es'[i]? = some e0) : (List.toArray es').modify i f = List.toArray (es'.set i (f e0)) := by
  apply Array.ext_getElem?
  intro j
  rw [Array.getElem?_modify]
  simp only [List.getElem?_toArray, List.getElem?_set]
  by_cases c : i = j
  · subst c
    have hlt : i < es'.length := (List.getElem?_eq_some_iff.1 q1).1
    have hg : es'[i] = e0 := by rw [List.getElem?_eq_getElem hlt] at q1; exact Option.some.inj q1
    simp [hlt, hg]
  · simp [c]
theorem ame_sound (H : HRel m h w) {o : Oper} {ρ : Operand → Value} {ks : Option (List Nat)} {zero : V} {st : Bool} {vs : List V} {v : V} {h' : Heap} (hc : chkMe P o.op ks zero st = true) (hv : VsRel m vs (OV ρ o.op))
    (hs : ame h ks zero st vs = some (v, h')) : MS P m h w o ρ v h' := by
  unfold chkMe at hc
  split at hc
  · rename_i t a b hy
    simp only [Bool.and_eq_true, Bool.not_eq_true'] at hc
    obtain ⟨rfl, hc⟩ := hc
    split at hc
    · rename_i kt et hu
      simp only [Bool.and_eq_true] at hc
      obtain ⟨hk, hz⟩ := hc
      unfold ame at hs
      split at hs
      · rename_i b' key _
        obtain ⟨x', y', e', rx, ry⟩ := two_of hv
        rw [hy] at e'; change [ρ a, ρ b] = [x', y'] at e'; simp only [List.cons.injEq, and_true] at e'
        split at hs
        · rename_i es clock hb
          cases hkf : keyOK ks key
          · rw [hkf] at hs; cases hs
          · rw [hkf] at hs; simp only [cond_true] at hs
            have hck := fun e => checkKey_run (P := P) hk ry (keyOK_fits hkf) e w
            obtain ⟨loc, hm, rfl⟩ := rx
            obtain ⟨bk, hbk, rel⟩ := H.blk b' loc hm
            rw [hb] at hbk; cases hbk
            obtain ⟨es', g1, g2, g3⟩ := rel
            have he := EsRel.of_get _ _ g2 g3
            cases hf : mfind ks key es 0 with
            | none => rw [hf] at hs; cases hs
            | some r =>
              rw [hf] at hs
              obtain ⟨r', f1, f2⟩ := findKey_run hk ry w he hf
              cases r with
              | none =>
                simp only [RO] at f2; subst f2
                simp only [Option.some.injEq, Prod.mk.injEq] at hs
                obtain ⟨rfl, rfl⟩ := hs
                obtain ⟨zx, hzx, rz⟩ := run_zeroV (m := m) hz w
                have he' : EsRel m (es ++ [(key, zero, clock)]) (es' ++ [{ key := y', val := zx, born := clock }]) := he.append ⟨_, _, rfl, ry, rz, rfl, rfl⟩
                obtain ⟨H', E'⟩ := H.setM hm hb (clock + 1) he'
                refine ⟨.tuple #[zx, goInt clock], _, m, .inl ?_, ⟨[zx, goInt clock], rfl, zx, _, rfl, rz, _, _, rfl, rfl, rfl⟩, H', E'⟩
                simp only [execOp, hy, e'.1, e'.2]
                simp only [Instr.mapEntry, Sem.run_bind, run_under hu, Result.andThen_ok, Go.MapKept.run_getObj_map g1, hck, f1, hzx, Go.MapKept.run_setObj_map _ g1, List.push_toArray, Sem.run_pure]
              | some p =>
                obtain ⟨i, u⟩ := p
                obtain ⟨ux, rfl, ru⟩ := f2
                simp only [] at hs
                split at hs
                · rename_i k0 v0 n0 hi
                  cases hq : vEq key k0
                  · rw [hq] at hs; cases hs
                  · rw [hq] at hs; simp only [cond_true, Option.some.injEq, Prod.mk.injEq] at hs
                    obtain ⟨rfl, rfl⟩ := hs
                    have := vEq_eq _ _ hq; subst this
                    obtain ⟨k1, n1, _, hu1⟩ := mfind_get es 0 i u hf
                    rw [Nat.sub_zero, hi] at hu1; cases hu1
                    obtain ⟨e0, q1, q2, q3, q4⟩ := he.get i _ _ _ hi
                    have hsb := key_same hkf q2 ry
                    have he' : EsRel m (es.set i (key, u, n0)) (es'.set i { e0 with key := y' }) := he.set ry q3 q4
                    obtain ⟨H', E'⟩ := H.setM hm hb clock he'
                    have hget : (List.toArray es')[i]? = some e0 := by simpa using q1
                    refine ⟨.tuple #[ux, goInt n0], _, m, .inl ?_, ⟨[ux, goInt n0], rfl, ux, _, rfl, ru, _, _, rfl, rfl, rfl⟩, H', E'⟩
                    simp only [execOp, hy, e'.1, e'.2]
                    simp only [Instr.mapEntry, Sem.run_bind, run_under hu, Result.andThen_ok, Go.MapKept.run_getObj_map g1, hck, f1, hget, Option.map_some, Option.getD_some, Instr.keyThatStays, hsb, if_true, Sem.run_pure, modify_set es' i e0 _ q1, Go.MapKept.run_setObj_map _ g1, q4]
                · cases hs
        · cases hs
      · simp_all
      · cases hs
    · cases hc
  · rename_i t a b c hy
    subst hc
    unfold ame at hs
    split at hs
    · simp_all
    · rename_i b' kk n val _
      obtain ⟨x', y', z', e', rx, ry, rz⟩ := three_of hv
      rw [hy] at e'; change [ρ a, ρ b, ρ c] = [x', y', z'] at e'; simp only [List.cons.injEq, and_true] at e'
      split at hs
      · rename_i es clock hb
        obtain ⟨loc, hm, rfl⟩ := rx
        obtain ⟨bk, hbk, rel⟩ := H.blk b' loc hm
        rw [hb] at hbk; cases hbk
        obtain ⟨es', g1, g2, g3⟩ := rel
        have he := EsRel.of_get _ _ g2 g3
        split at hs
        · rename_i i hi
          split at hs
          · rename_i k u n' hg
            simp only [Option.some.injEq, Prod.mk.injEq] at hs
            obtain ⟨rfl, rfl⟩ := hs
            obtain ⟨p, hp, hf⟩ := eIdx_run es es' 0 i he hi
            rw [Nat.zero_add] at hp; subst hp
            obtain ⟨e0, q1, q2, q3, q4⟩ := he.get i _ _ _ hg
            have he' : EsRel m (es.set i (k, val, n')) (es'.set i { e0 with val := z' }) := he.set q2 rz q4
            obtain ⟨H', E'⟩ := H.setM hm hb clock he'
            simp only [VRel] at ry
            refine ⟨undef, _, m, .inr ⟨?_, rfl⟩, ⟨[], rfl, rfl⟩, H', E'⟩
            have hfi : (List.toArray es').findIdx? (fun e => (e.born : Int) == (n : Int)) = some i := by rw [List.findIdx?_toArray]; exact hf
            simp only [execOp, hy, e'.1, e'.2.1, e'.2.2, ry]
            simp only [Instr.entryStore, Sem.run_bind, asInt, asIntOf, Result.andThen_ok, Go.MapKept.run_getObj_map g1, Sem.run_pure, Int.ofNat_eq_natCast, hfi, modify_set es' i e0 _ q1, Go.MapKept.run_setObj_map _ g1]
          · cases hs
        · cases hs
      · cases hs
    · cases hs
  · cases hc
theorem abounds_ttf {len y : Nat} {bs : List V} {l h : Nat} {m : Option Nat} (ha : abounds len y true true false bs = some (l, h, m)) : m = none := by
  match bs, ha with
  | [], ha => simp [abounds] at ha
  | [_], ha => simp [abounds] at ha
  | [a, b], ha =>
    simp only [abounds] at ha
    cases hb : abound b y with
    | none => rw [hb] at ha; cases ha
    | some n =>
      rw [hb] at ha; simp only [Option.bind_some] at ha
      cases hc : abound a n with
      | none => rw [hc] at ha; cases ha
      | some k => rw [hc] at ha; cases ha; rfl
  | _ :: _ :: _ :: _, ha => simp [abounds] at ha
noncomputable def aslu (h : Heap) (esz : Nat) (v : V) (bs : List V) : Option V :=
  match v with
  | .sliceU b o len e => bif Nat.beq e esz && Nat.blt 0 e then
      (match cellsAt h b with
      | some c => bif Nat.ble len ((c.length - o) / e) then
          (match abounds len ((c.length - o) / e) true true false bs with
          | some (l, u, _) => bif Nat.blt l ((c.length - o) / e) then some (.sliceU b (o + l * esz) (u - l) e) else none
          | none => none)
        else none
      | none => none)
    else none
  | v => aslice v esz true true false bs
theorem aslu_sound (H : HRel m h w) {o : Oper} {ρ : Operand → Value} {esz : Nat} {x v : V} {bs : List V} (hc : chkP P o.op (.sl none esz true true false) = true) (hv : VsRel m (x :: bs) (OV ρ o.op))
    (hs : aslu h esz x bs = some v) : MS P m h w o ρ v h := by
  have hc0 := hc
  simp only [chkP] at hc
  split at hc
  · rename_i t a l hh mxo hy
    simp only [Bool.and_eq_true, beq_iff_eq] at hc
    obtain ⟨⟨⟨he, h1⟩, h2⟩, h3⟩ := hc
    obtain ⟨e, hu, hsz⟩ := elem_slice he
    unfold aslu at hs
    split at hs
    · rename_i b k len e0
      cases hb : (Nat.beq e0 esz && Nat.blt 0 e0)
      · rw [hb] at hs; cases hs
      · rw [hb] at hs
        simp only [cond_true] at hs
        simp only [Bool.and_eq_true, Nat.blt_eq] at hb
        obtain ⟨hb1, hb2⟩ := hb
        have he0 := Nat.eq_of_beq_eq_true hb1
        subst he0
        split at hs
        · rename_i c hcells
          obtain ⟨f, mk, hg, hrd⟩ := cellsAt_some hcells
          rw [hy, sl_parts] at hv
          obtain ⟨x', xs', e', rv, rb⟩ := hv
          simp only [List.cons.injEq] at e'
          obtain ⟨rfl, rfl⟩ := e'
          obtain ⟨loc, hm, hlc, hx⟩ := rv
          obtain ⟨bk, hbk, rel⟩ := H.blk b loc hm
          rw [hg] at hbk; cases hbk
          obtain ⟨C, el, fz, hC, hroom, hcl, hcell, hfz⟩ := rel hrd
          cases hle : Nat.ble len ((c.length - k) / e0)
          · rw [hle] at hs; cases hs
          rw [hle] at hs; simp only [cond_true] at hs
          have hle := Nat.le_of_ble_eq_true hle
          have hyc : (c.length - k) / e0 ≤ (loc.room - k) / e0 := Nat.div_le_div_right (by omega)
          split at hs
          · rename_i l' u' m' ha
            have hr := fun w => abounds_run (P := P) (isS := true) ha hyc hle (by simpa using h1) (by simpa using h2) (by simpa using h3) rb w
            have hbd := (hr default).2
            have hm' := abounds_ttf ha
            subst hm'
            simp only [Option.getD_none] at hbd
            cases hlt : Nat.blt l' ((c.length - k) / e0)
            · rw [hlt] at hs; cases hs
            rw [hlt] at hs; simp only [cond_true, Option.some.injEq] at hs
            subst hs
            have hlt' : l' < (c.length - k) / e0 := by simpa [Nat.blt_eq] using hlt
            have hd : (loc.room - (k + l' * e0)) / e0 = (loc.room - k) / e0 - l' := by
              rw [← Nat.sub_sub, Nat.mul_comm, Nat.sub_mul_div]
            refine ⟨_, w, m, .inl ?_, ⟨loc, hm, by omega, rfl⟩, H, Ext.refl _ _ _⟩
            simp only [execOp, hy, Instr.sliceAt, Instr.slice, hx, Sem.run_bind, Sem.run_pure, run_under hu, Result.andThen_ok, (hr w).1, run_size hsz, Option.getD_none]
            rw [if_neg (by omega), hd]
            simp only [Option.map_some, add_mk, Nat.add_assoc]
          · cases hs
        · cases hs
    · exact MS_of_PS H (PS_sl hc0 hv hs)
  · cases hc
end
section
variable {P : Program} {m : M} {h : Heap} {w : World}
noncomputable def htag (h : Heap) (b ty n : Nat) : Heap := ⟨h.bl, h.next, h.fams, h.tys.set b (ty, n)⟩
theorem BRel.htag {b ty n p : Nat} {loc : Loc} {k : Blk} (r : BRel m h p loc w k) : BRel m (htag h b ty n) p loc w k := by
  cases k <;> exact r
theorem HRel.tag (H : HRel m h w) {b ty n : Nat} {loc : Loc} {C : Array Value} {fz : Nat × Nat} (hm : m b = some loc) (hb : loc.base = 0) (hc : w.heap[loc.block]? = some (.cells C ty fz)) (hn : n = 0 ∨ C.size = n) :
    HRel m (htag h b ty n) w := by
  refine ⟨⟨⟨H.wf.fam, H.wf.fresh⟩, fun p l hp => ?_, H.inb, H.sep⟩, fun p t k hp => ?_⟩
  · obtain ⟨bk, h1, h2⟩ := H.blk p l hp
    exact ⟨bk, h1, h2.htag⟩
  · have hp : (h.tys.set b (ty, n)).get p = some (t, k) := hp
    rw [T.get_set] at hp
    by_cases e : p = b
    · rw [if_pos e] at hp; cases hp; subst e; exact ⟨loc, C, fz, hm, hb, hc, hn⟩
    · rw [if_neg e] at hp; exact H.tg p t k hp
theorem Ext.tag (m : M) (h : Heap) (w : World) (b ty n : Nat) : Ext m h w m (htag h b ty n) w :=
  ⟨fun _ _ x => x, fun _ _ a b => by simp [a] at b, Nat.le_refl _, fun _ _ _ => rfl, Nat.le_refl _, fun _ _ _ => rfl, rfl, rfl, rfl, fun _ _ _ x => x, fun _ _ => Kept.refl _ _ _, fun _ _ a b => by simp [a] at b⟩
noncomputable def hkill (h : Heap) (b : Nat) : Option Heap :=
  match h.bl.get b with
  | some (.row _ f k) => match h.fams.get f with
    | none => some ⟨h.bl, h.next + 1, h.fams.set f (h.next, k + 1), h.tys⟩
    | some (ow, e) => bif Nat.beq ow b then some ⟨h.bl, h.next + 1, h.fams.set f (h.next, e + 1), h.tys⟩ else none
  | _ => none
theorem hkill_some {h' : Heap} {b : Nat} (W : HWF h) (x : hkill h b = some h') : ∃ c f k e, h.bl.get b = some (.row c f k) ∧ f < h.next ∧ (∀ p c' k', h.bl.get p = some (.row c' f k') → k' < e) ∧
    h'.bl = h.bl ∧ h'.next = h.next + 1 ∧ h'.fams = h.fams.set f (h.next, e) ∧ h'.tys = h.tys := by
  unfold hkill at x
  split at x
  · rename_i c f k hg
    split at x
    · rename_i hf
      cases x
      have hfb := W.fam _ _ _ _ hg
      rw [hf] at hfb
      have hfb : f = b := hfb
      refine ⟨c, f, k, k + 1, hg, ?_, fun p c' k' hp => ?_, rfl, rfl, rfl, rfl⟩
      · rcases Nat.lt_or_ge f h.next with q | q
        · exact q
        · have := (W.fresh f q).1
          rw [hfb, hg] at this; cases this
      · have hfp := W.fam _ _ _ _ hp
        rw [hf] at hfp
        have hfp : f = p := hfp
        rw [← hfp, hfb, hg] at hp; cases hp
        exact Nat.lt_succ_self _
    · rename_i ow e hf
      cases hb : Nat.beq ow b
      · rw [hb] at x; cases x
      · rw [hb] at x; simp only [cond_true, Option.some.injEq] at x
        subst x
        refine ⟨c, f, k, e + 1, hg, ?_, fun p c' k' hp => ?_, rfl, rfl, rfl, rfl⟩
        · rcases Nat.lt_or_ge f h.next with q | q
          · exact q
          · have := (W.fresh f q).2
            rw [hf] at this; cases this
        · have hfp := W.fam _ _ _ _ hp
          rw [hf] at hfp
          exact Nat.lt_succ_of_le hfp
  · cases x
theorem HRel.lt (H : HRel m h w) {p : Nat} {loc : Loc} (hm : m p = some loc) : p < h.next := by
  rcases Nat.lt_or_ge p h.next with q | q
  · exact q
  · rw [H.unmapped q] at hm; cases hm
theorem HRel.kill (H : HRel m h w) {h' : Heap} {b : Nat} {lb : Loc} (hm : m b = some lb) (x : hkill h b = some h') : HRel m h' w ∧ Ext m h w m h' w ∧
    ∀ p loc c f k, m p = some loc → loc.block = lb.block → h'.bl.get p = some (.row c f k) → rd h' p f k = false := by
  obtain ⟨c, f, k, e, hg, hfn, hke, e1, e2, e3, e4⟩ := hkill_some H.wf x
  have gf : h'.fams.get f = some (h.next, e) := by rw [e3, T.get_set_self]
  have go : ∀ q, q ≠ f → h'.fams.get q = h.fams.get q := fun q hq => by rw [e3, T.get_set_ne _ _ hq]
  have dead : ∀ p loc c' k', m p = some loc → h.bl.get p = some (.row c' f k') → rd h' p f k' = false := by
    intro p loc c' k' hp hr
    have h1 := H.lt hp
    have h2 := hke _ _ _ hr
    unfold rd
    rw [gf]
    have a : Nat.beq h.next p = false := by
      cases q : Nat.beq h.next p
      · rfl
      · have := Nat.eq_of_beq_eq_true q; omega
    have b : Nat.beq k' e = false := by
      cases q : Nat.beq k' e
      · rfl
      · have := Nat.eq_of_beq_eq_true q; omega
    show (Nat.beq h.next p || Nat.beq k' e) = false
    rw [a, b]; rfl
  have same : ∀ p loc bk, m p = some loc → h.bl.get p = some bk → BRel m h p loc w bk → BRel m h' p loc w bk := by
    intro p loc bk hp hb r
    cases bk with
    | row c' f' k' =>
      intro hr
      by_cases q : f' = f
      · subst q
        rw [dead p loc c' k' hp hb] at hr; cases hr
      · refine r ?_
        unfold rd at hr ⊢
        rw [go f' q] at hr; exact hr
    | mp es clock => exact r
    | lp ps as bd en st pend => exact r
    | si s pos => exact r
    | dead => trivial
  have E : Ext m h w m h' w := ⟨fun _ _ x => x, fun _ _ a b => by simp [a] at b, by omega, fun _ _ _ => by rw [e1], Nat.le_refl _, fun _ _ _ => rfl, rfl, rfl, rfl, fun _ _ _ x => x, fun _ _ => Kept.refl _ _ _, fun _ _ a b => by simp [a] at b⟩
  refine ⟨(H.up e4 ⟨⟨⟨?_, ?_⟩, ?_, H.inb, ?_⟩, E⟩).1, E, ?_⟩
  · intro p c' f' k' hp
    rw [e1] at hp
    by_cases q : f' = f
    · subst q; rw [gf]; exact Nat.le_of_lt (hke _ _ _ hp)
    · rw [go f' q]; exact H.wf.fam _ _ _ _ hp
  · intro p hp
    rw [e2] at hp
    have := H.wf.fresh p (by omega)
    exact ⟨by rw [e1]; exact this.1, by rw [go p (by omega)]; exact this.2⟩
  · intro p loc hp
    obtain ⟨bk, h1, h2⟩ := H.blk p loc hp
    exact ⟨bk, by rw [e1]; exact h1, same p loc bk hp h1 h2⟩
  · intro p q lp lq hp hq he hne
    obtain ⟨cp, cq, f', kp, kq, a1, a2, a3⟩ := H.sep p q lp lq hp hq he hne
    refine ⟨cp, cq, f', kp, kq, by rw [e1]; exact a1, by rw [e1]; exact a2, fun y hy => ?_⟩
    by_cases z : f' = f
    · subst z
      rw [gf] at hy; cases hy
      have := H.lt hq; omega
    · rw [go f' z] at hy; exact a3 y hy
  · intro p loc c' f' k' hp hbk hr
    rw [e1] at hr
    by_cases q : p = b
    · subst q
      rw [hg] at hr; cases hr
      exact dead p loc c k hp hg
    · obtain ⟨cp, cq, f2, kp, kq, a1, a2, _⟩ := H.sep p b loc lb hp hm hbk q
      rw [hg] at a2; cases a2
      rw [hr] at a1; cases a1
      exact dead p loc _ _ hp hr
theorem HRel.refz (H : HRel m h w) {g : Nat} {C : Array Value} {t : TypeId} {fz fz' : Nat × Nat} {w' : World} (hg : w.heap[g]? = some (.cells C t fz)) (hg' : w'.heap[g]? = some (.cells C t fz'))
    (ho : ∀ i, i ≠ g → w'.heap[i]? = w.heap[i]?) (hs : w'.heap.size = w.heap.size)
    (hf : ∀ p loc c f k, m p = some loc → loc.block = g → h.bl.get p = some (.row c f k) → rd h p f k = true → ∀ i : Nat, i < loc.room → ¬ (fz'.1 ≤ loc.base + i ∧ loc.base + i < fz'.2)) : HRel m h w' := by
  refine ⟨⟨H.wf, fun p loc hp => ?_, fun p loc hp => by rw [hs]; exact H.inb p loc hp, H.sep⟩, fun p ty n hp => ?_⟩
  · obtain ⟨b, hb, r⟩ := H.blk p loc hp
    refine ⟨b, hb, ?_⟩
    by_cases e : loc.block = g
    · cases b with
      | row c f k =>
        intro hr
        obtain ⟨C1, el, f1, a1, a2, a3, a4, a5⟩ := r hr
        rw [e, hg] at a1; cases a1
        exact ⟨C, t, fz', by rw [e]; exact hg', a2, a3, a4, hf p loc c f k hp e hb hr⟩
      | mp es clock => obtain ⟨es', a, _⟩ := r; rw [e, hg] at a; cases a
      | lp ps as bd en st pend => obtain ⟨_, _, _, _, _, q, _⟩ := r; rw [e, hg] at q; cases q
      | si s pos => have q := r.2; rw [e, hg] at q; cases q
      | dead => trivial
    · exact r.mono (fun _ _ x => x) (fun _ _ _ _ x => x) (ho _ e)
  · obtain ⟨loc, C1, f1, a1, a2, a3, a4⟩ := H.tg p ty n hp
    by_cases e : loc.block = g
    · rw [e, hg] at a3; cases a3
      exact ⟨loc, C, fz', a1, a2, by rw [e]; exact hg', a4⟩
    · exact ⟨loc, C1, f1, a1, a2, (ho _ e).trans a3, a4⟩
theorem Ext.refz {g : Nat} {C : Array Value} {t : TypeId} {fz fz' : Nat × Nat} {w' : World} (hg : w.heap[g]? = some (.cells C t fz)) (hg' : w'.heap[g]? = some (.cells C t fz'))
    (ho : ∀ i, i ≠ g → w'.heap[i]? = w.heap[i]?) (hs : w'.heap.size = w.heap.size) (h1 : w'.os = w.os) (h2 : w'.tape = w.tape) (h3 : w'.output = w.output)
    {p : Nat} {loc : Loc} (hp : m p = some loc) (hpg : loc.block = g) {i : Nat} (hi : i < loc.room) (hj : fz'.1 ≤ loc.base + i ∧ loc.base + i < fz'.2) : Ext m h w m h w' :=
  ⟨fun _ _ x => x, fun _ _ a b => by simp [a] at b, Nat.le_refl _, fun _ _ _ => rfl, by rw [hs]; exact Nat.le_refl _, fun b hb _ => ho b (fun e => hb p loc hp (hpg.trans e.symm)), h1, h2, h3, fun _ _ _ x => x, fun b _ => by
    by_cases e : b = g
    · subst e
      intro x hx
      rw [hg] at hx; cases hx
      exact ⟨_, hg', rfl, .inr ⟨loc.base + i, hj.1, hj.2, p, loc, hp, hpg, Nat.le_add_right _ _, by omega⟩, rfl, fun _ _ => rfl⟩
    · exact Kept.of_eq (ho b e), fun _ _ a b => by simp [a] at b⟩
theorem Ext.newer {m' : M} {h' : Heap} {w1 w' : World} (E : Ext m h w m' h' w1) {g : Nat} (hgw : w.heap.size ≤ g) (ho : ∀ i, i ≠ g → w'.heap[i]? = w1.heap[i]?) (hs : w'.heap.size = w1.heap.size)
    (h1 : w'.os = w1.os) (h2 : w'.tape = w1.tape) (h3 : w'.output = w1.output) : Ext m h w m' h' w' :=
  ⟨E.le, E.new, E.next, E.phan, by rw [hs]; exact E.size, fun b hb hl => (ho b (by omega)).trans (E.keep b hb hl), h1.trans E.os, h2.trans E.tape, h3.trans E.output, E.cov,
    fun b hb => by rw [ho b (by omega)]; exact E.out b hb, E.lps⟩
def bytes8 : List V → Option (List UInt8)
  | [] => some []
  | .int .u8 (.ofNat n) :: l => bif Nat.blt n 256 then (match bytes8 l with
    | some s => some (UInt8.ofNat n :: s)
    | none => none) else none
  | _ => none
theorem bytes8_get : ∀ (l : List V) (s : List UInt8), bytes8 l = some s → s.length = l.length ∧ ∀ (j : Nat) x, s[j]? = some x → l[j]? = some (.int .u8 (Int.ofNat x.toNat))
  | [], s, hb => by
    simp only [bytes8, Option.some.injEq] at hb; subst hb
    exact ⟨rfl, fun j x hj => by simp at hj⟩
  | v :: l, s, hb => by
    unfold bytes8 at hb
    split at hb
    · rename_i q; cases q
    · rename_i n l' q
      cases q
      cases hn : Nat.blt n 256
      · rw [hn] at hb; cases hb
      · rw [hn] at hb; simp only [cond_true] at hb
        have hn : n < 256 := by simpa [Nat.blt_eq] using hn
        split at hb
        · rename_i s' hs'
          cases hb
          obtain ⟨a, b⟩ := bytes8_get l s' hs'
          refine ⟨by simp [a], fun j x hj => ?_⟩
          cases j with
          | zero =>
            simp only [List.getElem?_cons_zero, Option.some.injEq] at hj
            subst hj
            have : (UInt8.ofNat n).toNat = n := by simp; omega
            rw [this]; rfl
          | succ j => simpa using b j x (by simpa using hj)
        · cases hb
    · cases hb
noncomputable def aus (h : Heap) (ty : Nat) (p n : V) : Option (V × Heap) :=
  match p, n with
  | .nilp, .int .i64 (.ofNat 0) => some (.str [], h)
  | .ptr b 0, .int .i64 (.ofNat n) => bif Nat.blt 0 n && Nat.blt n 9223372036854775808 then
      (match h.tys.get b with
      | some (t, _) => bif Nat.beq t ty then
          (match hload h b 0 n with
          | some cs => (match bytes8 cs with
            | some s => (match hkill h b with
              | some h' => some (.str s, h')
              | none => none)
            | none => none)
          | none => none)
        else none
      | none => none)
    else none
  | _, _ => none
noncomputable def asd (v : V) : Option V :=
  match v with
  | .nils => some .nilp
  | .slice b o _ (_ + 1) => some (.ptr b o)
  | .sliceU b o (_ + 1) _ => some (.ptr b o)
  | _ => none
noncomputable def atou (h : Heap) (v : V) : Option V :=
  match v with
  | .nilp => some .nilp
  | .ptr b o => (match hload1 h b o with
    | some _ => some (.ptr b o)
    | none => none)
  | _ => none
noncomputable def afru (h : Heap) (tab : List (Nat × Nat × Nat)) (v : V) : Option V :=
  match v with
  | .nilp => some .nilp
  | .ptr b o => (match h.tys.get b with
    | some (ty, n) => bif Nat.blt 0 n && tab.any (fun r => Nat.beq r.1 ty && Nat.beq r.2.1 n && Nat.beq r.2.2 o) then some (.ptr b o) else none
    | none => none)
  | _ => none
noncomputable def aapt (h : Heap) (ty esz bytes : Nat) (s x : V) : Option (V × Heap) :=
  match aapp h esz bytes s x with
  | some (.sliceU b o n e, h') => bif Nat.beq b h.next then
      (match s with
      | .nils => some (.sliceU b o n e, htag h' b ty 0)
      | .sliceU b0 0 _ _ => (match h.tys.get b0 with
        | some (t, _) => bif Nat.beq t ty then some (.sliceU b o n e, htag h' b ty 0) else none
        | none => none)
      | _ => none)
    else some (.sliceU b o n e, h')
  | r => r
noncomputable def as2b (h : Heap) (v : V) : Option (V × Heap) :=
  match v with
  | .str s => some (.sliceU h.next 0 s.length 1, halloc h (s.map fun b => V.int .u8 (Int.ofNat b.toNat)))
  | _ => none
noncomputable def ape (x y : V) : Option V :=
  match x, y with
  | .ptr b o, .ptr b' o' => bif Nat.beq b b' && Nat.beq o o' then some (.bool false) else none
  | _, _ => none
noncomputable def aext (h : Heap) (k : XK) (vs : List V) : Option (V × Heap) :=
  match k, vs with
  | .same, [v] => some (v, h)
  | .acq, [.ptr _ _] => some (.tup [], h)
  | .rel, [.ptr _ _] => some (.tup [], h)
  | .rlm, [.ptr _ _] => some (.tup [], h)
  | .en, [] => some (.tup [], h)
  | .di, [] => some (.tup [], h)
  | .ld, [.ptr b o] => (match hload1 h b o with
    | some (.int .u32 n) => some (.int .u32 n, h)
    | _ => none)
  | .sto, [.ptr b o, .int .u32 y] => (match hload1 h b o with
    | some _ => (match hstore h b o [.int .u32 y] with
      | some h' => some (.tup [], h')
      | none => none)
    | none => none)
  | .cas, [.ptr b o, .int .i32 (.ofNat x), .int .i32 y] => (match hload1 h b o with
    | some (.int .i32 (.ofNat z)) => bif Nat.beq z x then (match hstore h b o [.int .i32 y] with
      | some h' => some (.bool true, h')
      | none => none) else none
    | _ => none)
  | .add, [.ptr b o, .int .i32 y] => (match hload1 h b o with
    | some (.int .i32 x) => (match hstore h b o [.int .i32 (fwrap .i32 (x + y))] with
      | some h' => some (.int .i32 (fwrap .i32 (x + y)), h')
      | none => none)
    | _ => none)
  | _, _ => none
noncomputable def aux (h : Heap) (k : UK) (vs : List V) : Option (V × Heap) :=
  match k, vs with
  | .alt ty zero, [] => some (.ptr h.next 0, htag (halloc h zero) h.next ty zero.length)
  | .tou, [v] => (match atou h v with
    | some v => some (v, h)
    | none => none)
  | .fru tab, [v] => (match afru h tab v with
    | some v => some (v, h)
    | none => none)
  | .sd, [v] => (match asd v with
    | some v => some (v, h)
    | none => none)
  | .us ty, [p, n] => aus h ty p n
  | .apt ty esz bytes, [s, x] => aapt h ty esz bytes s x
  | .s2b, [v] => as2b h v
  | .pe, [x, y] => (match ape x y with
    | some v => some (v, h)
    | none => none)
  | .ext k, vs => aext h k vs
  | _, _ => none
def xName : XK → String
  | .same => "internal/abi.NoEscape"
  | .ld => "sync/atomic.LoadUint32"
  | .sto => "sync/atomic.StoreUint32"
  | .cas => "sync/atomic.CompareAndSwapInt32"
  | .add => "sync/atomic.AddInt32"
  | .acq => "internal/race.Acquire"
  | .rel => "internal/race.Release"
  | .rlm => "internal/race.ReleaseMerge"
  | .en => "internal/race.Enable"
  | .di => "internal/race.Disable"
def chkUx (P : Program) (op : Op) (k : UK) : Bool :=
  match k with
  | .alt ty zero => chkAlloc P op zero && (match op with
    | .alloc t => Nat.beq t ty
    | _ => false)
  | .tou => (match op with
    | .convert src dst _ => (match P.underlying src, P.underlying dst with
      | some (.pointer t), some .unsafePointer => (match P.info? t with
        | some j => Nat.blt 0 j.size
        | none => false)
      | _, _ => false)
    | _ => false)
  | .fru tab => (match op with
    | .convert src dst _ => (match P.underlying src, P.underlying dst with
      | some .unsafePointer, some (.pointer u) => (P.info? u).isSome && tab.all (fun r => liesAt P P.depth r.1 (r.2.1 / P.cellsOf r.1) r.2.2 u 1)
      | _, _ => false)
    | _ => false)
  | .sd => (match callOf op .unsafeSliceData with
    | some (args, _) => Nat.beq args.size 1
    | none => false)
  | .us ty => (match callOf op .unsafeString with
    | some (args, ts) => Nat.beq args.size 2 && (match ts.toList with
      | [pt, _] => (match P.underlying pt with
        | some (.pointer e) => Nat.beq e ty && Nat.beq (P.cellsOf e) 1
        | _ => false)
      | _ => false)
    | none => false)
  | .apt ty esz bytes => chkApp P op esz bytes && (match callOf op .append with
    | some (_, ts) => (match ts[0]? with
      | some t => (match P.underlying t with
        | some (.slice e) => Nat.beq e ty
        | _ => false)
      | none => false)
    | none => false)
  | .s2b => (match op with
    | .convert src dst _ => (match P.underlying src, P.underlying dst with
      | some .string, some (.slice e) => (match P.underlying e with
        | some (.int .u8) => true
        | _ => false)
      | _, _ => false)
    | _ => false)
  | .pe => (match op with
    | .binOp .neq tp _ _ _ => (match P.underlying tp with
      | some (.pointer te) => (P.info? te).isSome
      | _ => false)
    | _ => false)
  | .ext k => (match op with
    | .call { callee := .value (.func f), .. } => (match P.funcs[f]? with
      | some fn => fn.body.isNone && (fn.name == xName k) && (fn.origin == "")
      | none => false)
    | _ => false)
def uxArgs (op : Op) (k : UK) : List Operand :=
  match k with
  | .ext _ => (match op with
    | .call c => c.args.toList
    | _ => [])
  | _ => op.operands.toList
end
end Go.Ev
