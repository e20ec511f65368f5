/- An evaluator of the program and contracts proved over it: the texts LayKd LayKe LayKf. -/
import Derived.Test.YtfhplbpjpmaoiaaGreatDoorLayT
set_option linter.unusedSimpArgs false
set_option linter.unusedVariables false
set_option linter.constructorNameAsVariable false
/- printed by cutfn.py: parts of fn3 -/
namespace Go.Ev.Lay
def kn4 : IC := (.seq (.ops [⟨none, .cf 7 [.v 15], none⟩, ⟨none, .p .mv [.l 0], some 17⟩]) (.seq (.seq (.ops [⟨none, .p (.nil 0 false) [.v 17, .c .nilp], none⟩, ⟨(some (.l 0, false)), .p .mv [.v 17], none⟩, ⟨(some (.l 1, false)), .bs [(.int .i64 0)] [(0, 1)] 1 [.c (.int .i64 1)], none⟩, ⟨(some (.l 2, false)), .bs [(.bool false)] [(0, 1)] 1 [.c (.bool false)], none⟩, ⟨(some (.l 3, false)), .cf 9 [.l 2, .c (.int .i64 0), .l 1, .l 0], none⟩, ⟨(some (.l 4, false)), .p (.ib .neq) [.l 0, .c (.int .i64 3)], none⟩, ⟨none, .p .pick [.l 5, .c (.bool true), .l 0], some 141⟩]) (.cond (.v 141) (.seq (.ops [⟨none, .p .mv [.c (.bool false)], some 0⟩]) (.ret)) (.skip))) (.seq (.ops [⟨none, .p (.build [(.int .i64 0), (.int .i64 0), (.bool false)] [(0, 1), (1, 1)]) [.c (.int .i64 40), .c (.int .i64 2)], none⟩, ⟨none, .cf 14 [.v 17, .l 0, .c (.int .i64 500), .c (.int .i64 3), .c (.func (.func 18) [] [])], none⟩, ⟨none, .p (.ext 0) [.l 0], none⟩, ⟨none, .p (.ext 1) [.l 1], none⟩, ⟨none, .p (.ext 2) [.l 2], none⟩, ⟨none, .p .mv [.l 2], some 18⟩, ⟨none, .p .mv [.l 1], some 19⟩, ⟨none, .p .mv [.l 0], some 20⟩]) (.seq (.ops [⟨none, .bs [(.int .i64 0)] [(0, 1), (1, 1), (2, 1), (3, 1), (4, 1)] 5 [.c (.int .i64 2), .c (.int .i64 3), .c (.int .i64 4), .c (.int .i64 5), .c (.int .i64 6)], none⟩, ⟨none, .cf 19 [.v 15, .c (.int .i64 40), .c (.int .i64 2), .c (.bool false), .c (.int .i64 500), .c (.int .i64 3), .l 0], none⟩, ⟨none, .p (.ext 0) [.l 0], none⟩, ⟨none, .p (.ext 1) [.l 1], none⟩, ⟨none, .p (.ext 2) [.l 2], none⟩, ⟨none, .p (.ext 3) [.l 3], none⟩, ⟨none, .p .mv [.l 3], some 21⟩, ⟨none, .p .mv [.l 2], some 22⟩, ⟨none, .p .mv [.l 1], some 23⟩, ⟨none, .p .mv [.l 0], some 24⟩]) (.seq (.ops [⟨none, .p (.ib .eql) [.v 20, .c (.int .i64 0)], none⟩, ⟨(some (.l 0, true)), .p .mv [.v 24], none⟩, ⟨(some (.l 1, true)), .p (.ib .eql) [.l 0, .c (.int .i64 0)], none⟩, ⟨none, .p .pick [.l 2, .l 0, .c (.bool false)], none⟩, ⟨(some (.l 0, true)), .p .mv [.v 18], none⟩, ⟨(some (.l 1, true)), .p .mv [.v 22], none⟩, ⟨(some (.l 2, true)), .p (.ib .eql) [.l 1, .l 0], none⟩, ⟨none, .p .pick [.l 3, .l 0, .c (.bool false)], none⟩, ⟨(some (.l 0, true)), .p .mv [.v 19], none⟩, ⟨(some (.l 1, true)), .p .mv [.v 23], none⟩, ⟨(some (.l 2, true)), .p (.ib .eql) [.l 1, .l 0], none⟩, ⟨none, .p .pick [.l 3, .l 0, .c (.bool false)], none⟩, ⟨(some (.l 0, true)), .p .mv [.v 17], none⟩, ⟨(some (.l 1, true)), .p .mv [.v 21], none⟩, ⟨(some (.l 2, true)), .cf 17 [.l 1, .l 0], none⟩, ⟨(some (.l 3, true)), .p (.ib .eql) [.l 0, .c (.int .i64 1)], none⟩, ⟨none, .p .pick [.l 4, .l 0, .c (.bool false)], none⟩, ⟨(some (.l 0, true)), .cf 20 [], none⟩, ⟨none, .p .pick [.l 1, .l 0, .c (.bool false)], none⟩, ⟨none, .p .mv [.l 0], some 0⟩]) (.ret))))))
def kn3 : IC := (.seq (.ops [⟨none, .p .mv [.c .nils], some 15⟩]) (.seq (.seq (.ops [⟨none, .p .mv [.c (.int .i64 0)], some 16⟩]) (.block 0 (.loop (.seq (.seq (.ops [⟨none, .p (.ib .lss) [.v 16, .c (.int .i64 1024)], some 118⟩]) (.cond (.v 118) (.skip) (.exit 0))) (.seq (.block 1 (.ops [⟨none, .p .mv [.v 15], none⟩, ⟨none, .p (.ib .rem) [.v 16, .c (.int .i64 7)], none⟩, ⟨none, .p (.ib .add) [.c (.int .i64 1), .l 0], none⟩, ⟨none, .p (.ib .rem) [.v 16, .c (.int .i64 100)], none⟩, ⟨none, .p (.ib .eql) [.l 0, .c (.int .i64 50)], none⟩, ⟨none, .p (.build [(.int .i64 0), (.bool false), (.bool false)] [(0, 1), (2, 1)]) [.l 2, .l 0], none⟩, ⟨none, .bs [(.int .i64 0), (.bool false), (.bool false)] [(0, 3)] 1 [.l 0], none⟩, ⟨none, .ap 3 16 (.l 6) (.l 0), none⟩, ⟨none, .p .mv [.l 0], some 15⟩])) (.ops [⟨none, .p .mv [.v 16], none⟩, ⟨none, .p (.ib .add) [.l 0, .c (.int .i64 1)], none⟩, ⟨none, .p .mv [.l 0], some 16⟩])))))) kn4))
def fn3x : IFn := ⟨0, .seq (.ops [⟨none, .p .mv [.c (.bool false)], some 0⟩]) (.seq (.ops [⟨none, .p (.build [(.int .i64 0), (.bool false), (.bool false)] [(0, 1)]) [.c (.int .i64 2305843009213693952)], none⟩, ⟨none, .p (.build [(.int .i64 0), (.bool false), (.bool false)] [(0, 1), (2, 1)]) [.c (.int .i64 2305843009213693951), .c (.bool true)], none⟩, ⟨none, .p (.build [(.int .i64 0), (.bool false), (.bool false)] [(0, 1)]) [.c (.int .i64 1)], none⟩, ⟨none, .bs [(.int .i64 0), (.bool false), (.bool false)] [(0, 3), (3, 3), (6, 3)] 3 [.l 2, .l 1, .l 0], none⟩, ⟨none, .cf 7 [.l 0], none⟩, ⟨none, .p .mv [.l 0], some 1⟩]) (.seq (.ops [⟨none, .p (.build [(.int .i64 0), (.int .i64 0), (.bool false)] [(0, 1), (1, 1)]) [.c (.int .i64 2147483648), .c (.int .i64 16)], none⟩, ⟨none, .al [(.int .i64 0), (.int .i64 0), (.bool false)], some 2⟩, ⟨none, .st 3 (.v 2) (.l 0), none⟩]) (.seq (.seq (.ops [⟨none, .p (.nil 0 false) [.v 1, .c .nilp], none⟩, ⟨(some (.l 0, false)), .p .mv [.v 1], none⟩, ⟨(some (.l 1, false)), .cf 8 [.l 0], none⟩, ⟨(some (.l 2, false)), .p (.ib .neq) [.l 0, .c (.int .i64 4611686018427387904)], none⟩, ⟨none, .p .pick [.l 3, .c (.bool true), .l 0], none⟩, ⟨(some (.l 0, false)), .p .mv [.v 1], none⟩, ⟨(some (.l 1, false)), .bs [(.int .i64 0)] [(0, 1)] 1 [.c (.int .i64 1)], none⟩, ⟨(some (.l 2, false)), .bs [(.bool false)] [(0, 1)] 1 [.c (.bool false)], none⟩, ⟨(some (.l 3, false)), .cf 9 [.l 2, .c (.int .i64 0), .l 1, .l 0], none⟩, ⟨(some (.l 4, false)), .p (.ib .neq) [.l 0, .c (.int .i64 13)], none⟩, ⟨none, .p .pick [.l 5, .c (.bool true), .l 0], some 44⟩]) (.cond (.v 44) (.seq (.ops [⟨none, .p .mv [.c (.bool false)], some 0⟩]) (.ret)) (.skip))) (.seq (.ops [⟨none, .ld 3 true (.v 2), none⟩, ⟨none, .cf 10 [.v 1, .l 0, .c (.int .i64 9223372036854775807)], none⟩, ⟨none, .p (.ext 0) [.l 0], none⟩, ⟨none, .p (.ext 1) [.l 1], none⟩, ⟨none, .p .mv [.l 1], some 3⟩, ⟨none, .p .mv [.l 0], some 4⟩]) (.seq (.ops [⟨none, .ld 3 true (.v 2), none⟩, ⟨none, .cf 11 [.v 1, .l 0, .v 3], none⟩, ⟨none, .p (.ext 0) [.l 0], none⟩, ⟨none, .p (.ext 1) [.l 1], none⟩, ⟨none, .p .mv [.l 1], some 5⟩, ⟨none, .p .mv [.l 0], some 6⟩]) (.seq (.ops [⟨none, .cf 12 [.v 1, .v 3], none⟩, ⟨none, .p (.ext 0) [.l 0], none⟩, ⟨none, .p (.ext 1) [.l 1], none⟩, ⟨none, .p .mv [.l 1], some 7⟩, ⟨none, .p .mv [.l 0], some 8⟩]) (.seq (.seq (.ops [⟨none, .p (.ib .neq) [.v 4, .c (.int .i64 0)], none⟩, ⟨(some (.l 0, false)), .p .mv [.v 6], none⟩, ⟨(some (.l 1, false)), .p (.ib .neq) [.l 0, .c (.int .i64 0)], none⟩, ⟨none, .p .pick [.l 2, .c (.bool true), .l 0], none⟩, ⟨(some (.l 0, false)), .p .mv [.v 8], none⟩, ⟨(some (.l 1, false)), .p (.ib .neq) [.l 0, .c (.int .i64 0)], none⟩, ⟨none, .p .pick [.l 2, .c (.bool true), .l 0], none⟩, ⟨(some (.l 0, false)), .p .mv [.v 3], none⟩, ⟨(some (.l 1, false)), .p (.ib .neq) [.l 0, .c (.int .i64 4611686016279904256)], none⟩, ⟨none, .p .pick [.l 2, .c (.bool true), .l 0], none⟩, ⟨(some (.l 0, false)), .p .mv [.v 5], none⟩, ⟨(some (.l 1, false)), .bs [(.int .i64 0)] [(0, 1), (1, 1), (2, 1)] 3 [.c (.int .i64 0), .c (.int .i64 1), .c (.int .i64 2)], none⟩, ⟨(some (.l 2, false)), .cf 13 [.l 1, .l 0], none⟩, ⟨(some (.l 3, false)), .p (.ib .eql) [.l 0, .c (.int .i64 0)], none⟩, ⟨none, .p .pick [.l 4, .c (.bool true), .l 0], none⟩, ⟨(some (.l 0, false)), .p .mv [.v 7], none⟩, ⟨(some (.l 1, false)), .p (.ib .neq) [.l 0, .c (.int .i64 0)], none⟩, ⟨none, .p .pick [.l 2, .c (.bool true), .l 0], some 87⟩]) (.cond (.v 87) (.seq (.ops [⟨none, .p .mv [.c (.bool false)], some 0⟩]) (.ret)) (.skip))) (.seq (.ops [⟨none, .ld 3 true (.v 2), none⟩, ⟨none, .cf 14 [.v 1, .l 0, .c (.int .i64 2), .c (.int .i64 0), .c (.func (.func 15) [] [])], none⟩, ⟨none, .p (.ext 0) [.l 0], none⟩, ⟨none, .p (.ext 1) [.l 1], none⟩, ⟨none, .p (.ext 2) [.l 2], none⟩, ⟨none, .p .mv [.l 2], none⟩, ⟨none, .p .mv [.l 2], none⟩, ⟨none, .p .mv [.l 2], some 11⟩]) (.seq (.ops [⟨none, .ld 3 true (.v 2), none⟩, ⟨none, .cf 14 [.v 1, .l 0, .c (.int .i64 2), .c (.int .i64 0), .c (.func (.func 16) [] [])], none⟩, ⟨none, .p (.ext 0) [.l 0], none⟩, ⟨none, .p (.ext 1) [.l 1], none⟩, ⟨none, .p (.ext 2) [.l 2], none⟩, ⟨none, .p .mv [.l 2], none⟩, ⟨none, .p .mv [.l 2], none⟩, ⟨none, .p .mv [.l 2], some 14⟩]) (.seq (.seq (.ops [⟨none, .p (.ib .neq) [.v 11, .c (.int .i64 12)], none⟩, ⟨(some (.l 0, false)), .p .mv [.v 14], none⟩, ⟨(some (.l 1, false)), .p (.ib .neq) [.l 0, .c (.int .i64 13)], none⟩, ⟨none, .p .pick [.l 2, .c (.bool true), .l 0], none⟩, ⟨(some (.l 0, false)), .p .mv [.v 1], none⟩, ⟨(some (.l 1, false)), .p (.build [(.int .i64 0), (.bool false), (.bool false)] [(0, 1)]) [.c (.int .i64 2305843009213693952)], none⟩, ⟨(some (.l 2, false)), .p (.build [(.int .i64 0), (.bool false), (.bool false)] [(0, 1), (2, 1)]) [.c (.int .i64 2305843009213693951), .c (.bool true)], none⟩, ⟨(some (.l 3, false)), .p (.build [(.int .i64 0), (.bool false), (.bool false)] [(0, 1)]) [.c (.int .i64 1)], none⟩, ⟨(some (.l 4, false)), .bs [(.int .i64 0), (.bool false), (.bool false)] [(0, 3), (3, 3), (6, 3)] 3 [.l 2, .l 1, .l 0], none⟩, ⟨(some (.l 5, false)), .cf 17 [.l 4, .l 0], none⟩, ⟨(some (.l 6, false)), .p (.ib .eql) [.l 0, .c (.int .i64 0)], none⟩, ⟨none, .p .pick [.l 7, .c (.bool true), .l 0], some 116⟩]) (.cond (.v 116) (.seq (.ops [⟨none, .p .mv [.c (.bool false)], some 0⟩]) (.ret)) (.skip))) kn3)))))))))), [.t 0], [0, 1, 2, 3, 4, 5, 6, 7, 8, 11, 14, 15, 16, 17, 18, 19, 20, 21, 22, 23, 24, 44, 87, 116, 118, 141]⟩
/-- paternoster/paternosterlaw34.LayoutsSee -/
theorem g3x : F.get 3 = some fn3x := rfl
end Go.Ev.Lay

/- LayoutsKnown: 1024 rows. -/
namespace Go.Ev.Lay
set_option maxRecDepth 4000
theorem lookR_sm (m : Int → Int) (hm : ∀ i, 0 ≤ i → 1 ≤ m i ∧ m i ≤ 128) : ∀ (A l : List Int) (ks : List Bool) (mo : Bool), (∀ i ∈ A, 0 ≤ i ∧ i < l.length) → ks.length = l.length → (∀ x ∈ l, 1 ≤ x ∧ x ≤ 128) → l.length ≤ 1024 →
    (lookR m A l ks mo).1 = 0 ∧ ∀ x ∈ (lookR m A l ks mo).2.1, 1 ≤ x ∧ x ≤ 128
  | [], l, ks, mo, _, _, hp, _ => ⟨rfl, hp⟩
  | i :: A, l, ks, mo, hA, hl, hp, h30 => by
    have hi := hA i (by simp)
    have hmi := hm i hi.1
    have hA' : ∀ i ∈ A, 0 ≤ i ∧ i < l.length := fun j hj => hA j (by simp [hj])
    rw [lookR, if_pos hi]
    by_cases c2 : ks.getD i.toNat false = true
    · rw [if_pos c2]; exact lookR_sm m hm A l ks mo hA' hl hp h30
    · have s1 := sum_le l 128 fun x hx => (hp x hx).2
      have s2 : 0 ≤ l.getD i.toNat 0 := by
        have hn : i.toNat < l.length := by omega
        have : l.getD i.toNat 0 = l[i.toNat] := by simp [List.getD, hn]
        rw [this]; have := hp _ (List.getElem_mem hn); omega
      have z : xsetE l i (m i) = 0 := by
        unfold xsetE
        rw [if_pos hi, if_neg (by omega), if_neg (by omega)]
      rw [if_neg c2, if_pos z]
      refine lookR_sm m hm A _ _ true (by simpa using hA') (by simpa using hl) (fun x hx => ?_) (by simpa using h30)
      rcases List.mem_or_eq_of_mem_set hx with q | q
      · exact hp x q
      · omega
theorem SetS.sm {m : Int → Int} (hm : ∀ i, 0 ≤ i → 1 ≤ m i ∧ m i ≤ 128) {bs : List Bool} {view over anchor delta : Int} {lo : Bool} {s : Int} {r : Nat} {l : List Int} {ks : List Bool} {s2 n2 e2 : Int} {l2 : List Int} {ks2 : List Bool} (a : SetS m bs view over anchor delta lo s r l ks s2 n2 e2 l2 ks2) :
    bs.length = l.length → ks.length = l.length → (∀ x ∈ l, 1 ≤ x ∧ x ≤ 128) → l.length ≤ 1024 → e2 = 0 := by
  induction a with
  | bad a1 a2 => intro h1 h2 h3 h4; exact absurd (lookR_sm m hm _ _ _ false (att_range a1 h1) h2 h3 h4).1 a2
  | done a1 a2 => intro h1 h2 h3 h4; rfl
  | @more s r l ks A l' ks' s2 n2 e2 l2 ks2 a1 a2 _ ih =>
    intro h1 h2 h3 h4
    have sp := lookR_spec m A l ks false h2 (fun x hx => (h3 x hx).1)
    have sm := lookR_sm m hm _ _ _ false (att_range a1 h1) h2 h3 h4
    have e1 := sp.1
    have e3 := sp.2.1
    rw [a2] at e1 e3 sm
    simp only [] at e1 e3 sm
    exact ih (by omega) (by omega) sm.2 (by omega)
def mkMany (k : Nat) : Int × Bool × Bool := (1 + ((k % 7 : Nat) : Int), false, decide (k % 100 = 50))
def many (n : Nat) : List (Int × Bool × Bool) := (List.range n).map mkMany
theorem many_len (n : Nat) : (many n).length = n := by simp [many]
theorem many_succ (n : Nat) : many (n + 1) = many n ++ [mkMany n] := by simp [many, List.range_succ]
theorem many_sz (n : Nat) : ∀ x ∈ sz (many n), 1 ≤ x ∧ x ≤ 128 := by
  intro x hx
  simp only [sz, many, List.mem_map] at hx
  obtain ⟨r, ⟨k, _, rfl⟩, rfl⟩ := hx
  simp only [mkMany]
  omega
theorem many_good : Good (many 1024) := by
  refine ⟨by rw [many_len]; omega, fun r hr => ?_, ?_⟩
  · have := many_sz 1024 r.1 (by simp only [sz, List.mem_map]; exact ⟨r, hr, rfl⟩)
    omega
  · have := sum_le (sz (many 1024)) 128 fun x hx => (many_sz 1024 x hx).2
    rw [sz_len, many_len] at this
    omega
theorem m18_ok (h : Heap) (i : Int) (h0 : 0 ≤ i) (h1 : i < 1000000) : Does go 18 [.int .i64 i] h fun u h' => u = .int .i64 (mOf [2, 3, 4, 5, 6] i) ∧ h' = h := by
  obtain ⟨n, rfl⟩ : ∃ n : Nat, i = n := ⟨i.toNat, by omega⟩
  have tm := tmod_i64 (n : Int) 5 (by omega)
  rw [show Int.tmod (n : Int) 5 = ((n % 5 : Nat) : Int) from (Int.ofNat_tmod n 5).symm] at tm
  have e : mOf [2, 3, 4, 5, 6] (n : Int) = 2 + ((n % 5 : Nat) : Int) := by
    simp only [mOf, Int.toNat_natCast, List.length_cons, List.length_nil]
    have : n % 5 < 5 := Nat.mod_lt _ (by omega)
    show [2, 3, 4, 5, 6].getD (n % 5) 0 = 2 + ((n % 5 : Nat) : Int)
    generalize n % 5 = q at this
    match q, this with
    | 0, _ => rfl
    | 1, _ => rfl
    | 2, _ => rfl
    | 3, _ => rfl
    | 4, _ => rfl
  rw [e]
  have : n % 5 < 5 := Nat.mod_lt _ (by omega)
  refine does_fn g18 rfl ?_
  simp (disch := omega) only [fn18, evs, ↓reduceIte, Nat.reduceEqDiff, Nat.reduceAdd, Nat.reduceMul, Nat.reduceLeDiff, Nat.reduceLT, Int.reduceNeg, DF, eff, Nat.reduceSub, fwrap_i64, tm]
theorem m18_b (i : Int) : 1 ≤ mOf [2, 3, 4, 5, 6] i ∧ mOf [2, 3, 4, 5, 6] i ≤ 128 := by
  have : i.toNat % 5 < 5 := Nat.mod_lt _ (by omega)
  show 1 ≤ [2, 3, 4, 5, 6].getD (i.toNat % 5) 0 ∧ [2, 3, 4, 5, 6].getD (i.toNat % 5) 0 ≤ 128
  generalize i.toNat % 5 = q at this
  match q, this with
  | 0, _ => decide
  | 1, _ => decide
  | 2, _ => decide
  | 3, _ => decide
  | 4, _ => decide
theorem kn4_ok {h : Heap} {env : T V} {v : V} {R : V → Heap → Prop} (w : WF h) (glb : Glb h) (hn : 0 < h.next) (rf : RwF h v (many 1024)) (g15 : env.get 15 = some v)
    (K : ∀ h' b, h.next ≤ b → FrF b h h' → R (.bool true) h') : W go kn4 env h (RetQ [.t 0] R) := by
  have G := many_good
  have lm : (many 1024).length = 1024 := many_len _
  have ok : okF 40 2 := by unfold okF; omega
  simp (disch := omega) only [evs, ↓reduceIte, Nat.reduceEqDiff, Nat.reduceAdd, Nat.reduceMul, Nat.reduceLeDiff, Nat.reduceLT, Int.reduceNeg, DF, eff, Nat.reduceSub, fwrap_i64, kn4, g15]
  refine OQ_does (Lay_ok w rf G) ?_
  rintro _ h1 ⟨b, rfl, hb, lo, F1⟩
  have rf1 := rf.frF' F1 w hb
  obtain ⟨h2, e_h2⟩ : ∃ h2, h2 = halloc h1 [.int .i64 1] := ⟨_, rfl⟩
  have F_h2 : Fr [] h1 h2 := e_h2 ▸ Fr.halloc F1.wf _
  have o_h2 : Own h2 h1.next [.int .i64 1] := e_h2 ▸ Own.new F1.wf _
  obtain ⟨h3, e_h3⟩ : ∃ h3, h3 = halloc h2 [.bool false] := ⟨_, rfl⟩
  have F_h3 : Fr [] h2 h3 := e_h3 ▸ Fr.halloc F_h2.wf _
  have o_h3 : Own h3 h2.next [.bool false] := e_h3 ▸ Own.new F_h2.wf _
  have F13 := F_h2.then F_h3
  simp (disch := omega) only [evs, ↓reduceIte, Nat.reduceEqDiff, Nat.reduceAdd, Nat.reduceMul, Nat.reduceLeDiff, Nat.reduceLT, Int.reduceNeg, DF, eff, Nat.reduceSub, fwrap_i64, g15, ← e_h2, ← e_h3]
  refine OQ_does (LIns_ok (m := [1]) (st := [false]) F_h3.wf (lo.fr F13) (Sl.lit (F_h3.get o_h2) rfl) (Sl.lit o_h3 rfl) (by simp) rfl (by omega) (by omega)) ?_
  rintro _ h4 ⟨rfl, F4, lo4⟩
  have xe : xinsE (sz (many 1024)) 0 [1] = 3 := by
    unfold xinsE
    rw [if_pos (by rw [sz_len, lm]; omega), if_pos (by rw [sz_len, lm]; simp)]
  rw [xe, if_neg (by omega)] at lo4
  rw [xe]
  have rf4 : RwF h4 v (many 1024) := by
    obtain ⟨p, vk, pm, o, _, ix, _⟩ := lo
    exact (rf1.fr F13).frF F4 (F13.get o) (noInt ix.noint)
  have F04 : FrF b h h4 := (F1.trans (frF F13)).trans F4
  have glb4 := glb.frF F04 (by omega)
  simp (disch := omega) only [evs, ↓reduceIte, Nat.reduceEqDiff, Nat.reduceAdd, Nat.reduceMul, Nat.reduceLeDiff, Nat.reduceLT, Int.reduceNeg, DF, eff, Nat.reduceSub, fwrap_i64, g15]
  refine OQ_does (Settle_ok (m := mOf [2, 3, 4, 5, 6]) F4.wf glb4 lo4 G.pos (by unfold setBad; rw [if_neg (by simp [ok]), if_neg (by rw [sz_len, lm]; omega)]) (fun h i a b => m18_ok h i a b) (fun i => by have := m18_b i; omega)) ?_
  rintro _ h5 ⟨s, n, e, l', ks', rfl, ss, lo5, L5⟩
  have kl : (ky (many 1024)).length = (sz (many 1024)).length := by rw [ky_len, sz_len]
  have yl : (sy (many 1024)).length = (sz (many 1024)).length := by rw [sy_len, sz_len]
  have e0 := ss.sm (fun i _ => m18_b i) yl kl (many_sz 1024) (by rw [sz_len, lm]; omega)
  subst e0
  rw [if_pos rfl] at lo5
  have rf5 : RwF h5 v (many 1024) := by
    obtain ⟨p, vk, pm, o, _, ix, _⟩ := lo4
    exact rf4.frF L5.f o (noInt ix.noint)
  have F05 : FrF b h h5 := F04.trans L5.f
  obtain ⟨h6, e_h6⟩ : ∃ h6, h6 = halloc h5 [.int .i64 2, .int .i64 3, .int .i64 4, .int .i64 5, .int .i64 6] := ⟨_, rfl⟩
  have F_h6 : Fr [] h5 h6 := e_h6 ▸ Fr.halloc L5.f.wf _
  have o_h6 : Own h6 h5.next [.int .i64 2, .int .i64 3, .int .i64 4, .int .i64 5, .int .i64 6] := e_h6 ▸ Own.new L5.f.wf _
  simp (disch := omega) only [evs, ↓reduceIte, Nat.reduceEqDiff, Nat.reduceAdd, Nat.reduceMul, Nat.reduceLeDiff, Nat.reduceLT, Int.reduceNeg, DF, eff, Nat.reduceSub, fwrap_i64, g15, ← e_h6]
  refine OQ_does (rSettle_ok (an := 500) (M := [2, 3, 4, 5, 6]) (delta := 3) F_h6.wf (rf5.fr F_h6).rws (Sl.lit o_h6 rfl) G ok (by rw [lm]; omega) (by omega) (by omega) (by simp) (by simp)) ?_
  rintro _ h7 ⟨F7, s2, n2, e2, L', v', rfl, sr, hL⟩
  obtain ⟨q1, q2, q3, q4⟩ := ss.same ok sr G.fit G.pos yl kl
  subst q1 q2 q3
  obtain ⟨q5, q6⟩ := q4 rfl
  obtain ⟨aL, yL, gL⟩ := hL rfl
  rw [q5, q6, ← yL] at lo5
  have F57 := F_h6.then F7
  simp (disch := omega) only [evs, ↓reduceIte, Nat.reduceEqDiff, Nat.reduceAdd, Nat.reduceMul, Nat.reduceLeDiff, Nat.reduceLT, Int.reduceNeg, DF, eff, Nat.reduceSub, fwrap_i64, g15, eq_true (show (0 : Int) = 0 by rfl)]
  refine OQ_does (same_ok F7.wf (lo5.fr F57) aL gL) ?_
  rintro _ h8 ⟨rfl, F8⟩
  have F08 : FrF b h h8 := (F05.trans (frF F57)).trans (frF F8)
  simp (disch := omega) only [evs, ↓reduceIte, Nat.reduceEqDiff, Nat.reduceAdd, Nat.reduceMul, Nat.reduceLeDiff, Nat.reduceLT, Int.reduceNeg, DF, eff, Nat.reduceSub, fwrap_i64, eq_true (show (1 : Int) = 1 by rfl)]
  refine OQ_does (lives_ok (glb.frF F08 (by omega))) ?_
  rintro _ _ ⟨rfl, hh⟩
  replace hh := hh.symm
  subst hh
  simp (disch := omega) only [evs, ↓reduceIte, Nat.reduceEqDiff, Nat.reduceAdd, Nat.reduceMul, Nat.reduceLeDiff, Nat.reduceLT, Int.reduceNeg, DF, eff, Nat.reduceSub, fwrap_i64]
  exact K _ b hb F08
theorem kn3_ok {h : Heap} {env : T V} {R : V → Heap → Prop} (w : WF h) (glb : Glb h) (hn : 0 < h.next)
    (K : ∀ h' b, h.next ≤ b → FrF b h h' → R (.bool true) h') : W go kn3 env h (RetQ [.t 0] R) := by
  simp (disch := omega) only [evs, ↓reduceIte, Nat.reduceEqDiff, Nat.reduceAdd, Nat.reduceMul, Nat.reduceLeDiff, Nat.reduceLT, Int.reduceNeg, DF, eff, Nat.reduceSub, fwrap_i64, kn3]
  refine W_loop (fun k env hh => ∃ (j : Nat) (vo : V), Fr [] h hh ∧ env.get 16 = some (.int .i64 j) ∧ env.get 15 = some vo ∧ j ≤ 1024 ∧ GRecs rc 3 hh h.next vo (many j) ∧ k = 1024 - j) 1024 (by omega) ?_ ?_
  · exact ⟨0, .nils, Fr.refl w, (by simp [T.get_set]), (by simp [T.get_set]), by omega, GRecs.nil, rfl⟩
  rintro k env hh ⟨j, vo, F, g16, g15, hj, gO, rfl⟩
  by_cases hlt : (j : Int) < 1024
  · have t7 := tmod_i64 (j : Int) 7 (by omega)
    rw [show Int.tmod (j : Int) 7 = ((j % 7 : Nat) : Int) from (Int.ofNat_tmod j 7).symm] at t7
    have t100 := tmod_i64 (j : Int) 100 (by omega)
    rw [show Int.tmod (j : Int) 100 = ((j % 100 : Nat) : Int) from (Int.ofNat_tmod j 100).symm] at t100
    have dd : decide (((j % 100 : Nat) : Int) = 50) = decide (j % 100 = 50) := by rw [Bool.eq_iff_iff]; simp; omega
    obtain ⟨h5, e_h5⟩ : ∃ h5, h5 = halloc hh (rc (mkMany j)) := ⟨_, rfl⟩
    have F_h5 : Fr [] hh h5 := e_h5 ▸ Fr.halloc F.wf _
    have o_h5 : Own h5 hh.next (rc (mkMany j)) := e_h5 ▸ Own.new F.wf _
    have e5 : halloc hh [.int .i64 (1 + ((j % 7 : Nat) : Int)), .bool false, .bool (decide (j % 100 = 50))] = h5 := e_h5.symm
    simp (disch := omega) only [evs, ↓reduceIte, Nat.reduceEqDiff, Nat.reduceAdd, Nat.reduceMul, Nat.reduceLeDiff, Nat.reduceLT, Int.reduceNeg, DF, eff, Nat.reduceSub, fwrap_i64, g16, g15, eq_true hlt, t7, t100, dd, List.length_cons, List.length_nil, e5]
    refine GRecs.append (x := mkMany j) F_h5.wf (gO.fr F_h5) rc_len (rc_ones _) (by omega) o_h5 (Nat.le_trans F.next F_h5.next) (by rw [many_len]; omega) ?_
    intro v' h6 g6 F6
    have U6 := Gs.up (gO.fr F_h5) F6
    simp (disch := omega) only [evs, ↓reduceIte, Nat.reduceEqDiff, Nat.reduceAdd, Nat.reduceMul, Nat.reduceLeDiff, Nat.reduceLT, Int.reduceNeg, DF, eff, Nat.reduceSub, fwrap_i64, g16, g15]
    refine (roundQ_norm _ _ _).2 ⟨1024 - (j + 1), by omega, j + 1, v', (F.then F_h5).ups w U6, (by simp [T.get_set]), (by simp [T.get_set]), by omega, by rw [many_succ]; exact g6, rfl⟩
    done
  · have ej : j = 1024 := by omega
    subst ej
    simp (disch := omega) only [evs, ↓reduceIte, Nat.reduceEqDiff, Nat.reduceAdd, Nat.reduceMul, Nat.reduceLeDiff, Nat.reduceLT, Int.reduceNeg, DF, eff, Nat.reduceSub, fwrap_i64, g16, g15, eq_false hlt]
    exact kn4_ok F.wf (glb.fr F) (by have := F.next; omega) (GRecs.rwf gO) (by simp [T.get_set, g15]) (fun h' b q1 q2 => K h' b (Nat.le_trans F.next q1) ((frF F).trans q2))
end Go.Ev.Lay

/- LayoutsKnown: the greatest sizes. -/
namespace Go.Ev.Lay
set_option maxRecDepth 4000
def grt : List (Int × Bool × Bool) := [(2305843009213693952, false, false), (2305843009213693951, false, true), (1, false, false)]
theorem grt_good : Good grt := ⟨by decide, by decide, by decide⟩
theorem grt_win : winL (sz grt) 2147483648 16 4611686016279904256 = (0, 3) := by decide +kernel
theorem grt_clamp (x : Int) (h : 4611686016279904256 ≤ x) : clampL (sz grt) 2147483648 x = 4611686016279904256 := by
  have : (sz grt).sum = 4611686018427387904 := by decide
  unfold clampL; rw [this]; omega
theorem grt_hd : HdR (sz grt) (sy grt) 4611686016279904256 (sz grt).length 1 := by
  refine .inr ⟨1, rfl, by decide, by decide, by decide, fun i h1 h2 h3 => ?_⟩
  have : i = 2 := by have : (sz grt).length = 3 := rfl; omega
  subst this
  exact absurd h3 (by decide)
theorem grt_ok : okF 2147483648 16 := by unfold okF; omega
theorem grt_att {A : List Int} (a : AttL (sz grt) (sy grt) 2147483648 16 4611686016279904256 A) : A = [0, 1, 2] := by
  have := att_same grt_good.fit grt_good.pos rfl grt_ok (grt_clamp _ (by omega)) a ⟨1, grt_hd, rfl⟩
  rw [this, if_neg (by decide), grt_win]
  decide
theorem grt_place {r e : Int} (a : PlaceS (sz grt) (sy grt) 4611686016279904256 r e) : r = 0 ∧ e = 0 := by
  obtain ⟨hr, he, hs, hp⟩ := a
  have hh := hs
  unfold HeadS at hh
  rw [if_neg (by decide), if_pos (by decide)] at hh
  have lc : (locate (sz grt) 4611686016279904256).1 = 1 := by decide +kernel
  rw [lc, if_neg (by decide)] at hh
  obtain ⟨e0, p, e1, sq⟩ := hh
  have : p = 1 := Sel.uniq sq ⟨by decide, by decide, by decide⟩
  subst this
  rw [if_pos e0] at hp
  obtain ⟨z, q, q1, q2⟩ := hp
  have : q = 1 := by omega
  subst this
  rw [if_pos (by decide)] at q2
  exact ⟨q2, z⟩
theorem grt_sAt (r : Nat) (s : Int) : sAt (sz grt) 2147483648 2 0 false r s = 4611686016279904256 := by
  unfold sAt
  rw [if_pos ⟨by omega, .inr rfl⟩]
  exact grt_clamp _ (by decide)
theorem grt_err {m : Int → Int} {x s n e : Int} {l' : List Int} {ks' : List Bool} (hx : x ≠ 0) (hm : ∀ A, A = [0, 1, 2] → (lookR m A (sz grt) (ky grt) false).1 = x) (a : SetS m (sy grt) 2147483648 16 2 0 false 0 0 (sz grt) (ky grt) s n e l' ks') : e = x := by
  cases a with
  | bad a1 a2 => rw [grt_sAt] at a1; exact hm _ (grt_att a1)
  | done a1 a2 => rw [grt_sAt] at a1; have := hm _ (grt_att a1); rw [a2] at this; exact absurd this.symm hx
  | more a1 a2 _ => rw [grt_sAt] at a1; have := hm _ (grt_att a1); rw [a2] at this; exact absurd this.symm hx
theorem m15_ok (h : Heap) (i : Int) : Does go 15 [.int .i64 i] h fun u h' => u = .int .i64 0 ∧ h' = h := by
  refine does_fn g15 rfl ?_
  simp (disch := omega) only [fn15, evs, ↓reduceIte, Nat.reduceEqDiff, Nat.reduceAdd, Nat.reduceMul, Nat.reduceLeDiff, Nat.reduceLT, Int.reduceNeg, DF, eff, Nat.reduceSub, fwrap_i64]
theorem m16_ok (h : Heap) (i : Int) : Does go 16 [.int .i64 i] h fun u h' => u = .int .i64 2305843009213693952 ∧ h' = h := by
  refine does_fn g16 rfl ?_
  simp (disch := omega) only [fn16, evs, ↓reduceIte, Nat.reduceEqDiff, Nat.reduceAdd, Nat.reduceMul, Nat.reduceLeDiff, Nat.reduceLT, Int.reduceNeg, DF, eff, Nat.reduceSub, fwrap_i64]
theorem grt_bad : setBad (sz grt) 2147483648 16 2 0 false = 0 := by unfold setBad; rw [if_neg (by simp [grt_ok]), if_neg (by decide)]
theorem Known_ok {h : Heap} (w : WF h) (g : Glb h) (hn : 0 < h.next) : Does go 3 [] h fun u h' => u = .bool true ∧ ∀ x c, x < h.next → (∀ n m ws, ws.length = 64 → c ≠ flc n m ws) → Own h x c → Own h' x c := by
  obtain ⟨h1, e_h1⟩ : ∃ h1, h1 = halloc h (grt.flatMap rc) := ⟨_, rfl⟩
  have F_h1 : Fr [] h h1 := e_h1 ▸ Fr.halloc w _
  have o_h1 : Own h1 h.next (grt.flatMap rc) := e_h1 ▸ Own.new w _
  have e1 : halloc h [.int .i64 2305843009213693952, .bool false, .bool false, .int .i64 2305843009213693951, .bool false, .bool true, .int .i64 1, .bool false, .bool false] = h1 := e_h1.symm
  refine does_fn g3x rfl ?_
  simp (disch := omega) only [evs, ↓reduceIte, Nat.reduceEqDiff, Nat.reduceAdd, Nat.reduceMul, Nat.reduceLeDiff, Nat.reduceLT, Int.reduceNeg, DF, eff, Nat.reduceSub, fwrap_i64, fn3x, e1]
  have rf : RwF h1 (.slice h.next 0 3 3) grt := .inr ⟨h.next, .inr rfl, o_h1, by decide⟩
  refine OQ_does (Lay_ok F_h1.wf rf grt_good) ?_
  rintro _ h2 ⟨b, rfl, hb, lo2, F2⟩
  have hb0 : h.next ≤ b := Nat.le_trans F_h1.next hb
  have F02 : FrF b h h2 := (frF F_h1).trans F2
  obtain ⟨h3, e_h3⟩ : ∃ h3, h3 = halloc h2 [.int .i64 0, .int .i64 0, .bool false] := ⟨_, rfl⟩
  have F_h3 : Fr [] h2 h3 := e_h3 ▸ Fr.halloc F2.wf _
  have o_h3 : Own h3 h2.next [.int .i64 0, .int .i64 0, .bool false] := e_h3 ▸ Own.new F2.wf _
  simp (disch := omega) only [evs, ↓reduceIte, Nat.reduceEqDiff, Nat.reduceAdd, Nat.reduceMul, Nat.reduceLeDiff, Nat.reduceLT, Int.reduceNeg, DF, eff, Nat.reduceSub, fwrap_i64, ← e_h3]
  refine store_step (c' := [.int .i64 2147483648, .int .i64 16, .bool false]) F_h3.wf o_h3 rfl (by first | rfl | simp [onesB, V.cells, pv_one, *]) rfl ?_
  rintro h4 o_h4 F_h4 n_h4
  have F24 : Fr [] h2 h4 := F_h3.fresh F_h4 F2.wf (Nat.le_refl _)
  simp (disch := omega) only [evs, ↓reduceIte, Nat.reduceEqDiff, Nat.reduceAdd, Nat.reduceMul, Nat.reduceLeDiff, Nat.reduceLT, Int.reduceNeg, DF, eff, Nat.reduceSub, fwrap_i64]
  refine OQ_does (LTotal_ok F24.wf (lo2.fr F24)) ?_
  rintro _ h5 ⟨rfl, F5⟩
  have F25 := F24.then F5
  obtain ⟨h6, e_h6⟩ : ∃ h6, h6 = halloc h5 [.int .i64 1] := ⟨_, rfl⟩
  have F_h6 : Fr [] h5 h6 := e_h6 ▸ Fr.halloc F5.wf _
  have o_h6 : Own h6 h5.next [.int .i64 1] := e_h6 ▸ Own.new F5.wf _
  obtain ⟨h7, e_h7⟩ : ∃ h7, h7 = halloc h6 [.bool false] := ⟨_, rfl⟩
  have F_h7 : Fr [] h6 h7 := e_h7 ▸ Fr.halloc F_h6.wf _
  have o_h7 : Own h7 h6.next [.bool false] := e_h7 ▸ Own.new F_h6.wf _
  have F57 := F_h6.then F_h7
  have F27 := F25.then F57
  simp (disch := omega) only [evs, ↓reduceIte, Nat.reduceEqDiff, Nat.reduceAdd, Nat.reduceMul, Nat.reduceLeDiff, Nat.reduceLT, Int.reduceNeg, DF, eff, Nat.reduceSub, fwrap_i64, eq_true (show (sz grt).sum = 4611686018427387904 by decide), ← e_h6, ← e_h7]
  refine OQ_does (LIns_ok (m := [1]) (st := [false]) F_h7.wf (lo2.fr F27) (Sl.lit (F_h7.get o_h6) rfl) (Sl.lit o_h7 rfl) (by simp) rfl (by omega) (by omega)) ?_
  rintro _ h8 ⟨rfl, F8, lo8⟩
  have xe : xinsE (sz grt) 0 [1] = 13 := by decide
  rw [xe, if_neg (by omega)] at lo8
  rw [xe]
  have F08 : FrF b h h8 := (F02.trans (frF F27)).trans F8
  have fne : h2.next ≠ b := by
    obtain ⟨p, vk, pm, o, _⟩ := lo2
    have := o.lt F2.wf; omega
  have fo8 := F8.own _ _ fne (len_noflc (by simp)) (F57.get (F5.get o_h4))
  have glb8 := g.frF F08 (by omega)
  simp (disch := omega) only [evs, ↓reduceIte, Nat.reduceEqDiff, Nat.reduceAdd, Nat.reduceMul, Nat.reduceLeDiff, Nat.reduceLT, Int.reduceNeg, DF, eff, Nat.reduceSub, fwrap_i64, fo8.ld, eq_true (show (13 : Int) = 13 by rfl)]
  refine OQ_does (LClamp_ok F8.wf lo8) ?_
  rintro _ h9 ⟨rfl, F9⟩
  rw [if_pos grt_ok, grt_clamp _ (by omega)]
  simp (disch := omega) only [evs, ↓reduceIte, Nat.reduceEqDiff, Nat.reduceAdd, Nat.reduceMul, Nat.reduceLeDiff, Nat.reduceLT, Int.reduceNeg, DF, eff, Nat.reduceSub, fwrap_i64, (F9.get fo8).ld]
  refine OQ_does (LAtt_ok F9.wf (glb8.fr F9) (lo8.fr F9) grt_good.pos (by omega) (by omega)) ?_
  rintro u h10 ⟨F10, hu⟩
  rw [if_pos grt_ok, if_pos (grt_clamp _ (by omega)), if_neg (by decide)] at hu
  obtain ⟨A, c, rfl, oc, _, at'⟩ := hu
  have eA : A = [0, 1, 2] := grt_att (by unfold AttL; rw [if_neg (by decide)]; exact at')
  subst eA
  have F910 := F9.then F10
  simp (disch := omega) only [evs, ↓reduceIte, Nat.reduceEqDiff, Nat.reduceAdd, Nat.reduceMul, Nat.reduceLeDiff, Nat.reduceLT, Int.reduceNeg, DF, eff, Nat.reduceSub, fwrap_i64, (F910.get fo8).ld]
  refine OQ_does (LPlace_ok F10.wf (glb8.fr F910) (lo8.fr F910) (by omega) (by omega)) ?_
  rintro _ h11 ⟨⟨r, e, rfl, pl⟩, F11⟩
  obtain ⟨rfl, rfl⟩ := grt_place pl
  have F811 := F910.then F11
  obtain ⟨h12, e_h12⟩ : ∃ h12, h12 = halloc h11 [.int .i64 0, .int .i64 1, .int .i64 2] := ⟨_, rfl⟩
  have F_h12 : Fr [] h11 h12 := e_h12 ▸ Fr.halloc F11.wf _
  have o_h12 : Own h12 h11.next [.int .i64 0, .int .i64 1, .int .i64 2] := e_h12 ▸ Own.new F11.wf _
  have F812 := F811.then F_h12
  simp (disch := omega) only [evs, ↓reduceIte, Nat.reduceEqDiff, Nat.reduceAdd, Nat.reduceMul, Nat.reduceLeDiff, Nat.reduceLT, Int.reduceNeg, DF, eff, Nat.reduceSub, fwrap_i64, eq_true (show (0 : Int) = 0 by rfl), eq_true (show (4611686016279904256 : Int) = 4611686016279904256 by rfl), ← e_h12]
  refine OQ_does (ints_ok (A := [0, 1, 2]) (Sl.lit ((F11.then F_h12).get oc) rfl) (Sl.lit o_h12 rfl) (by simp)) ?_
  rintro _ _ ⟨rfl, hh⟩
  replace hh := hh.symm
  subst hh
  have fo12 := F812.get fo8
  simp (disch := omega) only [evs, ↓reduceIte, Nat.reduceEqDiff, Nat.reduceAdd, Nat.reduceMul, Nat.reduceLeDiff, Nat.reduceLT, Int.reduceNeg, DF, eff, Nat.reduceSub, fwrap_i64, eq_false (show ¬ (1 : Int) = 0 by omega), eq_true (show (0 : Int) = 0 by rfl), fo12.ld]
  refine OQ_does (Settle_ok (m := fun _ => 0) F_h12.wf (glb8.fr F812) (lo8.fr F812) grt_good.pos grt_bad (fun h i _ _ => m15_ok h i) (fun _ => by constructor <;> decide)) ?_
  rintro _ h13 ⟨s1, n1, e1', l1, ks1, rfl, ss1, lo13, L13⟩
  have q1 := grt_err (x := 12) (by omega) (fun A hA => by rw [hA]; decide) ss1
  subst q1
  rw [if_neg (by omega)] at lo13
  have fo13 := L13.f.own _ _ fne (len_noflc (by simp)) fo12
  have F013 : FrF b h h13 := (F08.trans (frF F812)).trans L13.f
  simp (disch := omega) only [evs, ↓reduceIte, Nat.reduceEqDiff, Nat.reduceAdd, Nat.reduceMul, Nat.reduceLeDiff, Nat.reduceLT, Int.reduceNeg, DF, eff, Nat.reduceSub, fwrap_i64, fo13.ld]
  refine OQ_does (Settle_ok (m := fun _ => 2305843009213693952) L13.f.wf (g.frF F013 (by omega)) lo13 grt_good.pos grt_bad (fun h i _ _ => m16_ok h i) (fun _ => by constructor <;> decide)) ?_
  rintro _ h14 ⟨s2, n2, e2', l2, ks2, rfl, ss2, lo14, L14⟩
  have q2 := grt_err (x := 13) (by omega) (fun A hA => by rw [hA]; decide) ss2
  subst q2
  rw [if_neg (by omega)] at lo14
  have F014 : FrF b h h14 := F013.trans L14.f
  obtain ⟨h15, e_h15⟩ : ∃ h15, h15 = halloc h14 (grt.flatMap rc) := ⟨_, rfl⟩
  have F_h15 : Fr [] h14 h15 := e_h15 ▸ Fr.halloc L14.f.wf _
  have o_h15 : Own h15 h14.next (grt.flatMap rc) := e_h15 ▸ Own.new L14.f.wf _
  have e15 : halloc h14 [.int .i64 2305843009213693952, .bool false, .bool false, .int .i64 2305843009213693951, .bool false, .bool true, .int .i64 1, .bool false, .bool false] = h15 := e_h15.symm
  simp (disch := omega) only [evs, ↓reduceIte, Nat.reduceEqDiff, Nat.reduceAdd, Nat.reduceMul, Nat.reduceLeDiff, Nat.reduceLT, Int.reduceNeg, DF, eff, Nat.reduceSub, fwrap_i64, eq_true (show (12 : Int) = 12 by rfl), eq_true (show (13 : Int) = 13 by rfl), e15]
  have rf15 : RwF h15 (.slice h14.next 0 3 3) grt := .inr ⟨h14.next, .inr rfl, o_h15, by decide⟩
  refine OQ_does (same_ok F_h15.wf (lo14.fr F_h15) rf15.rws grt_good) ?_
  rintro _ h16 ⟨rfl, F16⟩
  have F016 : FrF b h h16 := F014.trans (frF (F_h15.then F16))
  simp (disch := omega) only [evs, ↓reduceIte, Nat.reduceEqDiff, Nat.reduceAdd, Nat.reduceMul, Nat.reduceLeDiff, Nat.reduceLT, Int.reduceNeg, DF, eff, Nat.reduceSub, fwrap_i64, eq_false (show ¬ (1 : Int) = 0 by omega)]
  refine kn3_ok F16.wf (g.frF F016 (by omega)) (by have := F016.next; omega) ?_
  intro h' b2 k1 k2
  exact ⟨rfl, fun x c hx hc o => k2.own _ _ (by have := F016.next; omega) hc (F016.own _ _ (by omega) hc o)⟩
end Go.Ev.Lay
