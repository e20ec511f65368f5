/- An evaluator of the program, and contracts over it: LayO to LayAb. -/
import Derived.Test.YthhhghfnhbocnaaGreatDoorP06
set_option linter.unusedSimpArgs false
set_option linter.unusedVariables false
set_option linter.constructorNameAsVariable false
set_option linter.unnecessarySimpa false
namespace Go.Ev.Lay
theorem land256 (p q m M : Nat) (hp : p < 256) (hm : m < 256) : (p + 256 * q) &&& (m + 256 * M) = (p &&& m) + 256 * (q &&& M) := by
  have h1 : ((p + 256 * q) &&& (m + 256 * M)) % 2 ^ 8 = (p &&& m) := by
    rw [Nat.and_mod_two_pow]
    congr 1 <;> omega
  have h2 : ((p + 256 * q) &&& (m + 256 * M)) / 2 ^ 8 = (q &&& M) := by
    rw [Nat.and_div_two_pow]
    congr 1 <;> omega
  have := Nat.div_add_mod ((p + 256 * q) &&& (m + 256 * M)) (2 ^ 8)
  rw [h1, h2] at this
  omega
def val : List Nat → Nat
  | [] => 0
  | b :: l => b + 256 * val l
def rep (m : Nat) (l : List Nat) : Nat := val (l.map fun _ => m)
theorem dec1 : ∀ b, b < 256 → ∀ c, c < 2 → (b / 2 + 128 * c) &&& 85 = (b / 2) &&& 85 := by decide +kernel
theorem dec2 : ∀ b, b < 256 → ∀ c, c < 4 → (b / 4 + 64 * c) &&& 51 = (b / 4) &&& 51 := by decide +kernel
def f1 (b : Nat) : Nat := ((b / 2) &&& 85) + (b &&& 85)
def f2 (b : Nat) : Nat := ((b / 4) &&& 51) + (b &&& 51)
def f3 (b : Nat) : Nat := (b / 16 + b) % 16
theorem f1_lt : ∀ b, b < 256 → f1 b < 256 := by decide +kernel
theorem f2_lt : ∀ b, b < 256 → f2 (f1 b) / 16 ≤ 4 ∧ f2 (f1 b) % 16 ≤ 4 ∧ f2 (f1 b) < 256 := by decide +kernel
theorem stage1 : ∀ (l : List Nat), (∀ b ∈ l, b < 256) → ((val l / 2) &&& rep 85 l) + (val l &&& rep 85 l) = val (l.map f1)
  | [], _ => rfl
  | b :: l, h => by
    have hb := h b (by simp)
    have ih := stage1 l fun x hx => h x (by simp [hx])
    have e : (b + 256 * val l) / 2 = (b / 2 + 128 * (val l % 2)) + 256 * (val l / 2) := by omega
    show ((b + 256 * val l) / 2 &&& (85 + 256 * rep 85 l)) + ((b + 256 * val l) &&& (85 + 256 * rep 85 l)) = f1 b + 256 * val (l.map f1)
    rw [e, land256 _ _ _ _ (by omega) (by omega), land256 _ _ _ _ hb (by omega), dec1 b hb _ (by omega), ← ih]
    unfold f1
    omega
theorem stage2 : ∀ (l : List Nat), (∀ b ∈ l, b < 256) → ((val l / 4) &&& rep 51 l) + (val l &&& rep 51 l) = val (l.map f2)
  | [], _ => rfl
  | b :: l, h => by
    have hb := h b (by simp)
    have ih := stage2 l fun x hx => h x (by simp [hx])
    have e : (b + 256 * val l) / 4 = (b / 4 + 64 * (val l % 4)) + 256 * (val l / 4) := by omega
    show ((b + 256 * val l) / 4 &&& (51 + 256 * rep 51 l)) + ((b + 256 * val l) &&& (51 + 256 * rep 51 l)) = f2 b + 256 * val (l.map f2)
    rw [e, land256 _ _ _ _ (by omega) (by omega), land256 _ _ _ _ hb (by omega), dec2 b hb _ (by omega), ← ih]
    unfold f2
    omega
theorem stage3 : ∀ (l : List Nat), (∀ b ∈ l, b / 16 ≤ 4 ∧ b % 16 ≤ 4) → ((val l / 16 + val l) &&& rep 15 l) = val (l.map f3)
  | [], _ => rfl
  | b :: l, h => by
    have hb := h b (by simp)
    have ih := stage3 l fun x hx => h x (by simp [hx])
    have hv : val l % 16 ≤ 4 := by
      cases l with
      | nil => simp [val]
      | cons c l => have := h c (by simp); simp only [val]; omega
    have e : (b + 256 * val l) / 16 + (b + 256 * val l) = (b / 16 + 16 * (val l % 16) + b) + 256 * (val l / 16 + val l) := by omega
    show ((b + 256 * val l) / 16 + (b + 256 * val l)) &&& (15 + 256 * rep 15 l) = f3 b + 256 * val (l.map f3)
    rw [e, land256 _ _ _ _ (by omega) (by omega), ih, show (15 : Nat) = 2 ^ 4 - 1 from rfl, Nat.and_two_pow_sub_one_eq_mod]
    unfold f3
    omega
/-- how many of the first n bits are set -/
def pop (n x : Nat) : Nat := (List.range n).countP fun j => x.testBit j
theorem testBit_split (b V j : Nat) (hb : b < 256) : (b + 256 * V).testBit j = if j < 8 then b.testBit j else V.testBit (j - 8) := by
  rw [show b + 256 * V = 2 ^ 8 * V + b by omega, Nat.testBit_two_pow_mul_add V (by simpa using hb) j]
theorem pop_split (b V n : Nat) (hb : b < 256) : pop (8 + n) (b + 256 * V) = pop 8 b + pop n V := by
  unfold pop
  rw [List.range_add, List.countP_append, List.countP_map]
  congr 1
  · refine List.countP_congr fun j hj => ?_
    simp at hj
    rw [testBit_split _ _ _ hb, if_pos hj]
  · refine List.countP_congr fun j _ => ?_
    simp only [Function.comp]
    rw [testBit_split _ _ _ hb, if_neg (by omega)]
    simp
theorem pop8 : ∀ b, b < 256 → f3 (f2 (f1 b)) = pop 8 b ∧ pop 8 b ≤ 8 := by decide +kernel
theorem pop_val : ∀ (l : List Nat), (∀ b ∈ l, b < 256) → pop (8 * l.length) (val l) = (l.map (pop 8)).sum
  | [], _ => rfl
  | b :: l, h => by
    have ih := pop_val l fun x hx => h x (by simp [hx])
    rw [List.length_cons, show 8 * (l.length + 1) = 8 + 8 * l.length by omega, val, pop_split _ _ _ (h b (by simp)), ih]
    simp
/-- the bytes of a word -/
theorem bytes8 (x : Nat) (h : x < 18446744073709551616) : ∃ a b c d e f g i : Nat, a < 256 ∧ b < 256 ∧ c < 256 ∧ d < 256 ∧ e < 256 ∧ f < 256 ∧ g < 256 ∧ i < 256 ∧ x = val [a, b, c, d, e, f, g, i] := by
  refine ⟨x % 256, x / 256 % 256, x / 256 / 256 % 256, x / 256 / 256 / 256 % 256, x / 256 / 256 / 256 / 256 % 256, x / 256 / 256 / 256 / 256 / 256 % 256, x / 256 / 256 / 256 / 256 / 256 / 256 % 256, x / 256 / 256 / 256 / 256 / 256 / 256 / 256, by omega, by omega, by omega, by omega, by omega, by omega, by omega, by omega, ?_⟩
  simp only [val]
  omega
theorem dv (x y k : Nat) (hx : x < k) : (x + k * y) / k = y := by
  rw [Nat.add_mul_div_left _ _ (by omega), Nat.div_eq_of_lt hx, Nat.zero_add]
theorem lin1 (A B C D E F G I : Nat) : A + 256 * (B + 256 * (C + 256 * (D + 256 * (E + 256 * (F + 256 * (G + 256 * (I + 256 * 0))))))) = A + 256 * (B + 256 * C + 65536 * D + 16777216 * E + 4294967296 * F + 1099511627776 * G + 281474976710656 * I) := by omega
theorem lin2 (A B C D E F G I : Nat) : A + 256 * (B + 256 * C + 65536 * D + 16777216 * E + 4294967296 * F + 1099511627776 * G + 281474976710656 * I) + (B + 256 * C + 65536 * D + 16777216 * E + 4294967296 * F + 1099511627776 * G + 281474976710656 * I) =
  ((A + B) + 256 * (B + C)) + 65536 * ((C + D) + 256 * (D + E) + 65536 * (E + F) + 16777216 * (F + G) + 4294967296 * (G + I) + 1099511627776 * I) := by omega
theorem lin3 (A B C D E F G I : Nat) : ((A + B) + 256 * (B + C)) + 65536 * ((C + D) + 256 * (D + E) + 65536 * (E + F) + 16777216 * (F + G) + 4294967296 * (G + I) + 1099511627776 * I) + ((C + D) + 256 * (D + E) + 65536 * (E + F) + 16777216 * (F + G) + 4294967296 * (G + I) + 1099511627776 * I) =
  ((A + B + C + D) + 256 * (B + C + D + E) + 65536 * (C + D + E + F) + 16777216 * (D + E + F + G)) + 4294967296 * ((E + F + G + I) + 256 * (F + G + I) + 65536 * (G + I) + 16777216 * I) := by omega
theorem lin4 (A B C D E F G I : Nat) : ((A + B + C + D) + 256 * (B + C + D + E) + 65536 * (C + D + E + F) + 16777216 * (D + E + F + G)) + 4294967296 * ((E + F + G + I) + 256 * (F + G + I) + 65536 * (G + I) + 16777216 * I) + ((E + F + G + I) + 256 * (F + G + I) + 65536 * (G + I) + 16777216 * I) =
  (A + B + C + D + E + F + G + I) + 128 * (2 * ((B + C + D + E) + 256 * (C + D + E + F) + 65536 * (D + E + F + G) + 16777216 * ((E + F + G + I) + 256 * (F + G + I) + 65536 * (G + I) + 16777216 * I) + (F + G + I) + 256 * (G + I) + 65536 * I)) := by omega
theorem fold8 (A B C D E F G I : Nat) (p0 : A ≤ 8) (p1 : B ≤ 8) (p2 : C ≤ 8) (p3 : D ≤ 8) (p4 : E ≤ 8) (p5 : F ≤ 8) (p6 : G ≤ 8) (p7 : I ≤ 8) :
    (A + 256 * (B + 256 * (C + 256 * (D + 256 * (E + 256 * (F + 256 * (G + 256 * (I + 256 * 0))))))) + (A + 256 * (B + 256 * (C + 256 * (D + 256 * (E + 256 * (F + 256 * (G + 256 * (I + 256 * 0)))))))) / 256 +
      (A + 256 * (B + 256 * (C + 256 * (D + 256 * (E + 256 * (F + 256 * (G + 256 * (I + 256 * 0))))))) + (A + 256 * (B + 256 * (C + 256 * (D + 256 * (E + 256 * (F + 256 * (G + 256 * (I + 256 * 0)))))))) / 256) / 65536 +
      (A + 256 * (B + 256 * (C + 256 * (D + 256 * (E + 256 * (F + 256 * (G + 256 * (I + 256 * 0))))))) + (A + 256 * (B + 256 * (C + 256 * (D + 256 * (E + 256 * (F + 256 * (G + 256 * (I + 256 * 0)))))))) / 256 +
      (A + 256 * (B + 256 * (C + 256 * (D + 256 * (E + 256 * (F + 256 * (G + 256 * (I + 256 * 0))))))) + (A + 256 * (B + 256 * (C + 256 * (D + 256 * (E + 256 * (F + 256 * (G + 256 * (I + 256 * 0)))))))) / 256) / 65536) / 4294967296) % 128 =
      A + (B + (C + (D + (E + (F + (G + (I + 0))))))) := by
  rw [lin1, dv A _ 256 (by omega), lin2, dv _ _ 65536 (by omega), lin3, dv _ _ 4294967296 (by omega), lin4, Nat.add_mul_mod_self_left, Nat.mod_eq_of_lt (by omega)]
  omega
theorem swar (x : Nat) (h : x < 18446744073709551616) (y : Nat) (hy : y = ((x / 2) &&& 6148914691236517205) + (x &&& 6148914691236517205)) (z : Nat) (hz : z = ((y / 4) &&& 3689348814741910323) + (y &&& 3689348814741910323))
    (t : Nat) (ht : t = (z / 16 + z) &&& 1085102592571150095) : y < 18446744073709551616 ∧ z / 16 + z < 18446744073709551616 ∧ z < 18446744073709551616 ∧ t < 1000000000000000000 ∧
      ∃ u, u = t + t / 256 ∧ u < 9000000000000000000 ∧ ∃ v, v = u + u / 65536 ∧ v < 9100000000000000000 ∧ ∃ w, w = v + v / 4294967296 ∧ w < 9200000000000000000 ∧ w % 128 = pop 64 x := by
  obtain ⟨a, b, c, d, e, f, g, i, ha, hb, hc, hd, he, hf, hg, hi, rfl⟩ := bytes8 x h
  have hl : ∀ q ∈ [a, b, c, d, e, f, g, i], q < 256 := by simp; omega
  have s1 := stage1 _ hl
  rw [show rep 85 [a, b, c, d, e, f, g, i] = 6148914691236517205 by simp [rep, val], ← hy] at s1
  have hl1 : ∀ q ∈ [f1 a, f1 b, f1 c, f1 d, f1 e, f1 f, f1 g, f1 i], q < 256 := by
    simp; exact ⟨f1_lt a ha, f1_lt b hb, f1_lt c hc, f1_lt d hd, f1_lt e he, f1_lt f hf, f1_lt g hg, f1_lt i hi⟩
  have s2 := stage2 _ hl1
  rw [show rep 51 [f1 a, f1 b, f1 c, f1 d, f1 e, f1 f, f1 g, f1 i] = 3689348814741910323 by simp [rep, val]] at s2
  simp only [List.map_cons, List.map_nil] at s1 s2
  rw [← s1, ← hz] at s2
  have hl2 : ∀ q ∈ [f2 (f1 a), f2 (f1 b), f2 (f1 c), f2 (f1 d), f2 (f1 e), f2 (f1 f), f2 (f1 g), f2 (f1 i)], q / 16 ≤ 4 ∧ q % 16 ≤ 4 := by
    simp only [List.mem_cons, List.not_mem_nil, or_false, forall_eq_or_imp, forall_eq]
    have := f2_lt a ha; have := f2_lt b hb; have := f2_lt c hc; have := f2_lt d hd; have := f2_lt e he; have := f2_lt f hf; have := f2_lt g hg; have := f2_lt i hi
    omega
  have s3 := stage3 _ hl2
  rw [show rep 15 [f2 (f1 a), f2 (f1 b), f2 (f1 c), f2 (f1 d), f2 (f1 e), f2 (f1 f), f2 (f1 g), f2 (f1 i)] = 1085102592571150095 by simp [rep, val]] at s3
  simp only [List.map_cons, List.map_nil] at s3
  rw [← s2, ← ht] at s3
  rw [(pop8 a ha).1, (pop8 b hb).1, (pop8 c hc).1, (pop8 d hd).1, (pop8 e he).1, (pop8 f hf).1, (pop8 g hg).1, (pop8 i hi).1] at s3
  have hp := pop_val _ hl
  simp only [List.length_cons, List.length_nil, List.map_cons, List.map_nil, List.sum_cons, List.sum_nil, Nat.reduceAdd, Nat.reduceMul] at hp
  have p0 := (pop8 a ha).2; have p1 := (pop8 b hb).2; have p2 := (pop8 c hc).2; have p3 := (pop8 d hd).2; have p4 := (pop8 e he).2; have p5 := (pop8 f hf).2; have p6 := (pop8 g hg).2; have p7 := (pop8 i hi).2
  have q0 := f1_lt a ha; have q1 := f1_lt b hb; have q2 := f1_lt c hc; have q3 := f1_lt d hd; have q4 := f1_lt e he; have q5 := f1_lt f hf; have q6 := f1_lt g hg; have q7 := f1_lt i hi
  have r0 := f2_lt a ha; have r1 := f2_lt b hb; have r2 := f2_lt c hc; have r3 := f2_lt d hd; have r4 := f2_lt e he; have r5 := f2_lt f hf; have r6 := f2_lt g hg; have r7 := f2_lt i hi
  rw [hp]
  simp only [val] at s1 s2 s3
  refine ⟨by omega, by omega, by omega, by omega, _, rfl, by omega, _, rfl, by omega, _, rfl, by omega, ?_⟩
  generalize pop 8 a = A at *; generalize pop 8 b = B at *; generalize pop 8 c = C at *; generalize pop 8 d = D at *
  generalize pop 8 e = E at *; generalize pop 8 f = F at *; generalize pop 8 g = G at *; generalize pop 8 i = I at *
  clear hl hl1 hl2 s1 s2 hp hy hz ht q0 q1 q2 q3 q4 q5 q6 q7 r0 r1 r2 r3 r4 r5 r6 r7 h ha hb hc hd he hf hg hi
  rw [s3]
  exact fold8 A B C D E F G I p0 p1 p2 p3 p4 p5 p6 p7
theorem countP_getD : ∀ (n : Nat) (l : List Bool), (List.range n).countP (fun j => l.getD j false) = (l.take n).count true := by
  intro n
  induction n with
  | zero => intro l; simp
  | succ n ih =>
    intro l
    rw [List.range_succ, List.countP_append, ih, List.take_add_one, List.count_append]
    congr 1
    cases h : l[n]? with
    | none => simp [List.countP_cons, List.getD, h]
    | some b => cases b <;> simp [List.countP_cons, List.getD, h]
theorem pop_bits {x n : Nat} {bs : List Bool} {k : Nat} (hn : n ≤ 64) (h : ∀ j, j < 64 → x.testBit j = bs.getD (64 * k + j) false) : pop n x = ((bs.drop (64 * k)).take n).count true := by
  rw [← countP_getD]
  unfold pop
  refine List.countP_congr fun j hj => ?_
  simp at hj
  rw [h j (by omega)]
  simp [List.getD, List.getElem?_drop]
theorem pop_shl {x r : Nat} (hr : r ≤ 64) : pop 64 ((x * 2 ^ (64 - r)) % 18446744073709551616) = pop r x := by
  unfold pop
  have e : List.range 64 = List.range (64 - r) ++ (List.range r).map (fun j => (64 - r) + j) := by rw [← List.range_add]; congr 1; omega
  rw [e, List.countP_append, List.countP_map]
  have tb : ∀ j, j < 64 → ((x * 2 ^ (64 - r)) % 18446744073709551616).testBit j = (decide (64 - r ≤ j) && x.testBit (j - (64 - r))) := by
    intro j hj
    rw [show (18446744073709551616 : Nat) = 2 ^ 64 from rfl, Nat.testBit_mod_two_pow, Nat.mul_comm, Nat.testBit_two_pow_mul]
    simp [hj]
  have z : (List.range (64 - r)).countP (fun j => ((x * 2 ^ (64 - r)) % 18446744073709551616).testBit j) = 0 := by
    rw [List.countP_eq_zero]
    intro j hj
    simp at hj
    rw [tb j (by omega)]
    simp; omega
  rw [z, Nat.zero_add]
  refine List.countP_congr fun j hj => ?_
  simp at hj
  simp only [Function.comp]
  rw [tb _ (by omega)]
  simp
/-- the lowest bit that is set -/
def Low (x t : Nat) : Prop := x.testBit t = true ∧ ∀ j, j < t → x.testBit j = false
theorem low_form {x t : Nat} (h : Low x t) : ∃ q, x = 2 ^ (t + 1) * q + 2 ^ t := by
  obtain ⟨h1, h2⟩ := h
  have hm : x % 2 ^ t = 0 := by
    apply Nat.eq_of_testBit_eq
    intro i
    rw [Nat.testBit_mod_two_pow, Nat.zero_testBit]
    by_cases c : i < t
    · simp [c, h2 i c]
    · simp [c]
  have hd : x / 2 ^ t % 2 = 1 := by
    rw [Nat.testBit_eq_decide_div_mod_eq] at h1
    simpa using h1
  refine ⟨x / 2 ^ t / 2, ?_⟩
  have e1 := Nat.div_add_mod x (2 ^ t)
  rw [hm, Nat.add_zero] at e1
  have e2 := Nat.div_add_mod (x / 2 ^ t) 2
  rw [hd] at e2
  rw [Nat.pow_succ, Nat.mul_assoc, ← Nat.mul_succ]
  conv => lhs; rw [← e1, ← e2]
theorem low_pred {x t : Nat} (h : Low x t) : ∀ j, (x - 1).testBit j = if j < t then true else if j = t then false else x.testBit j := by
  obtain ⟨q, rfl⟩ := low_form h
  intro j
  have hp : 0 < 2 ^ t := Nat.two_pow_pos t
  have hs : 2 ^ (t + 1) = 2 ^ t + 2 ^ t := by rw [Nat.pow_succ]; omega
  have e : 2 ^ (t + 1) * q + 2 ^ t - 1 = 2 ^ (t + 1) * q + (2 ^ t - 1) := by omega
  rw [e, Nat.testBit_two_pow_mul_add q (show 2 ^ t - 1 < 2 ^ (t + 1) by omega), Nat.testBit_two_pow_mul_add q (show 2 ^ t < 2 ^ (t + 1) by omega)]
  by_cases c1 : j < t
  · rw [if_pos (by omega), if_pos c1, Nat.testBit_two_pow_sub_one]; simp [c1]
  · by_cases c2 : j = t
    · subst c2; simp [Nat.testBit_two_pow_sub_one]
    · rw [if_neg (by omega), if_neg c1, if_neg c2, if_neg (by omega)]
theorem low_clear {x t : Nat} (h : Low x t) (j : Nat) : (x &&& (x - 1)).testBit j = (x.testBit j && !decide (j = t)) := by
  rw [Nat.testBit_and, low_pred h]
  by_cases c1 : j < t
  · rw [if_pos c1, h.2 j c1]; simp
  · by_cases c2 : j = t
    · subst c2; simp
    · rw [if_neg c1, if_neg c2]; simp [c2]
theorem low_neg {x t : Nat} (h : Low x t) (hx : x < 18446744073709551616) (ht : t < 64) : x &&& (18446744073709551616 - x) = 2 ^ t := by
  have hx0 : x ≠ 0 := by rintro rfl; simp [Low] at h
  apply Nat.eq_of_testBit_eq
  intro i
  have e : 18446744073709551616 - x = 2 ^ 64 - ((x - 1) + 1) := by omega
  rw [Nat.testBit_and, e, Nat.testBit_two_pow_sub_succ (by omega), low_pred h, Nat.testBit_two_pow]
  by_cases c1 : i < t
  · rw [if_pos c1]; simp; omega
  · by_cases c2 : i = t
    · subst c2; simp [h.1, ht]
    · rw [if_neg c1, if_neg c2]
      have : t ≠ i := Ne.symm c2
      simp [this]
      intro a _; exact a
theorem min_ex (p : Nat → Bool) : ∀ t, p t = true → ∃ t, p t = true ∧ ∀ j, j < t → p j = false := by
  intro t
  induction t using Nat.strongRecOn with
  | ind t ih =>
    intro ht
    by_cases h : ∃ j, j < t ∧ p j = true
    · obtain ⟨j, hj, hp⟩ := h; exact ih j hj hp
    · refine ⟨t, ht, fun j hj => ?_⟩
      cases hp : p j
      · rfl
      · exact absurd ⟨j, hj, hp⟩ h
theorem low_exists {x : Nat} (hx : x ≠ 0) : ∃ t, Low x t := by
  obtain ⟨i, hi⟩ := Nat.exists_testBit_of_ne_zero hx
  exact min_ex _ i hi
def tab64 : List Nat := [0, 1, 56, 2, 57, 49, 28, 3, 61, 58, 42, 50, 38, 29, 17, 4, 62, 47, 59, 36, 45, 43, 51, 22, 53, 39, 33, 30, 24, 18, 12, 5, 63, 55, 48, 27, 60, 41, 37, 16, 46, 35, 44, 21, 52, 32, 23, 11, 54, 26, 40, 15, 34, 20, 31, 10, 25, 14, 19, 9, 13, 8, 7, 6]
def tabc : List V := tab64.map fun (x : Nat) => V.int .u8 (x : Int)
theorem bruijn : ∀ t, t < 64 → tab64[(2 ^ t * 285870213051353865 % 18446744073709551616) / 288230376151711744]? = some t ∧ (2 ^ t * 285870213051353865 % 18446744073709551616) / 288230376151711744 < 64 := by decide +kernel
end Go.Ev.Lay
namespace Go.Ev.Ab
abbrev i (k : Int) : Opd := .c (.int .i64 k)
abbrev b (k : Int) : Opd := .c (.int .u8 k)
abbrev u (k : Int) : Opd := .c (.int .u64 k)
abbrev tt : Opd := .c (.bool true)
abbrev ff : Opd := .c (.bool false)
abbrev p (k : PK) (x : List Opd) : IStep := ⟨none, .p k x, none⟩
abbrev q (k : PK) (x : List Opd) (d : Nat) : IStep := ⟨none, .p k x, some d⟩
abbrev m (x : Opd) : IStep := ⟨none, .p .mv [x], none⟩
abbrev o (x : Opd) (d : Nat) : IStep := ⟨none, .p .mv [x], some d⟩
abbrev a (k : Nat) : IStep := ⟨none, .p (.faddr k) [.l 0], none⟩
abbrev A (k v : Nat) : IStep := ⟨none, .p (.faddr k) [.v v], none⟩
abbrev e (k : Nat) : IStep := ⟨none, .p (.ext k) [.l k], none⟩
abbrev L : IStep := ⟨none, .ld 1 false (.l 0), none⟩
abbrev c (f : Nat) (x : List Opd) : IStep := ⟨none, .cf f x, none⟩
abbrev n (o : IOp) : IStep := ⟨none, o, none⟩
abbrev N (o : IOp) (d : Nat) : IStep := ⟨none, o, some d⟩
abbrev f (j : Nat) (k : PK) (y : List Opd) : IStep := ⟨some (.l j, false), .p k y, none⟩
abbrev y (j : Nat) (x : Opd) : IStep := ⟨some (.l j, false), .p .mv [x], none⟩
abbrev z (j : Nat) (x : Opd) : IStep := ⟨some (.l j, true), .p .mv [x], none⟩
abbrev t (j : Nat) (k : PK) (y : List Opd) : IStep := ⟨some (.l j, true), .p k y, none⟩
abbrev g (j : Nat) (o : IOp) : IStep := ⟨some (.l j, false), o, none⟩
abbrev h (j : Nat) (o : IOp) : IStep := ⟨some (.l j, true), o, none⟩
abbrev G (x : Opd) (w : Bool) (o : IOp) (d : Nat) : IStep := ⟨some (x, w), o, some d⟩
abbrev s (l : List IStep) (k : IC) : IC := .seq (.ops l) k
abbrev zK : List V := [.int .u8 0, .str [], .str [], .nils, .str [], .nils, .int .i64 0, .bool false, .int .i64 0]
abbrev zE : List V := [.int .u64 0, .int .u8 0, .str [], .nils, .int .i64 0, .bool false]
abbrev zO : List V := [.int .u8 0, .int .i64 0, .int .i64 0, .int .i64 0, .nils]
abbrev zN : List V := [.int .u8 0, .str [], .str [], .nils, .str [], .nils]
abbrev zI : List V := [.int .u64 0, .int .u8 0, .str [], .nils]
abbrev r (v : Nat) (l : List IStep) : IC := .cond (.v v) (.seq (.ops l) .ret) .skip
abbrev ad : PK := .ib .add
abbrev su : PK := .ib .sub
abbrev mu : PK := .ib .mul
abbrev eq : PK := .ib .eql
abbrev ne : PK := .ib .neq
abbrev lt : PK := .ib .lss
abbrev gt : PK := .ib .gtr
abbrev le : PK := .ib .leq
abbrev ge : PK := .ib .geq
abbrev P (k : Nat) : IStep := ⟨none, .p .pick [.l k, .c (.bool true), .l 0], none⟩
abbrev Q (k : Nat) : IStep := ⟨none, .p .pick [.l k, .l 0, .c (.bool false)], none⟩
abbrev v (k : Nat) : IStep := ⟨none, .p .nilck [.v k], none⟩
abbrev k : IStep := ⟨none, .p .nilck [.l 0], none⟩
abbrev l : IOp := .ld 1 false (.l 0)
abbrev d (k j : Nat) : IStep := ⟨none, .ld k true (.l j), none⟩
abbrev D (k j : Nat) : IStep := ⟨none, .ld k true (.v j), none⟩
abbrev ls : IStep := ⟨none, .p .lenS [.l 0], none⟩
abbrev lv (k : Nat) : IStep := ⟨none, .p .lenS [.v k], none⟩
abbrev S (k j : Nat) : IStep := ⟨none, .st k (.v j) (.l 0), none⟩
abbrev w (k : Nat) : IStep := ⟨none, .st k (.l 0) (.l 1), none⟩
abbrev al (z : List V) (d : Nat) : IStep := ⟨none, .al z, some d⟩
abbrev bx (k d : Nat) : IStep := ⟨none, .bx (.v k), some d⟩
abbrev x (k n : Nat) : IC := .cond (.v k) .skip (.exit n)
abbrev I (k : Nat) : IC := .ops [m (.v k), p ad [.l 0, i 1], o (.l 0) k]
abbrev J (k : Nat) : IC := .ops [p ad [.v k, i 1], o (.l 0) k]
abbrev ds (l : List IStep) (B R : List Nat) (r : List (Nat × Nat × Nat)) (t : List (Nat × Nat)) : IC := .dops l [] B R r t
abbrev lp (n k : Nat) (l : List IStep) (c b i : IC) : IC := .block n (.loop (.seq (.seq (.ops l) c) (.seq (.block k b) i)))
abbrev zH : List V := [.int .u64 0, .int .i64 0]
abbrev fv (j : Nat) (k : PK) (y : List Opd) : IStep := ⟨some (.v j, false), .p k y, none⟩
abbrev tv (j : Nat) (k : PK) (y : List Opd) : IStep := ⟨some (.v j, true), .p k y, none⟩
abbrev gv (j : Nat) (o : IOp) : IStep := ⟨some (.v j, false), o, none⟩
abbrev hv (j : Nat) (o : IOp) : IStep := ⟨some (.v j, true), o, none⟩
abbrev Y : Opd := .l 0
abbrev O : Opd := .c (.int .i64 0)
abbrev U : List Opd := [.l 0]
abbrev B (k : Nat) : List Opd := [.l k, .l 0]
abbrev O1 (d : Nat) : IStep := ⟨none, .p .mv [.l 0], some d⟩
abbrev O0 (d : Nat) : IStep := ⟨none, .p .mv [.c (.int .i64 0)], some d⟩
abbrev On (d : Nat) : IStep := ⟨none, .p .mv [.c .nils], some d⟩
abbrev Of (d : Nat) : IStep := ⟨none, .p .mv [.c (.bool false)], some d⟩
abbrev mv (k : Nat) : IStep := ⟨none, .p .mv [.v k], none⟩
abbrev yv (j k : Nat) : IStep := ⟨some (.l j, false), .p .mv [.v k], none⟩
abbrev zv (j k : Nat) : IStep := ⟨some (.l j, true), .p .mv [.v k], none⟩
end Go.Ev.Ab
