/- An evaluator of the program and contracts proved over it: the texts EvFa. -/
import Derived.Test.YtfhplbpjpmaoiaaGreatDoorP05
set_option linter.unusedSimpArgs false
set_option linter.unusedVariables false
set_option linter.constructorNameAsVariable false
/- The evaluator once more, written for the kernel; and that it is the same. -/
namespace Go.Ev
/-- if there is a value -/
noncomputable def ov (o : Option V) (k : V → Out) : Out := Option.rec (motive := fun _ => Out) .fail k o
theorem ov_some (v : V) (k : V → Out) : ov (some v) k = k v := rfl
noncomputable def nthK (loc : List V) : Nat → (V → Out) → Out :=
  List.rec (motive := fun _ => Nat → (V → Out) → Out) (fun _ _ => .fail) (fun v _ ih i k => Nat.rec (motive := fun _ => Out) (k v) (fun j _ => ih j k) i) loc
theorem nthK_eq (loc : List V) : ∀ i k, nthK loc i k = ov (nth loc i) k := by
  induction loc with
  | nil => intro i k; rfl
  | cons v l ih => intro i k; cases i with
    | zero => rfl
    | succ i => exact ih i k
noncomputable def evOk (loc : List V) (env : T V) (x : Opd) (k : V → Out) : Out :=
  Opd.rec (motive := fun _ => Out) (fun i => nthK loc i k) (fun s => ov (env.get s) k) k (fun n => k (.ptr n 0)) x
theorem evOk_eq (loc : List V) (env : T V) (x : Opd) (k : V → Out) : evOk loc env x k = ov (evO loc env x) k := by
  cases x with
  | l i => exact nthK_eq loc i k
  | v s => rfl
  | c v => rfl
  | g n => rfl
noncomputable def asI (v : V) (k : IntKind → Int → Out) : Out :=
  V.rec (motive_1 := fun _ => Out) (motive_2 := fun _ => Out) (fun _ => .fail) k (fun _ => .fail) .fail (fun _ _ => .fail) .fail (fun _ _ _ _ => .fail) (fun _ _ _ _ => .fail) .fail .fail (fun _ => .fail) .fail (fun _ _ _ _ _ => .fail) .fail (fun _ _ _ => .fail) (fun _ _ => .fail) (fun _ _ => .fail) (fun _ => .fail) (fun _ _ => .fail) .fail (fun _ _ _ _ => .fail) v
noncomputable def asB (v : V) (k : Bool → Out) : Out :=
  V.rec (motive_1 := fun _ => Out) (motive_2 := fun _ => Out) k (fun _ _ => .fail) (fun _ => .fail) .fail (fun _ _ => .fail) .fail (fun _ _ _ _ => .fail) (fun _ _ _ _ => .fail) .fail .fail (fun _ => .fail) .fail (fun _ _ _ _ _ => .fail) .fail (fun _ _ _ => .fail) (fun _ _ => .fail) (fun _ _ => .fail) (fun _ => .fail) (fun _ _ => .fail) .fail (fun _ _ _ _ => .fail) v
noncomputable def asG (v : V) (k : Bool → Out) (n : Out) : Out :=
  V.rec (motive_1 := fun _ => Out) (motive_2 := fun _ => Out) k (fun _ _ => .fail) (fun _ => .fail) .fail (fun _ _ => .fail) .fail (fun _ _ _ _ => .fail) (fun _ _ _ _ => .fail) .fail .fail (fun _ => .fail) .fail (fun _ _ _ _ _ => .fail) .fail (fun _ _ _ => .fail) (fun _ _ => .fail) (fun _ _ => n) (fun _ => .fail) (fun _ _ => .fail) .fail (fun _ _ _ _ => .fail) v
noncomputable def asP (v : V) (k : Nat → Nat → Out) : Out :=
  V.rec (motive_1 := fun _ => Out) (motive_2 := fun _ => Out) (fun _ => .fail) (fun _ _ => .fail) (fun _ => .fail) .fail k .fail (fun _ _ _ _ => .fail) (fun _ _ _ _ => .fail) .fail .fail (fun _ => .fail) .fail (fun _ _ _ _ _ => .fail) .fail (fun _ _ _ => .fail) (fun _ _ => .fail) (fun _ _ => .fail) (fun _ => .fail) (fun _ _ => .fail) .fail (fun _ _ _ _ => .fail) v
noncomputable def asT (v : V) (k : List V → Out) : Out :=
  V.rec (motive_1 := fun _ => Out) (motive_2 := fun _ => Out) (fun _ => .fail) (fun _ _ => .fail) (fun _ => .fail) .fail (fun _ _ => .fail) .fail (fun _ _ _ _ => .fail) (fun _ _ _ _ => .fail) .fail .fail (fun _ => .fail) .fail (fun _ _ _ _ _ => .fail) .fail (fun _ _ _ => .fail) (fun _ _ => .fail) (fun l _ => k l) (fun _ => .fail) (fun _ _ => .fail) .fail (fun _ _ _ _ => .fail) v
noncomputable def one (loc : List V) (env : T V) (xs : List Opd) (k : V → Out) : Out :=
  List.rec (motive := fun _ => Out) .fail (fun x xs _ => List.rec (motive := fun _ => Out) (evOk loc env x k) (fun _ _ _ => .fail) xs) xs
noncomputable def two (loc : List V) (env : T V) (xs : List Opd) (k : V → V → Out) : Out :=
  List.rec (motive := fun _ => Out) .fail (fun x xs _ => List.rec (motive := fun _ => Out) .fail (fun y xs _ => List.rec (motive := fun _ => Out) (evOk loc env x fun a => evOk loc env y fun b => k a b) (fun _ _ _ => .fail) xs) xs) xs
/-- what a pure operation comes to -/
noncomputable def spP (p : PK) (xs : List Opd) (loc : List V) (env : T V) (k : V → Out) : Out :=
  match evOs loc env xs with
  | some vs => ov (aP p vs) k
  | none => .fail
theorem one_spec {p : PK} {xs : List Opd} {loc : List V} {env : T V} {k : V → Out} {f : V → Out} (h1 : ∀ v, f v = ov (aP p [v]) k) (h0 : aP p [] = none) (h2 : ∀ a b l, aP p (a :: b :: l) = none) : one loc env xs f = spP p xs loc env k := by
  unfold spP
  match xs with
  | [] => show Out.fail = _; rw [show evOs loc env [] = some [] from rfl]; simp only []; rw [h0]; rfl
  | [x] =>
    show evOk loc env x f = _
    rw [evOk_eq, evOs_cons]
    cases evO loc env x with
    | none => rfl
    | some v => rw [show evOs loc env [] = some [] from rfl]; exact h1 v
  | x :: y :: l =>
    show Out.fail = _
    rw [evOs_cons, evOs_cons]
    cases evO loc env x with
    | none => rfl
    | some v =>
      cases evO loc env y with
      | none => rfl
      | some u =>
        cases evOs loc env l with
        | none => rfl
        | some us => simp only []; rw [h2]; rfl
theorem two_spec {p : PK} {xs : List Opd} {loc : List V} {env : T V} {k : V → Out} {f : V → V → Out} (h2 : ∀ a b, f a b = ov (aP p [a, b]) k) (h0 : aP p [] = none) (h1 : ∀ a, aP p [a] = none) (h3 : ∀ a b c l, aP p (a :: b :: c :: l) = none) :
    two loc env xs f = spP p xs loc env k := by
  unfold spP
  match xs with
  | [] => show Out.fail = _; rw [show evOs loc env [] = some [] from rfl]; simp only []; rw [h0]; rfl
  | [x] =>
    show Out.fail = _
    rw [evOs_cons]
    cases evO loc env x with
    | none => rfl
    | some v => rw [show evOs loc env [] = some [] from rfl]; simp only []; rw [h1]; rfl
  | [x, y] =>
    show (evOk loc env x fun a => evOk loc env y fun b => f a b) = _
    rw [evOk_eq, evOs_cons, evOs_cons]
    cases evO loc env x with
    | none => rfl
    | some v =>
      rw [ov_some, evOk_eq]
      cases evO loc env y with
      | none => rfl
      | some u => rw [show evOs loc env [] = some [] from rfl]; exact h2 v u
  | x :: y :: z :: l =>
    show Out.fail = _
    rw [evOs_cons, evOs_cons, evOs_cons]
    cases evO loc env x with
    | none => rfl
    | some v =>
      cases evO loc env y with
      | none => rfl
      | some u =>
        cases evO loc env z with
        | none => rfl
        | some t =>
          cases evOs loc env l with
          | none => rfl
          | some us => simp only []; rw [h3]; rfl
/-! numbers -/
noncomputable def wr (t : IntKind) (n : Int) (k : V → Out) : Out :=
  Int.rec (motive := fun _ => Out) (fun a => Bool.rec (motive := fun _ => Out) (fI (t.wrap (.ofNat a)) fun n => k (.int t n)) (fN a fun a => k (.int t (.ofNat a))) (Nat.blt a (lim t)))
    (fun a => Bool.rec (motive := fun _ => Out) (fI (t.wrap (.negSucc a)) fun n => k (.int t n)) (fN a fun a => k (.int t (.negSucc a))) (t.signed && Nat.blt a (lim t))) n
theorem wr_eq (t : IntKind) (n : Int) (k : V → Out) : wr t n k = k (.int t (fwrap t n)) := by
  cases n with
  | ofNat a =>
    show Bool.rec (motive := fun _ => Out) (fI (t.wrap (.ofNat a)) fun n => k (.int t n)) (fN a fun a => k (.int t (.ofNat a))) (Nat.blt a (lim t)) = k (.int t (bif Nat.blt a (lim t) then .ofNat a else t.wrap (.ofNat a)))
    cases Nat.blt a (lim t) <;> simp [fI_eq, fN_eq]
  | negSucc a =>
    show Bool.rec (motive := fun _ => Out) (fI (t.wrap (.negSucc a)) fun n => k (.int t n)) (fN a fun a => k (.int t (.negSucc a))) (t.signed && Nat.blt a (lim t)) = k (.int t (bif t.signed && Nat.blt a (lim t) then .negSucc a else t.wrap (.negSucc a)))
    cases (t.signed && Nat.blt a (lim t)) <;> simp [fI_eq, fN_eq]
noncomputable def kb (b : Bool) (k : V → Out) : Out := Bool.rec (motive := fun _ => Out) (k (.bool false)) (k (.bool true)) b
theorem kb_eq (b : Bool) (k : V → Out) : kb b k = k (.bool b) := by cases b <;> rfl
noncomputable def slowI (op : BinOp) (t : IntKind) (a b : Int) (k : V → Out) : Out := ov (ibin op t a b) fun v => fV v k
theorem slowI_eq (op : BinOp) (t : IntKind) (a b : Int) (k : V → Out) : slowI op t a b k = ov (ibin op t a b) k := by
  unfold slowI; congr 1; funext v; rw [fV_eq]
noncomputable def ibK (op : BinOp) (t : IntKind) (a b : Int) (k : V → Out) : Out :=
  BinOp.rec (motive := fun _ => Out) (wr t (Int.add a b) k) (wr t (Int.sub a b) k) (wr t (Int.mul a b) k)
    (slowI .quo t a b k) (slowI .rem t a b k) (slowI .and t a b k) (slowI .or t a b k) (slowI .xor t a b k) .fail .fail (slowI .andNot t a b k)
    (kb (ieq a b) k) (kb (!ieq a b) k) (kb (ilt a b) k) (kb (!ilt b a) k) (kb (ilt b a) k) (kb (!ilt a b) k) op
theorem ibK_eq (op : BinOp) (t : IntKind) (a b : Int) (k : V → Out) : ibK op t a b k = ov (ibin op t a b) k := by
  cases op
  case quo => exact slowI_eq _ _ _ _ _
  case rem => exact slowI_eq _ _ _ _ _
  case and => exact slowI_eq _ _ _ _ _
  case or => exact slowI_eq _ _ _ _ _
  case xor => exact slowI_eq _ _ _ _ _
  case andNot => exact slowI_eq _ _ _ _ _
  case shl => rfl
  case shr => rfl
  case add => exact wr_eq _ _ _
  case sub => exact wr_eq _ _ _
  case mul => exact wr_eq _ _ _
  all_goals exact kb_eq _ _
noncomputable def ib2 (op : BinOp) (x y : V) (k : V → Out) : Out :=
  asI x fun t a => asI y fun t' b => Bool.rec (motive := fun _ => Out) .fail (ibK op t a b k) (kbeq t t')
theorem ib2_eq (op : BinOp) (x y : V) (k : V → Out) : ib2 op x y k = ov (aP (.ib op) [x, y]) k := by
  cases x <;> first | rfl | skip
  cases y <;> first | rfl | skip
  rename_i t a t' b
  show Bool.rec (motive := fun _ => Out) .fail (ibK op t a b k) (kbeq t t') = ov (bif kbeq t t' then ibin op t a b else none) k
  cases kbeq t t'
  · rfl
  · exact ibK_eq _ _ _ _ _
noncomputable def slowP (p : PK) (xs : List Opd) (loc : List V) (env : T V) (k : V → Out) : Out :=
  Option.rec (motive := fun _ => Out) .fail (fun vs => ov (aP p vs) fun v => fV v k) (evOs loc env xs)
theorem slowP_eq (p : PK) (xs : List Opd) (loc : List V) (env : T V) (k : V → Out) : slowP p xs loc env k = spP p xs loc env k := by
  unfold slowP spP
  cases evOs loc env xs with
  | none => rfl
  | some vs => show (ov (aP p vs) fun v => fV v k) = _; congr 1; funext v; rw [fV_eq]
noncomputable def pK (p : PK) (xs : List Opd) (loc : List V) (env : T V) (k : V → Out) : Out :=
  PK.rec (motive := fun _ => Out)
    (one loc env xs k)
    (slowP .pick xs loc env k)
    (slowP .nilck xs loc env k)
    (fun op => two loc env xs fun a b => ib2 op a b k)
    (fun l => slowP (.sh l) xs loc env k)
    (one loc env xs fun v => asB v fun b => kb (!b) k)
    (slowP .neg xs loc env k) (slowP .cmpl xs loc env k)
    (fun n => slowP (.bb n) xs loc env k)
    (fun a b => slowP (.nil a b) xs loc env k)
    (fun a => one loc env xs fun v => asP v fun b o => fN (Nat.add o a) fun o => k (.ptr b o))
    (fun a b c => slowP (.field a b c) xs loc env k)
    (fun a b => slowP (.ixa a b) xs loc env k) (fun a => slowP (.ixs a) xs loc env k) (fun a b c => slowP (.ixarr a b c) xs loc env k)
    (fun i => one loc env xs fun v => asT v fun l => nthK l i k)
    (fun a b => slowP (.mkf a b) xs loc env k) (fun a => slowP (.mki a) xs loc env k) (fun a b => slowP (.build a b) xs loc env k)
    (fun a b c d e => slowP (.sl a b c d e) xs loc env k)
    (slowP .lenS xs loc env k) (fun a => slowP (.lenArr a) xs loc env k) (slowP .capS xs loc env k) (fun a => slowP (.capArr a) xs loc env k)
    (slowP .mn xs loc env k) (slowP .mx xs loc env k) (fun a => slowP (.conv a) xs loc env k)
    (fun a b => slowP (.seq a b) xs loc env k) (fun a => slowP (.sb a) xs loc env k) (slowP .lenStr xs loc env k) (slowP .ixstr xs loc env k) (fun a b => slowP (.slstr a b) xs loc env k) p
theorem pK_eq (p : PK) (xs : List Opd) (loc : List V) (env : T V) (k : V → Out) : pK p xs loc env k = spP p xs loc env k := by
  cases p
  case mv => exact one_spec (fun v => rfl) rfl (fun _ _ _ => rfl)
  case ib op => exact two_spec (fun a b => ib2_eq op a b k) rfl (fun a => by cases a <;> rfl) (fun a b c l => by cases a <;> first | rfl | (cases b <;> rfl))
  case not => exact one_spec (fun v => by cases v <;> first | rfl | exact kb_eq _ _) rfl (fun a _ _ => by cases a <;> rfl)
  case faddr a => exact one_spec (fun v => by cases v <;> first | rfl | (rename_i b o; exact fN_eq (Nat.add o a) (fun o => k (.ptr b o)))) rfl (fun a _ _ => by cases a <;> rfl)
  case ext i => exact one_spec (fun v => by cases v <;> first | rfl | exact nthK_eq _ _ _) rfl (fun a _ _ => by cases a <;> rfl)
  all_goals exact slowP_eq _ _ _ _ _
/-! memory and calls -/
noncomputable def spO (call : CallF) (loc : List V) (env : T V) (h : Heap) (o : IOp) (k : V → Heap → Out) : Out :=
  match evOp call loc env h o with
  | some (v, h) => k v h
  | none => .fail
noncomputable def slowO (call : CallF) (loc : List V) (env : T V) (h : Heap) (o : IOp) (k : V → Heap → Out) : Out :=
  Option.rec (motive := fun _ => Out) .fail (fun p => Prod.rec (motive := fun _ => Out) (fun v h => fV v fun v => k v h) p) (evOp call loc env h o)
theorem slowO_eq (call : CallF) (loc : List V) (env : T V) (h : Heap) (o : IOp) (k : V → Heap → Out) : slowO call loc env h o k = spO call loc env h o k := by
  unfold slowO spO
  cases evOp call loc env h o with
  | none => rfl
  | some p => obtain ⟨v, h'⟩ := p; exact fV_eq _ _
noncomputable def callK (call : CallF) (f : Nat) (xs : List Opd) (loc : List V) (env : T V) (h : Heap) (k : V → Heap → Out) : Out :=
  Option.rec (motive := fun _ => Out) .fail (fun vs => Option.rec (motive := fun _ => Out) .fail (fun p => Prod.rec (motive := fun _ => Out) k p) (call f vs h)) (evOs loc env xs)
noncomputable def ldK (n : Nat) (ia : Bool) (x : Opd) (loc : List V) (env : T V) (h : Heap) (k : V → Heap → Out) : Out :=
  evOk loc env x fun p => asP p fun b o => Bool.rec (motive := fun _ => Out) (ov (hload1 h b o) fun v => k v h) (ov (aload h n true p) fun v => k v h) ia
noncomputable def opK (call : CallF) (loc : List V) (env : T V) (h : Heap) (o : IOp) (k : V → Heap → Out) : Out :=
  IOp.rec (motive := fun _ => Out) (fun p xs => pK p xs loc env fun v => k v h)
    (fun a b c => ldK a b c loc env h k) (fun a b c => slowO call loc env h (.st a b c) k) (fun a => slowO call loc env h (.al a) k) (fun a => slowO call loc env h (.bx a) k)
    (fun a b c d => slowO call loc env h (.bs a b c d) k) (fun a b c d => slowO call loc env h (.mk a b c d) k) (fun a b c d => slowO call loc env h (.ap a b c d) k) (fun a b c => slowO call loc env h (.cp a b c) k)
    (fun f xs => callK call f xs loc env h k) (fun a b => slowO call loc env h (.cv a b) k)
    (fun a => slowO call loc env h (.mm a) k) (fun a b c d => slowO call loc env h (.lk a b c d) k) (fun a b => slowO call loc env h (.mu a b) k) (fun a b => slowO call loc env h (.clr a b) k) (fun a => slowO call loc env h (.b2s a) k) (fun a b => slowO call loc env h (.df a b) k) .fail o
theorem opK_eq (call : CallF) (loc : List V) (env : T V) (h : Heap) (o : IOp) (k : V → Heap → Out) : opK call loc env h o k = spO call loc env h o k := by
  cases o
  case p p xs =>
    show pK p xs loc env (fun v => k v h) = _
    rw [pK_eq]
    unfold spP spO evOp
    simp only []
    cases evOs loc env xs with
    | none => rfl
    | some vs => simp only []; cases aP p vs <;> rfl
  case ld n ia x =>
    show ldK n ia x loc env h k = _
    unfold ldK spO evOp
    simp only []
    rw [evOk_eq]
    cases evO loc env x with
    | none => rfl
    | some p =>
      rw [ov_some]
      cases p <;> first | rfl | skip
      rename_i b o
      cases ia
      · show ov (hload1 h b o) (fun v => k v h) = match (match hload1 h b o with | some v => some (v, h) | none => none) with | some (v, h) => k v h | none => .fail
        cases hload1 h b o <;> rfl
      · show ov (aload h n true (.ptr b o)) (fun v => k v h) = match (match aload h n true (.ptr b o) with | some v => some (v, h) | none => none) with | some (v, h) => k v h | none => .fail
        cases aload h n true (.ptr b o) <;> rfl
  case cf f xs =>
    show callK call f xs loc env h k = _
    unfold callK spO evOp
    simp only []
    cases evOs loc env xs with
    | none => rfl
    | some vs =>
      simp only []
      cases call f vs h with
      | none => rfl
      | some p => rfl
  case al z => exact slowO_eq call loc env h (.al z) k
  case bad => rfl
  case bx x => exact slowO_eq call loc env h (.bx x) k
  all_goals exact slowO_eq _ _ _ _ _ _
noncomputable def keepK (ih : List V → T V → Heap → Out) (loc : List V) (env : T V) (d : Option Nat) (v : V) (h : Heap) : Out :=
  Option.rec (motive := fun _ => Out) (ih (v :: loc) env h) (fun d => ih loc (env.set d v) h) d
theorem keepK_eq (ih : List V → T V → Heap → Out) (loc : List V) (env : T V) (d : Option Nat) (v : V) (h : Heap) : keepK ih loc env d v h = ih (nextL loc v d) (nextE env v d) h := by cases d <;> rfl
noncomputable def gdK (loc : List V) (env : T V) (g : Option (Opd × Bool)) (k : Bool → Out) : Out :=
  Option.rec (motive := fun _ => Out) (k true) (fun p => Prod.rec (motive := fun _ => Out) (fun x want => evOk loc env x fun v => asG v (fun b => k (!(xor b want))) (k false)) p) g
theorem gdK_eq (loc : List V) (env : T V) (g : Option (Opd × Bool)) (k : Bool → Out) : gdK loc env g k = match evG loc env g with | some b => k b | none => .fail := by
  cases g with
  | none => rfl
  | some p =>
    obtain ⟨x, want⟩ := p
    show (evOk loc env x fun v => asG v (fun b => k (!(xor b want))) (k false)) = _
    rw [evOk_eq]
    unfold evG
    simp only []
    cases evO loc env x with
    | none => rfl
    | some v => rw [ov_some]; cases v <;> rfl
noncomputable def stepsF (call : CallF) (l : List IStep) : List V → T V → Heap → Out :=
  List.rec (motive := fun _ => List V → T V → Heap → Out) (fun _ env h => .ok .norm env h)
    (fun s _ ih loc env h => IStep.rec (motive := fun _ => Out) (fun g o d => gdK loc env g fun b =>
      Bool.rec (motive := fun _ => Out) (keepK ih loc env d (.tup []) h) (opK call loc env h o (keepK ih loc env d)) b) s) l
theorem stepsF_eq (call : CallF) : ∀ (l : List IStep) (loc : List V) (env : T V) (h : Heap), stepsF call l loc env h = evSteps call l loc env h
  | [], _, _, _ => rfl
  | ⟨g, o, d⟩ :: l, loc, env, h => by
    show (gdK loc env g fun b => Bool.rec (motive := fun _ => Out) (keepK (stepsF call l) loc env d (.tup []) h) (opK call loc env h o (keepK (stepsF call l) loc env d)) b) = _
    rw [gdK_eq, evSteps_cons]
    simp only []
    cases evG loc env g with
    | none => rfl
    | some b =>
      cases b
      · show keepK (stepsF call l) loc env d (.tup []) h = _
        rw [keepK_eq]; exact stepsF_eq call l _ _ _
      · show opK call loc env h o (keepK (stepsF call l) loc env d) = _
        rw [opK_eq]
        unfold spO
        simp only []
        cases evOp call loc env h o with
        | none => rfl
        | some p =>
          obtain ⟨v, h'⟩ := p
          show keepK (stepsF call l) loc env d v h' = _
          rw [keepK_eq]; exact stepsF_eq call l _ _ _
noncomputable def thenK (r : Out) (k : T V → Heap → Out) : Out := Out.rec (motive := fun _ => Out) (fun e env h => Ex.rec (motive := fun _ => Out) (k env h) (.ok .ret env h) (fun i => .ok (.exit i) env h) (fun i => .ok (.goto i) env h) e) .fail r
theorem thenK_eq (r : Out) (k : T V → Heap → Out) : thenK r k = match r with | .ok .norm env h => k env h | r => r := by
  cases r with
  | fail => rfl
  | ok e env h => cases e <;> rfl
noncomputable def dblF (body : T V → Heap → Out) (k : Nat) : T V → Heap → Out :=
  Nat.rec (motive := fun _ => T V → Heap → Out) body (fun _ ih env h => thenK (ih env h) ih) k
theorem dblF_eq (body : T V → Heap → Out) : ∀ k env h, dblF body k env h = dbl body k env h
  | 0, _, _ => rfl
  | k + 1, env, h => by
    show thenK (dblF body k env h) (dblF body k) = _
    rw [thenK_eq, dbl_succ, dblF_eq body k env h]
    cases dbl body k env h with
    | fail => rfl
    | ok e env h => cases e <;> first | rfl | exact dblF_eq body k env h
noncomputable def blockK (id : Nat) (r : Out) : Out := Out.rec (motive := fun _ => Out) (fun e env h => Ex.rec (motive := fun _ => Out) (.ok .norm env h) (.ok .ret env h) (fun i => Bool.rec (motive := fun _ => Out) (.ok (.exit i) env h) (.ok .norm env h) (Nat.beq i id)) (fun i => .ok (.goto i) env h) e) .fail r
noncomputable def loopK (r : Out) : Out := thenK r fun _ _ => .fail
noncomputable def swapF (l : Nat) (r : T V → Heap → Out) (env : T V) (h : Heap) : Out :=
  Out.rec (motive := fun _ => Out) (fun e env h => Ex.rec (motive := fun _ => Out) (.ok (.goto l) env h) (.ok .ret env h) (fun i => .ok (.exit i) env h) (fun i => Bool.rec (motive := fun _ => Out) (.ok (.goto i) env h) (.ok .norm env h) (Nat.beq i l)) e) .fail (r env h)
theorem swapF_eq (l : Nat) (r : T V → Heap → Out) : swapF l r = swapL l r := by
  funext env h
  unfold swapF swapL
  cases r env h with
  | fail => rfl
  | ok e env h => cases e <;> first | rfl | (rename_i i; show Bool.rec (motive := fun _ => Out) _ _ (Nat.beq i l) = bif Nat.beq i l then _ else _; cases Nat.beq i l <;> rfl)
noncomputable def endK (l : Nat) (r : Out) : Out :=
  Out.rec (motive := fun _ => Out) (fun e env h => Ex.rec (motive := fun _ => Out) .fail (.ok .ret env h) (fun i => .ok (.exit i) env h) (fun i => Bool.rec (motive := fun _ => Out) .fail (.ok .norm env h) (Nat.beq i l)) e) .fail r
noncomputable def scopeK (l : Nat) (rest : T V → Heap → Out) (r : Out) : Out :=
  Out.rec (motive := fun _ => Out) (fun e env h => Ex.rec (motive := fun _ => Out) (.ok .norm env h) (.ok .ret env h) (fun i => .ok (.exit i) env h) (fun i => Bool.rec (motive := fun _ => Out) .fail (endK l (dblF (swapF l rest) 24 env h)) (Nat.beq i l)) e) .fail r
noncomputable def evRf (call : CallF) (g : Opd) (ps : List Nat) (as bd : IC) (env : T V) (h : Heap) : Out :=
  match evO [] env g with
  | some (.func (.func f) first caps) => bif Nat.blt f YB then
      (match call f (first ++ [.yld h.next] ++ caps) (hnew h (.lp ps as bd env 0 none)) with
        | some (_, h2) => (match h2.bl.get h.next with
          | some (.lp _ _ _ _ st pend) => bif Nat.beq st 1 then .fail else .ok (match pend with | some ex => ex | none => .norm) env (hset h2 h.next .dead)
          | _ => .fail)
        | none => .fail)
    else .fail
  | _ => .fail
noncomputable def wdK (call : CallF) (r : Out) : Out := match r with
  | .ok .norm env h => evEnd call .norm env h
  | .ok .ret env h => evEnd call .ret env h
  | _ => .fail
noncomputable def codeF (call : CallF) (c : IC) : T V → Heap → Out :=
  IC.rec (motive := fun _ => T V → Heap → Out)
    (fun env h => .ok .norm env h)
    (fun l env h => stepsF call l [] env h)
    (fun _ _ a b env h => thenK (a env h) b)
    (fun x _ _ a b env h => evOk [] env x fun v => asB v fun t => Bool.rec (motive := fun _ => Out) (b env h) (a env h) t)
    (fun id _ c env h => blockK id (c env h))
    (fun _ c env h => loopK (dblF c 24 env h))
    (fun id env h => .ok (.exit id) env h)
    (fun env h => .ok .ret env h)
    (fun _ l _ c r env h => scopeK l r (c env h))
    (fun l env h => .ok (.goto l) env h)
    (fun l late _ _ reads sets env h => evD call l late reads sets env h)
    (fun _ _ => .fail)
    (fun g ps as bd _ _ env h => evRf call g ps as bd env h)
    (fun _ c env h => wdK call (c env h)) c
theorem codeF_eq (call : CallF) (c : IC) : codeF call c = evC call c := by
  induction c with
  | skip => rfl
  | ops l => funext env h; exact stepsF_eq call l [] env h
  | seq a b iha ihb =>
    funext env h
    show thenK (codeF call a env h) (codeF call b) = (match evC call a env h with | .ok .norm env h => evC call b env h | r => r)
    rw [thenK_eq, iha, ihb]
  | cond x a b iha ihb =>
    funext env h
    show (evOk [] env x fun v => asB v fun t => Bool.rec (motive := fun _ => Out) (codeF call b env h) (codeF call a env h) t) = (match evO [] env x with | some (.bool t) => bif t then evC call a env h else evC call b env h | _ => .fail)
    rw [evOk_eq, iha, ihb]
    cases evO [] env x with
    | none => rfl
    | some v => rw [ov_some]; cases v <;> first | rfl | (rename_i t; cases t <;> rfl)
  | block id c ih =>
    funext env h
    show blockK id (codeF call c env h) = (match evC call c env h with | .ok (.exit i) env h => bif Nat.beq i id then .ok .norm env h else .ok (.exit i) env h | r => r)
    rw [ih]
    cases evC call c env h with
    | fail => rfl
    | ok e env h => cases e <;> first | rfl | (rename_i i; show Bool.rec (motive := fun _ => Out) _ _ (Nat.beq i id) = bif Nat.beq i id then _ else _; cases Nat.beq i id <;> rfl)
  | loop c ih =>
    funext env h
    show loopK (dblF (codeF call c) 24 env h) = (match dbl (evC call c) 24 env h with | .ok .norm _ _ => .fail | r => r)
    rw [ih, dblF_eq]
    unfold loopK
    rw [thenK_eq]
  | exit id => rfl
  | ret => rfl
  | scope c l r ihc ihr =>
    funext env h
    show scopeK l (codeF call r) (codeF call c env h) = (match evC call c env h with
        | .ok (.goto i) env h => bif Nat.beq i l then
            (match dbl (swapL l (evC call r)) 24 env h with
              | .ok .norm _ _ => .fail
              | .ok (.goto i) env h => bif Nat.beq i l then .ok .norm env h else .fail
              | r => r)
          else .fail
        | r => r)
    rw [ihc, ihr]
    cases evC call c env h with
    | fail => rfl
    | ok e env h =>
      cases e <;> first | rfl | skip
      rename_i i
      show Bool.rec (motive := fun _ => Out) .fail (endK l (dblF (swapF l (evC call r)) 24 env h)) (Nat.beq i l) = bif Nat.beq i l then _ else _
      cases Nat.beq i l
      · rfl
      · show endK l (dblF (swapF l (evC call r)) 24 env h) = (match dbl (swapL l (evC call r)) 24 env h with
              | .ok .norm _ _ => .fail
              | .ok (.goto i) env h => bif Nat.beq i l then .ok .norm env h else .fail
              | r => r)
        rw [swapF_eq, dblF_eq]
        cases dbl (swapL l (evC call r)) 24 env h with
        | fail => rfl
        | ok e env h => cases e <;> first | rfl | (rename_i j; show Bool.rec (motive := fun _ => Out) _ _ (Nat.beq j l) = bif Nat.beq j l then _ else _; cases Nat.beq j l <;> rfl)
  | goto l => rfl
  | dops l late B R reads sets => rfl
  | bad => rfl
  | rf g ps as bd iha ihb => rfl
  | wd c ih =>
    funext env h
    show wdK call (codeF call c env h) = (match evC call c env h with
      | .ok .norm env h => evEnd call .norm env h
      | .ok .ret env h => evEnd call .ret env h
      | _ => .fail)
    rw [ih]; rfl
noncomputable def finR (h : Heap) (o : Option (List V)) : Option (V × Heap) :=
  match o with
  | some [v] => fV v fun v => some (v, h)
  | some vs => some (.tup vs, h)
  | none => none
noncomputable def finK (fn : IFn) (r : Out) : Option (V × Heap) :=
  Out.rec (motive := fun _ => Option (V × Heap)) (fun e env h => Ex.rec (motive := fun _ => Option (V × Heap)) (finR h (evRs env h fn.results)) (finR h (evRs env h fn.results)) (fun _ => none) (fun _ => none) e) none r
noncomputable def evFF (ov : CallF) (F : T IFn) (n : Nat) : CallF :=
  Nat.rec (motive := fun _ => CallF) (fun _ _ _ => none)
    (fun _ ih f vs h => Option.rec (motive := fun _ => Option (V × Heap)) (Bool.rec (motive := fun _ => Option (V × Heap)) (ov f vs h) (evY (codeF ih) (f - YB) vs h) (Nat.ble YB f)) (fun fn => Bool.rec (motive := fun _ => Option (V × Heap)) none (finK fn (codeF ih fn.body (bindA vs 0 .e) h)) (Nat.beq vs.length fn.nargs)) (F.get f)) n
theorem evFF_eq (ov : CallF) (F : T IFn) : ∀ n, evFF ov F n = evF ov F n
  | 0 => rfl
  | n + 1 => by
    funext f vs h
    show Option.rec (motive := fun _ => Option (V × Heap)) (Bool.rec (motive := fun _ => Option (V × Heap)) (ov f vs h) (evY (codeF (evFF ov F n)) (f - YB) vs h) (Nat.ble YB f)) (fun fn => Bool.rec (motive := fun _ => Option (V × Heap)) none (finK fn (codeF (evFF ov F n) fn.body (bindA vs 0 .e) h)) (Nat.beq vs.length fn.nargs)) (F.get f) =
      (match F.get f with
      | some fn => bif Nat.beq vs.length fn.nargs then
          (match evC (evF ov F n) fn.body (bindA vs 0 .e) h with
            | .ok .norm env h => (match evRs env h fn.results with
              | some [v] => fV v fun v => some (v, h)
              | some vs => some (.tup vs, h)
              | none => none)
            | .ok .ret env h => (match evRs env h fn.results with
              | some [v] => fV v fun v => some (v, h)
              | some vs => some (.tup vs, h)
              | none => none)
            | _ => none)
        else none
      | none => bif Nat.ble YB f then evY (evC (evF ov F n)) (f - YB) vs h else ov f vs h)
    rw [evFF_eq ov F n]
    cases F.get f with
    | none =>
      show Bool.rec (motive := fun _ => Option (V × Heap)) (ov f vs h) (evY (codeF (evF ov F n)) (f - YB) vs h) (Nat.ble YB f) = bif Nat.ble YB f then evY (evC (evF ov F n)) (f - YB) vs h else ov f vs h
      rw [show codeF (evF ov F n) = evC (evF ov F n) from funext fun c => codeF_eq _ c]
      cases Nat.ble YB f <;> rfl
    | some fn =>
      show Bool.rec (motive := fun _ => Option (V × Heap)) none (finK fn (codeF (evF ov F n) fn.body (bindA vs 0 .e) h)) (Nat.beq vs.length fn.nargs) = _
      simp only []
      cases Nat.beq vs.length fn.nargs
      · rfl
      · show finK fn (codeF (evF ov F n) fn.body (bindA vs 0 .e) h) = _
        rw [codeF_eq]
        cases evC (evF ov F n) fn.body (bindA vs 0 .e) h with
        | fail => rfl
        | ok e env h => cases e <;> rfl
end Go.Ev
