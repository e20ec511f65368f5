/- An evaluator of the program, and contracts over it: EvFa to LayJ. -/
import Derived.Test.YtdbfhmneijcjbaaGreatP03
import Derived.Test.YtdbfhmneijcjbaaGreatP05
set_option linter.unusedSimpArgs false
set_option linter.unusedVariables false
set_option linter.constructorNameAsVariable false
namespace Go.Ev
noncomputable def ov(o:Option V)(k:V→Out):Out:=Option.rec (motive:=fun _=>Out) .fail k o
theorem mM(v:V)(k:V→Out):ov (some v) k=k v:=rfl
noncomputable def E4(loc:List V):Nat→(V→Out)→Out:=
 List.rec (motive:=fun _=>Nat→(V→Out)→Out) (fun _ _=>.fail) (fun v _ ih i k=>Nat.rec (motive:=fun _=>Out) (k v) (fun j _=>ih j k) i) loc
theorem wM(loc:List V):∀i k,E4 loc i k=ov (nth loc i) k:=by
 induction loc with
 |nil=>intro i k;rfl
 |cons v l ih=>intro i k;cases i with
  |zero=>rfl
  |succ i=>exact ih i k
noncomputable def mJ(loc:List V)(env:T V)(x:Opd)(k:V→Out):Out:=
 Opd.rec (motive:=fun _=>Out) (fun i=>E4 loc i k) (fun s=>ov (env.get s) k) k (fun n=>k (.ptr n 0)) x
theorem ji(loc:List V)(env:T V)(x:Opd)(k:V→Out):mJ loc env x k=ov (evO loc env x) k:=by
 cases x with
 |l i=>exact wM loc i k
 |v s=>rfl
 |c v=>rfl
 |g n=>rfl
noncomputable def asI(v:V)(k:IntKind→Int→Out):Out:=
 V.rec (motive_1:=fun _=>Out) (motive_2:=fun _=>Out) (fun _=>.fail) k (fun _=>.fail) .fail (fun _ _=>.fail) .fail (fun _ _ _ _=>.fail) (fun _ _ _ _=>.fail) .fail .fail (fun _=>.fail) .fail (fun _ _ _ _ _=>.fail) .fail (fun _ _ _=>.fail) (fun _ _=>.fail) (fun _ _=>.fail) (fun _=>.fail) (fun _ _=>.fail) .fail (fun _ _ _ _=>.fail) v
noncomputable def asB(v:V)(k:Bool→Out):Out:=
 V.rec (motive_1:=fun _=>Out) (motive_2:=fun _=>Out) k (fun _ _=>.fail) (fun _=>.fail) .fail (fun _ _=>.fail) .fail (fun _ _ _ _=>.fail) (fun _ _ _ _=>.fail) .fail .fail (fun _=>.fail) .fail (fun _ _ _ _ _=>.fail) .fail (fun _ _ _=>.fail) (fun _ _=>.fail) (fun _ _=>.fail) (fun _=>.fail) (fun _ _=>.fail) .fail (fun _ _ _ _=>.fail) v
noncomputable def asG(v:V)(k:Bool→Out)(n:Out):Out:=
 V.rec (motive_1:=fun _=>Out) (motive_2:=fun _=>Out) k (fun _ _=>.fail) (fun _=>.fail) .fail (fun _ _=>.fail) .fail (fun _ _ _ _=>.fail) (fun _ _ _ _=>.fail) .fail .fail (fun _=>.fail) .fail (fun _ _ _ _ _=>.fail) .fail (fun _ _ _=>.fail) (fun _ _=>.fail) (fun _ _=>n) (fun _=>.fail) (fun _ _=>.fail) .fail (fun _ _ _ _=>.fail) v
noncomputable def asP(v:V)(k:Nat→Nat→Out):Out:=
 V.rec (motive_1:=fun _=>Out) (motive_2:=fun _=>Out) (fun _=>.fail) (fun _ _=>.fail) (fun _=>.fail) .fail k .fail (fun _ _ _ _=>.fail) (fun _ _ _ _=>.fail) .fail .fail (fun _=>.fail) .fail (fun _ _ _ _ _=>.fail) .fail (fun _ _ _=>.fail) (fun _ _=>.fail) (fun _ _=>.fail) (fun _=>.fail) (fun _ _=>.fail) .fail (fun _ _ _ _=>.fail) v
noncomputable def asT(v:V)(k:List V→Out):Out:=
 V.rec (motive_1:=fun _=>Out) (motive_2:=fun _=>Out) (fun _=>.fail) (fun _ _=>.fail) (fun _=>.fail) .fail (fun _ _=>.fail) .fail (fun _ _ _ _=>.fail) (fun _ _ _ _=>.fail) .fail .fail (fun _=>.fail) .fail (fun _ _ _ _ _=>.fail) .fail (fun _ _ _=>.fail) (fun _ _=>.fail) (fun l _=>k l) (fun _=>.fail) (fun _ _=>.fail) .fail (fun _ _ _ _=>.fail) v
noncomputable def one(loc:List V)(env:T V)(xs:List Opd)(k:V→Out):Out:=
 List.rec (motive:=fun _=>Out) .fail (fun x xs _=>List.rec (motive:=fun _=>Out) (mJ loc env x k) (fun _ _ _=>.fail) xs) xs
noncomputable def two(loc:List V)(env:T V)(xs:List Opd)(k:V→V→Out):Out:=
 List.rec (motive:=fun _=>Out) .fail (fun x xs _=>List.rec (motive:=fun _=>Out) .fail (fun y xs _=>List.rec (motive:=fun _=>Out) (mJ loc env x fun a=>mJ loc env y fun b=>k a b) (fun _ _ _=>.fail) xs) xs) xs
noncomputable def spP(p:PK)(xs:List Opd)(loc:List V)(env:T V)(k:V→Out):Out:=
 match bM loc env xs with
 |some vs=>ov (aP p vs) k
 |none=>.fail
theorem kg{p:PK}{xs:List Opd}{loc:List V}{env:T V}{k:V→Out}{f:V→Out}(h1:∀v,f v=ov (aP p [v]) k)(h0:aP p []=none)(h2:∀a b l,aP p (a::b::l)=none):one loc env xs f=spP p xs loc env k:=by
 unfold spP;match xs with
 |[]=>show Out.fail=_;rw[show bM loc env []=some []from rfl];simp only[];rw[h0];rfl
 |[x]=>
  show mJ loc env x f=_;rw[ji,bV];cases evO loc env x with
  |none=>rfl
  |some v=>rw[show bM loc env []=some []from rfl];exact h1 v
 |x::y::l=>
  show Out.fail=_;rw[bV,bV];cases evO loc env x with
  |none=>rfl
  |some v=>
   cases evO loc env y with
   |none=>rfl
   |some u=>
    cases bM loc env l with
    |none=>rfl
    |some us=>simp only[];rw[h2];rfl
theorem zX{p:PK}{xs:List Opd}{loc:List V}{env:T V}{k:V→Out}{f:V→V→Out}(h2:∀a b,f a b=ov (aP p [a,b]) k)(h0:aP p []=none)(h1:∀a,aP p [a]=none)(h3:∀a b c l,aP p (a::b::c::l)=none):
 two loc env xs f=spP p xs loc env k:=by
 unfold spP;match xs with
 |[]=>show Out.fail=_;rw[show bM loc env []=some []from rfl];simp only[];rw[h0];rfl
 |[x]=>
  show Out.fail=_;rw[bV];cases evO loc env x with
  |none=>rfl
  |some v=>rw[show bM loc env []=some []from rfl];simp only[];rw[h1];rfl
 |[x,y]=>
  show(mJ loc env x fun a=>mJ loc env y fun b=>f a b)=_;rw[ji,bV,bV];cases evO loc env x with
  |none=>rfl
  |some v=>
   rw[mM,ji];cases evO loc env y with
   |none=>rfl
   |some u=>rw[show bM loc env []=some []from rfl];exact h2 v u
 |x::y::z::l=>
  show Out.fail=_;rw[bV,bV,bV];cases evO loc env x with
  |none=>rfl
  |some v=>
   cases evO loc env y with
   |none=>rfl
   |some u=>
    cases evO loc env z with
    |none=>rfl
    |some t=>
     cases bM loc env l with
     |none=>rfl
     |some us=>simp only[];rw[h3];rfl
noncomputable def wr(t:IntKind)(n:Int)(k:V→Out):Out:=
 Int.rec (motive:=fun _=>Out) (fun a=>Bool.rec (motive:=fun _=>Out) (fI (t.wrap (.ofNat a)) fun n=>k (.int t n)) (fN a fun a=>k (.int t (.ofNat a))) (Nat.blt a (lim t)))
  (fun a=>Bool.rec (motive:=fun _=>Out) (fI (t.wrap (.negSucc a)) fun n=>k (.int t n)) (fN a fun a=>k (.int t (.negSucc a))) (t.signed&&Nat.blt a (lim t))) n
theorem zU(t:IntKind)(n:Int)(k:V→Out):wr t n k=k (.int t (aY t n)):=by
 cases n with
 |ofNat a=>
  show Bool.rec (motive:=fun _=>Out) (fI (t.wrap (.ofNat a)) fun n=>k (.int t n)) (fN a fun a=>k (.int t (.ofNat a))) (Nat.blt a (lim t))=k (.int t (bif Nat.blt a (lim t)then .ofNat a else t.wrap (.ofNat a)));cases Nat.blt a (lim t)<;>simp[Bb,uv]
 |negSucc a=>
  show Bool.rec (motive:=fun _=>Out) (fI (t.wrap (.negSucc a)) fun n=>k (.int t n)) (fN a fun a=>k (.int t (.negSucc a))) (t.signed&&Nat.blt a (lim t))=k (.int t (bif t.signed&&Nat.blt a (lim t)then .negSucc a else t.wrap (.negSucc a)));cases(t.signed&&Nat.blt a (lim t))<;>simp[Bb,uv]
noncomputable def kb(b:Bool)(k:V→Out):Out:=Bool.rec (motive:=fun _=>Out) (k (.bool false)) (k (.bool true)) b
theorem Et(b:Bool)(k:V→Out):kb b k=k (.bool b):=by cases b<;>rfl
noncomputable def lV(op:BinOp)(t:IntKind)(a b:Int)(k:V→Out):Out:=ov (eU op t a b) fun v=>fV v k
theorem fU(op:BinOp)(t:IntKind)(a b:Int)(k:V→Out):lV op t a b k=ov (eU op t a b) k:=by
 unfold lV;congr 1;funext v;rw[mi]
noncomputable def ibK(op:BinOp)(t:IntKind)(a b:Int)(k:V→Out):Out:=
 BinOp.rec (motive:=fun _=>Out) (wr t (Int.add a b) k) (wr t (Int.sub a b) k) (wr t (Int.mul a b) k)
  (lV .quo t a b k) (lV .rem t a b k) (lV .and t a b k) (lV .or t a b k) (lV .xor t a b k) .fail .fail (lV .andNot t a b k)
  (kb (ieq a b) k) (kb (!ieq a b) k) (kb (ilt a b) k) (kb (!ilt b a) k) (kb (ilt b a) k) (kb (!ilt a b) k) op
theorem Fo(op:BinOp)(t:IntKind)(a b:Int)(k:V→Out):ibK op t a b k=ov (eU op t a b) k:=by
 cases op;case quo=>exact fU _ _ _ _ _
 case rem=>exact fU _ _ _ _ _
 case and=>exact fU _ _ _ _ _
 case or=>exact fU _ _ _ _ _
 case xor=>exact fU _ _ _ _ _
 case andNot=>exact fU _ _ _ _ _
 case shl=>rfl
 case shr=>rfl
 case add=>exact zU _ _ _
 case sub=>exact zU _ _ _
 case mul=>exact zU _ _ _
 all_goals exact Et _ _
noncomputable def ib2(op:BinOp)(x y:V)(k:V→Out):Out:=
 asI x fun t a=>asI y fun t' b=>Bool.rec (motive:=fun _=>Out) .fail (ibK op t a b k) (gN t t')
theorem Fp(op:BinOp)(x y:V)(k:V→Out):ib2 op x y k=ov (aP (.ib op) [x,y]) k:=by
 cases x<;>first|rfl|skip
 cases y<;>first|rfl|skip
 rename_i t a t' b;show Bool.rec (motive:=fun _=>Out) .fail (ibK op t a b k) (gN t t')=ov (bif gN t t' then eU op t a b else none) k;cases gN t t'
 ·rfl
 ·exact Fo _ _ _ _ _
noncomputable def bX(p:PK)(xs:List Opd)(loc:List V)(env:T V)(k:V→Out):Out:=
 Option.rec (motive:=fun _=>Out) .fail (fun vs=>ov (aP p vs) fun v=>fV v k) (bM loc env xs)
theorem Ae(p:PK)(xs:List Opd)(loc:List V)(env:T V)(k:V→Out):bX p xs loc env k=spP p xs loc env k:=by
 unfold bX spP;cases bM loc env xs with
 |none=>rfl
 |some vs=>show(ov (aP p vs) fun v=>fV v k)=_;congr 1;funext v;rw[mi]
noncomputable def pK(p:PK)(xs:List Opd)(loc:List V)(env:T V)(k:V→Out):Out:=
 PK.rec (motive:=fun _=>Out)
  (one loc env xs k)
  (bX .pick xs loc env k)
  (bX .nilck xs loc env k)
  (fun op=>two loc env xs fun a b=>ib2 op a b k)
  (fun l=>bX (.sh l) xs loc env k)
  (one loc env xs fun v=>asB v fun b=>kb (!b) k)
  (bX .neg xs loc env k) (bX .cmpl xs loc env k)
  (fun n=>bX (.bb n) xs loc env k)
  (fun a b=>bX (.nil a b) xs loc env k)
  (fun a=>one loc env xs fun v=>asP v fun b o=>fN (Nat.add o a) fun o=>k (.ptr b o))
  (fun a b c=>bX (.field a b c) xs loc env k)
  (fun a b=>bX (.ixa a b) xs loc env k) (fun a=>bX (.ixs a) xs loc env k) (fun a b c=>bX (.ixarr a b c) xs loc env k)
  (fun i=>one loc env xs fun v=>asT v fun l=>E4 l i k)
  (fun a b=>bX (.mkf a b) xs loc env k) (fun a=>bX (.mki a) xs loc env k) (fun a b=>bX (.build a b) xs loc env k)
  (fun a b c d e=>bX (.sl a b c d e) xs loc env k)
  (bX .lenS xs loc env k) (fun a=>bX (.lenArr a) xs loc env k) (bX .capS xs loc env k) (fun a=>bX (.capArr a) xs loc env k)
  (bX .mn xs loc env k) (bX .mx xs loc env k) (fun a=>bX (.conv a) xs loc env k)
  (fun a b=>bX (.seq a b) xs loc env k) (fun a=>bX (.sb a) xs loc env k) (bX .lenStr xs loc env k) (bX .ixstr xs loc env k) (fun a b=>bX (.slstr a b) xs loc env k) p
theorem Gu(p:PK)(xs:List Opd)(loc:List V)(env:T V)(k:V→Out):pK p xs loc env k=spP p xs loc env k:=by
 cases p;case mv=>exact kg (fun v=>rfl) rfl (fun _ _ _=>rfl)
 case ib op=>exact zX (fun a b=>Fp op a b k) rfl (fun a=>by cases a<;>rfl) (fun a b c l=>by cases a<;>first|rfl|(cases b<;>rfl))
 case not=>exact kg (fun v=>by cases v<;>first|rfl|exact Et _ _) rfl (fun a _ _=>by cases a<;>rfl)
 case faddr a=>exact kg (fun v=>by cases v<;>first|rfl|(rename_i b o;exact uv (Nat.add o a) (fun o=>k (.ptr b o)))) rfl (fun a _ _=>by cases a<;>rfl)
 case ext i=>exact kg (fun v=>by cases v<;>first|rfl|exact wM _ _ _) rfl (fun a _ _=>by cases a<;>rfl)
 all_goals exact Ae _ _ _ _ _
noncomputable def spO(call:av)(loc:List V)(env:T V)(h:Heap)(o:IOp)(k:V→Heap→Out):Out:=
 match aG call loc env h o with
 |some (v,h)=>k v h
 |none=>.fail
noncomputable def eJ(call:av)(loc:List V)(env:T V)(h:Heap)(o:IOp)(k:V→Heap→Out):Out:=
 Option.rec (motive:=fun _=>Out) .fail (fun p=>Prod.rec (motive:=fun _=>Out) (fun v h=>fV v fun v=>k v h) p) (aG call loc env h o)
theorem nw(call:av)(loc:List V)(env:T V)(h:Heap)(o:IOp)(k:V→Heap→Out):eJ call loc env h o k=spO call loc env h o k:=by
 unfold eJ spO;cases aG call loc env h o with
 |none=>rfl
 |some p=>obtain⟨v,h'⟩:=p;exact mi _ _
noncomputable def BE(call:av)(f:Nat)(xs:List Opd)(loc:List V)(env:T V)(h:Heap)(k:V→Heap→Out):Out:=
 Option.rec (motive:=fun _=>Out) .fail (fun vs=>Option.rec (motive:=fun _=>Out) .fail (fun p=>Prod.rec (motive:=fun _=>Out) k p) (call f vs h)) (bM loc env xs)
noncomputable def ldK(n:Nat)(ia:Bool)(x:Opd)(loc:List V)(env:T V)(h:Heap)(k:V→Heap→Out):Out:=
 mJ loc env x fun p=>asP p fun b o=>Bool.rec (motive:=fun _=>Out) (ov (ab h b o) fun v=>k v h) (ov (eQ h n true p) fun v=>k v h) ia
noncomputable def opK(call:av)(loc:List V)(env:T V)(h:Heap)(o:IOp)(k:V→Heap→Out):Out:=
 IOp.rec (motive:=fun _=>Out) (fun p xs=>pK p xs loc env fun v=>k v h)
  (fun a b c=>ldK a b c loc env h k) (fun a b c=>eJ call loc env h (.st a b c) k) (fun a=>eJ call loc env h (.al a) k) (fun a=>eJ call loc env h (.bx a) k)
  (fun a b c d=>eJ call loc env h (.bs a b c d) k) (fun a b c d=>eJ call loc env h (.mk a b c d) k) (fun a b c d=>eJ call loc env h (.ap a b c d) k) (fun a b c=>eJ call loc env h (.cp a b c) k)
  (fun f xs=>BE call f xs loc env h k) (fun a b=>eJ call loc env h (.cv a b) k)
  (fun a=>eJ call loc env h (.mm a) k) (fun a b c d=>eJ call loc env h (.lk a b c d) k) (fun a b=>eJ call loc env h (.mu a b) k) (fun a b=>eJ call loc env h (.clr a b) k) (fun a=>eJ call loc env h (.b2s a) k) (fun a b=>eJ call loc env h (.df a b) k) (fun a b=>eJ call loc env h (.it a b) k) .fail o
theorem EX(call:av)(loc:List V)(env:T V)(h:Heap)(o:IOp)(k:V→Heap→Out):opK call loc env h o k=spO call loc env h o k:=by
 cases o;case p p xs=>
  show pK p xs loc env (fun v=>k v h)=_;rw[Gu];unfold spP spO aG;simp only[];cases bM loc env xs with
  |none=>rfl
  |some vs=>simp only[];cases aP p vs<;>rfl
 case ld n ia x=>
  show ldK n ia x loc env h k=_;unfold ldK spO aG;simp only[];rw[ji];cases evO loc env x with
  |none=>rfl
  |some p=>
   rw[mM];cases p<;>first|rfl|skip
   rename_i b o;cases ia
   ·show ov (ab h b o) (fun v=>k v h)=match(match ab h b o with|some v=>some (v,h)|none=>none)with|some (v,h)=>k v h|none=>.fail
    cases ab h b o<;>rfl
   ·show ov (eQ h n true (.ptr b o)) (fun v=>k v h)=match(match eQ h n true (.ptr b o)with|some v=>some (v,h)|none=>none)with|some (v,h)=>k v h|none=>.fail
    cases eQ h n true (.ptr b o)<;>rfl
 case cf f xs=>
  show BE call f xs loc env h k=_;unfold BE spO aG;simp only[];cases bM loc env xs with
  |none=>rfl
  |some vs=>
   simp only[];cases call f vs h with
   |none=>rfl
   |some p=>rfl
 case al z=>exact nw call loc env h (.al z) k
 case bad=>rfl
 case bx x=>exact nw call loc env h (.bx x) k
 all_goals exact nw _ _ _ _ _ _
noncomputable def ma(ih:List V→T V→Heap→Out)(loc:List V)(env:T V)(d:Option Nat)(v:V)(h:Heap):Out:=
 Option.rec (motive:=fun _=>Out) (ih (v::loc) env h) (fun d=>ih loc (env.set d v) h) d
theorem tV(ih:List V→T V→Heap→Out)(loc:List V)(env:T V)(d:Option Nat)(v:V)(h:Heap):ma ih loc env d v h=ih (hU loc v d) (eY env v d) h:=by cases d<;>rfl
noncomputable def gdK(loc:List V)(env:T V)(g:Option (Opd×Bool))(k:Bool→Out):Out:=
 Option.rec (motive:=fun _=>Out) (k true) (fun p=>Prod.rec (motive:=fun _=>Out) (fun x want=>mJ loc env x fun v=>asG v (fun b=>k (!(xor b want))) (k false)) p) g
theorem Fq(loc:List V)(env:T V)(g:Option (Opd×Bool))(k:Bool→Out):gdK loc env g k=match evG loc env g with|some b=>k b|none=>.fail:=by
 cases g with
 |none=>rfl
 |some p=>
  obtain⟨x,want⟩:=p;show(mJ loc env x fun v=>asG v (fun b=>k (!(xor b want))) (k false))=_;rw[ji];unfold evG;simp only[];cases evO loc env x with
  |none=>rfl
  |some v=>rw[mM];cases v<;>rfl
noncomputable def jM(call:av)(l:List IStep):List V→T V→Heap→Out:=
 List.rec (motive:=fun _=>List V→T V→Heap→Out) (fun _ env h=>.ok .norm env h)
  (fun s _ ih loc env h=>IStep.rec (motive:=fun _=>Out) (fun g o d=>gdK loc env g fun b=>
   Bool.rec (motive:=fun _=>Out) (ma ih loc env d (.tup []) h) (opK call loc env h o (ma ih loc env d)) b) s) l
theorem li(call:av):∀(l:List IStep)(loc:List V)(env:T V)(h:Heap),jM call l loc env h=cM call l loc env h
 |[],_,_,_=>rfl
 |⟨g,o,d⟩::l,loc,env,h=>by
  show(gdK loc env g fun b=>Bool.rec (motive:=fun _=>Out) (ma (jM call l) loc env d (.tup []) h) (opK call loc env h o (ma (jM call l) loc env d)) b)=_;rw[Fq,bJ];simp only[];cases evG loc env g with
  |none=>rfl
  |some b=>
   cases b
   ·show ma (jM call l) loc env d (.tup []) h=_;rw[tV];exact li call l _ _ _
   ·show opK call loc env h o (ma (jM call l) loc env d)=_;rw[EX];unfold spO;simp only[];cases aG call loc env h o with
    |none=>rfl
    |some p=>
     obtain⟨v,h'⟩:=p;show ma (jM call l) loc env d v h'=_;rw[tV];exact li call l _ _ _
noncomputable def pT(r:Out)(k:T V→Heap→Out):Out:=Out.rec (motive:=fun _=>Out) (fun e env h=>Ex.rec (motive:=fun _=>Out) (k env h) (.ok .ret env h) (fun i=>.ok (.exit i) env h) (fun i=>.ok (.goto i) env h) e) .fail r
theorem np(r:Out)(k:T V→Heap→Out):pT r k=match r with|.ok .norm env h=>k env h|r=>r:=by
 cases r with
 |fail=>rfl
 |ok e env h=>cases e<;>rfl
noncomputable def uJ(body:T V→Heap→Out)(k:Nat):T V→Heap→Out:=
 Nat.rec (motive:=fun _=>T V→Heap→Out) body (fun _ ih env h=>pT (ih env h) ih) k
theorem mU(body:T V→Heap→Out):∀k env h,uJ body k env h=dbl body k env h
 |0,_,_=>rfl
 |k+1,env,h=>by
  show pT (uJ body k env h) (uJ body k)=_;rw[np,oT,mU body k env h];cases dbl body k env h with
  |fail=>rfl
  |ok e env h=>cases e<;>first|rfl|exact mU body k env h
noncomputable def BH(id:Nat)(r:Out):Out:=Out.rec (motive:=fun _=>Out) (fun e env h=>Ex.rec (motive:=fun _=>Out) (.ok .norm env h) (.ok .ret env h) (fun i=>Bool.rec (motive:=fun _=>Out) (.ok (.exit i) env h) (.ok .norm env h) (Nat.beq i id)) (fun i=>.ok (.goto i) env h) e) .fail r
noncomputable def AL(r:Out):Out:=pT r fun _ _=>.fail
noncomputable def tp(l:Nat)(r:T V→Heap→Out)(env:T V)(h:Heap):Out:=
 Out.rec (motive:=fun _=>Out) (fun e env h=>Ex.rec (motive:=fun _=>Out) (.ok (.goto l) env h) (.ok .ret env h) (fun i=>.ok (.exit i) env h) (fun i=>Bool.rec (motive:=fun _=>Out) (.ok (.goto i) env h) (.ok .norm env h) (Nat.beq i l)) e) .fail (r env h)
theorem Ac(l:Nat)(r:T V→Heap→Out):tp l r=jy l r:=by
 funext env h;unfold tp jy;cases r env h with
 |fail=>rfl
 |ok e env h=>cases e<;>first|rfl|(rename_i i;show Bool.rec (motive:=fun _=>Out) _ _ (Nat.beq i l)=bif Nat.beq i l then _ else _;cases Nat.beq i l<;>rfl)
noncomputable def FA(l:Nat)(r:Out):Out:=
 Out.rec (motive:=fun _=>Out) (fun e env h=>Ex.rec (motive:=fun _=>Out) .fail (.ok .ret env h) (fun i=>.ok (.exit i) env h) (fun i=>Bool.rec (motive:=fun _=>Out) .fail (.ok .norm env h) (Nat.beq i l)) e) .fail r
noncomputable def Af(l:Nat)(rest:T V→Heap→Out)(r:Out):Out:=
 Out.rec (motive:=fun _=>Out) (fun e env h=>Ex.rec (motive:=fun _=>Out) (.ok .norm env h) (.ok .ret env h) (fun i=>.ok (.exit i) env h) (fun i=>Bool.rec (motive:=fun _=>Out) .fail (FA l (uJ (tp l rest) 24 env h)) (Nat.beq i l)) e) .fail r
noncomputable def HR(call:av)(g:Opd)(ps:List Nat)(as bd:IC)(env:T V)(h:Heap):Out:=
 match evO [] env g with
 |some (.func (.func f) first caps)=>bif Nat.blt f YB then
  (match call f (first++[.yld h.next]++caps) (hnew h (.lp ps as bd env 0 none))with
   |some (_,h2)=>(match h2.bl.get h.next with
    |some (.lp _ _ _ _ st pend)=>bif Nat.beq st 1 then .fail else .ok (match pend with|some ex=>ex|none=>.norm) env (hset h2 h.next .dead)
    |_=>.fail)
   |none=>.fail)
  else .fail
 |_=>.fail
noncomputable def wdK(call:av)(r:Out):Out:=match r with
 |.ok .norm env h=>dU call .norm env h
 |.ok .ret env h=>dU call .ret env h
 |_=>.fail
noncomputable def dY(call:av)(c:IC):T V→Heap→Out:=
 IC.rec (motive:=fun _=>T V→Heap→Out)
  (fun env h=>.ok .norm env h)
  (fun l env h=>jM call l [] env h)
  (fun _ _ a b env h=>pT (a env h) b)
  (fun x _ _ a b env h=>mJ [] env x fun v=>asB v fun t=>Bool.rec (motive:=fun _=>Out) (b env h) (a env h) t)
  (fun id _ c env h=>BH id (c env h))
  (fun _ c env h=>AL (uJ c 24 env h))
  (fun id env h=>.ok (.exit id) env h)
  (fun env h=>.ok .ret env h)
  (fun _ l _ c r env h=>Af l r (c env h))
  (fun l env h=>.ok (.goto l) env h)
  (fun l late _ _ reads sets env h=>evD call l late reads sets env h)
  (fun _ _=>.fail)
  (fun g ps as bd _ _ env h=>HR call g ps as bd env h)
  (fun _ c env h=>wdK call (c env h)) c
theorem uK(call:av)(c:IC):dY call c=evC call c:=by
 induction c with
 |skip=>rfl
 |ops l=>funext env h;exact li call l [] env h
 |seq a b iha ihb=>
  funext env h;show pT (dY call a env h) (dY call b)=(match evC call a env h with|.ok .norm env h=>evC call b env h|r=>r)
  rw[np,iha,ihb]
 |cond x a b iha ihb=>
  funext env h;show(mJ [] env x fun v=>asB v fun t=>Bool.rec (motive:=fun _=>Out) (dY call b env h) (dY call a env h) t)=(match evO [] env x with|some (.bool t)=>bif t then evC call a env h else evC call b env h|_=>.fail)
  rw[ji,iha,ihb];cases evO [] env x with
  |none=>rfl
  |some v=>rw[mM];cases v<;>first|rfl|(rename_i t;cases t<;>rfl)
 |block id c ih=>
  funext env h;show BH id (dY call c env h)=(match evC call c env h with|.ok (.exit i) env h=>bif Nat.beq i id then .ok .norm env h else .ok (.exit i) env h|r=>r)
  rw[ih];cases evC call c env h with
  |fail=>rfl
  |ok e env h=>cases e<;>first|rfl|(rename_i i;show Bool.rec (motive:=fun _=>Out) _ _ (Nat.beq i id)=bif Nat.beq i id then _ else _;cases Nat.beq i id<;>rfl)
 |loop c ih=>
  funext env h;show AL (uJ (dY call c) 24 env h)=(match dbl (evC call c) 24 env h with|.ok .norm _ _=>.fail|r=>r)
  rw[ih,mU];unfold AL;rw[np]
 |exit id=>rfl
 |ret=>rfl
 |scope c l r ihc ihr=>
  funext env h;show Af l (dY call r) (dY call c env h)=(match evC call c env h with
   |.ok (.goto i) env h=>bif Nat.beq i l then
    (match dbl (jy l (evC call r)) 24 env h with
     |.ok .norm _ _=>.fail
     |.ok (.goto i) env h=>bif Nat.beq i l then .ok .norm env h else .fail
     |r=>r)
    else .fail
   |r=>r)
  rw[ihc,ihr];cases evC call c env h with
  |fail=>rfl
  |ok e env h=>
   cases e<;>first|rfl|skip
   rename_i i;show Bool.rec (motive:=fun _=>Out) .fail (FA l (uJ (tp l (evC call r)) 24 env h)) (Nat.beq i l)=bif Nat.beq i l then _ else _;cases Nat.beq i l
   ·rfl
   ·show FA l (uJ (tp l (evC call r)) 24 env h)=(match dbl (jy l (evC call r)) 24 env h with
          |.ok .norm _ _=>.fail
          |.ok (.goto i) env h=>bif Nat.beq i l then .ok .norm env h else .fail
          |r=>r)
    rw[Ac,mU];cases dbl (jy l (evC call r)) 24 env h with
    |fail=>rfl
    |ok e env h=>cases e<;>first|rfl|(rename_i j;show Bool.rec (motive:=fun _=>Out) _ _ (Nat.beq j l)=bif Nat.beq j l then _ else _;cases Nat.beq j l<;>rfl)
 |goto l=>rfl
 |dops l late B R reads sets=>rfl
 |bad=>rfl
 |rf g ps as bd iha ihb=>rfl
 |wd c ih=>
  funext env h;show wdK call (dY call c env h)=(match evC call c env h with
   |.ok .norm env h=>dU call .norm env h
   |.ok .ret env h=>dU call .ret env h
   |_=>.fail)
  rw[ih];rfl
noncomputable def He(h:Heap)(o:Option (List V)):Option (V×Heap):=
 match o with
 |some [v]=>fV v fun v=>some (v,h)
 |some vs=>some (.tup vs,h)
 |none=>none
noncomputable def Dr(fn:IFn)(r:Out):Option (V×Heap):=
 Out.rec (motive:=fun _=>Option (V×Heap)) (fun e env h=>Ex.rec (motive:=fun _=>Option (V×Heap)) (He h (dA env h fn.results)) (He h (dA env h fn.results)) (fun _=>none) (fun _=>none) e) none r
noncomputable def Dx(ov:av)(F:T IFn)(n:Nat):av:=
 Nat.rec (motive:=fun _=>av) (fun _ _ _=>none)
  (fun _ ih f vs h=>Option.rec (motive:=fun _=>Option (V×Heap)) (Bool.rec (motive:=fun _=>Option (V×Heap)) (ov f vs h) (evY (dY ih) (f-YB) vs h) (Nat.ble YB f)) (fun fn=>Bool.rec (motive:=fun _=>Option (V×Heap)) none (Dr fn (dY ih fn.body (du vs 0 .e) h)) (Nat.beq vs.length fn.nargs)) (F.get f)) n
theorem xd(ov:av)(F:T IFn):∀n,Dx ov F n=evF ov F n
 |0=>rfl
 |n+1=>by
  funext f vs h;show Option.rec (motive:=fun _=>Option (V×Heap)) (Bool.rec (motive:=fun _=>Option (V×Heap)) (ov f vs h) (evY (dY (Dx ov F n)) (f-YB) vs h) (Nat.ble YB f)) (fun fn=>Bool.rec (motive:=fun _=>Option (V×Heap)) none (Dr fn (dY (Dx ov F n) fn.body (du vs 0 .e) h)) (Nat.beq vs.length fn.nargs)) (F.get f)=
   (match F.get f with
   |some fn=>bif Nat.beq vs.length fn.nargs then
    (match evC (evF ov F n) fn.body (du vs 0 .e) h with
     |.ok .norm env h=>(match dA env h fn.results with
      |some [v]=>fV v fun v=>some (v,h)
      |some vs=>some (.tup vs,h)
      |none=>none)
     |.ok .ret env h=>(match dA env h fn.results with
      |some [v]=>fV v fun v=>some (v,h)
      |some vs=>some (.tup vs,h)
      |none=>none)
     |_=>none)
    else none
   |none=>bif Nat.ble YB f then evY (evC (evF ov F n)) (f-YB) vs h else ov f vs h)
  rw[xd ov F n];cases F.get f with
  |none=>
   show Bool.rec (motive:=fun _=>Option (V×Heap)) (ov f vs h) (evY (dY (evF ov F n)) (f-YB) vs h) (Nat.ble YB f)=bif Nat.ble YB f then evY (evC (evF ov F n)) (f-YB) vs h else ov f vs h;rw[show dY (evF ov F n)=evC (evF ov F n)from funext fun c=>uK _ c];cases Nat.ble YB f<;>rfl
  |some fn=>
   show Bool.rec (motive:=fun _=>Option (V×Heap)) none (Dr fn (dY (evF ov F n) fn.body (du vs 0 .e) h)) (Nat.beq vs.length fn.nargs)=_;simp only[];cases Nat.beq vs.length fn.nargs
   ·rfl
   ·show Dr fn (dY (evF ov F n) fn.body (du vs 0 .e) h)=_;rw[uK];cases evC (evF ov F n) fn.body (du vs 0 .e) h with
    |fail=>rfl
    |ok e env h=>cases e<;>rfl
end Go.Ev
namespace Go.Ev.Lay
set_option maxRecDepth 4000
inductive Tr where
 |nil
 |node (l:Tr) (s:Int) (r:Tr)
namespace Tr
def list:Tr→List Int
 |nil=>[]
 |node l s r=>l.list++s::r.list
def many:Tr→Int
 |nil=>0
 |node l _ r=>l.many+r.many+1
def sum:Tr→Int
 |nil=>0
 |node l s r=>l.sum+s+r.sum
def tall:Tr→Int
 |nil=>0
 |node l _ r=>max l.tall r.tall+1
theorem many_eq:∀t:Tr,t.many=t.list.length
 |nil=>rfl
 |node l s r=>by simp[many,list,many_eq l,many_eq r];omega
theorem sum_eq:∀t:Tr,t.sum=t.list.sum
 |nil=>rfl
 |node l s r=>by simp[sum,list,sum_eq l,sum_eq r];omega
theorem tall_nn:∀t:Tr,0≤t.tall
 |nil=>by simp[tall]
 |node l s r=>by have:=tall_nn l;have:=tall_nn r;simp only[tall];omega
theorem tall_le:∀t:Tr,t.tall≤t.many
 |nil=>by simp[tall,many]
 |node l s r=>by
  have a:=tall_le l;have b:=tall_le r;have c:=many_eq l;have d:=many_eq r;simp only[tall,many];omega
theorem many_nn(t:Tr):0≤t.many:=by rw[many_eq];omega
end Tr
def At(h:Heap):Tr→Option Nat→Prop
 |.nil,p=>p=none
 |.node l s r,p=>∃b pl pr,p=some b∧Own h b [pv pl,pv pr,.int .i64 s,.int .i64 (Tr.node l s r).many,.int .i64 (Tr.node l s r).sum,.int .i64 (Tr.node l s r).tall]∧At h l pl∧At h r pr
theorem At.fr{h h':Heap}(f:Fr [] h h'):∀{t:Tr}{p:Option Nat},At h t p→At h' t p
 |.nil,_,a=>a
 |.node l s r,_,⟨b,pl,pr,e,o,al,ar⟩=>⟨b,pl,pr,e,f.get o,At.fr f al,At.fr f ar⟩
def Fit(l:List Int):Prop:=(∀x∈l,0≤x)∧l.sum≤4611686018427387904∧(l.length:Int)≤1000000
theorem sum_nn:∀{l:List Int},(∀x∈l,0≤x)→0≤l.sum
 |[],_=>by simp
 |x::l,h=>by have:=sum_nn (l:=l) fun y hy=>h y (by simp[hy]);have:=h x (by simp);simp;omega
theorem Fit.left{a b:List Int}(f:Fit (a++b)):Fit a:=by
 obtain⟨p,q,r⟩:=f;have hb:0≤b.sum:=sum_nn fun x hx=>p x (by simp[hx]);refine⟨fun x hx=>p x (by simp[hx]),?_,?_⟩
 ·rw[List.sum_append]at q;omega
 ·rw[List.length_append]at r;omega
theorem Fit.right{a b:List Int}(f:Fit (a++b)):Fit b:=by
 obtain⟨p,q,r⟩:=f;have hb:0≤a.sum:=sum_nn fun x hx=>p x (by simp[hx]);refine⟨fun x hx=>p x (by simp[hx]),?_,?_⟩
 ·rw[List.sum_append]at q;omega
 ·rw[List.length_append]at r;omega
theorem Fit.nn{l:List Int}(f:Fit l):0≤l.sum:=sum_nn f.1
theorem cg{h:Heap}{t:Tr}{p:Option Nat}(a:At h t p):ao go 266 [pv p] h fun v h'=>v=.int .i64 t.tall∧h'=h:=by
 refine ag g266 rfl ?_;cases t with
 |nil=>have a:p=none:=a;subst a;simp only[fn266,evs,↓reduceIte,Nat.reduceEqDiff,gJ,Tr.tall]
 |node l s r=>
  obtain⟨b,pl,pr,rfl,o,_,_⟩:=a;simp only[fn266,evs,↓reduceIte,Nat.reduceEqDiff,aM,o.ld1]
theorem iK{h:Heap}{t:Tr}{p:Option Nat}(a:At h t p):ao go 243 [pv p] h fun v h'=>v=.int .i64 t.many∧h'=h:=by
 refine ag g243 rfl ?_;cases t with
 |nil=>have a:p=none:=a;subst a;simp only[fn243,evs,↓reduceIte,Nat.reduceEqDiff,gJ,Tr.many]
 |node l s r=>
  obtain⟨b,pl,pr,rfl,o,_,_⟩:=a;simp only[fn243,evs,↓reduceIte,Nat.reduceEqDiff,aM,o.ld1]
theorem ng{h:Heap}{t:Tr}{p:Option Nat}(a:At h t p):ao go 111 [pv p] h fun v h'=>v=.int .i64 t.sum∧h'=h:=by
 refine ag g111 rfl ?_;cases t with
 |nil=>have a:p=none:=a;subst a;simp only[fn111,evs,↓reduceIte,Nat.reduceEqDiff,gJ,Tr.sum]
 |node l s r=>
  obtain⟨b,pl,pr,rfl,o,_,_⟩:=a;simp only[fn111,evs,↓reduceIte,Nat.reduceEqDiff,aM,o.ld1]
theorem cZ{h:Heap}{l r:Tr}{s:Int}{pl pr:Option Nat}(w:WF h)(al:At h l pl)(ar:At h r pr)(f:Fit (l.list++s::r.list)):
 ao go 268 [pv pl,.int .i64 s,pv pr] h fun v h'=>∃b,v=pv (some b)∧At h' (.node l s r) (some b)∧Fr [] h h':=by
 have l1:=Tr.many_eq l;have l2:=Tr.sum_eq l;have l3:=Tr.tall_nn l;have l4:=Tr.tall_le l;have r1:=Tr.many_eq r;have r2:=Tr.sum_eq r;have r3:=Tr.tall_nn r;have r4:=Tr.tall_le r;have fl:=f.left.nn;have fr:=Fit.nn (Fit.right (a:=l.list++[s]) (b:=r.list) (by simpa using f));have hs:0≤s:=f.1 s (by simp);obtain⟨_,f2,f3⟩:=f;simp only[List.sum_append,List.sum_cons,List.length_append,List.length_cons]at f2 f3;rw[←l2]at fl f2;rw[←r2]at fr f2;refine ag g268 rfl ?_;simp only[fn268,evs,↓reduceIte,Nat.reduceEqDiff,Nat.reduceAdd];refine aa (iK al) ?_;rintro _ _ ⟨rfl,rfl⟩;simp only[evs,↓reduceIte,Nat.reduceEqDiff];refine aa (iK ar) ?_;rintro _ _ ⟨rfl,rfl⟩;simp(disch:=omega) only[evs,↓reduceIte,Nat.reduceEqDiff,ai];refine aa (ng al) ?_;rintro _ _ ⟨rfl,rfl⟩;simp(disch:=omega) only[evs,↓reduceIte,Nat.reduceEqDiff,ai];refine aa (ng ar) ?_;rintro _ _ ⟨rfl,rfl⟩;simp(disch:=omega) only[evs,↓reduceIte,Nat.reduceEqDiff,ai];refine aa (cg al) ?_;rintro _ _ ⟨rfl,rfl⟩;simp only[evs,↓reduceIte,Nat.reduceEqDiff];refine aa (cg ar) ?_;rintro _ _ ⟨rfl,rfl⟩;simp(disch:=omega) only[evs,↓reduceIte,Nat.reduceEqDiff,ai];refine⟨_,rfl,?_,Fr.halloc w _⟩;exact⟨_,pl,pr,rfl,by simpa only[Tr.many,Tr.sum,Tr.tall]using Own.new w _,al.fr (Fr.halloc w _),ar.fr (Fr.halloc w _)⟩
theorem DL{h:Heap}{l r:Tr}{s:Int}{pl pr:Option Nat}{bl bs br:Nat}(w:WF h)(al:At h l pl)(ar:At h r pr)(f:Fit (l.list++s::r.list))
 (ol:Own h bl [pv pl]) (os:Own h bs [.int .i64 s]) (or:Own h br [pv pr]):
 ao go 287 [.ptr bl 0,.ptr bs 0,.ptr br 0] h fun v h'=>∃t p,v=pv p∧At h' t p∧t.list=l.list++s::r.list∧Fr [] h h':=by
 refine ag g287 rfl ?_;simp only[fn287,evs,↓reduceIte,Nat.reduceEqDiff,Nat.reduceAdd,ol.ld1,os.ld1,or.ld1];refine aa (cZ w al ar f) ?_;rintro _ h' ⟨b,rfl,a,fr⟩;simp only[evs,↓reduceIte];exact⟨_,_,rfl,a,rfl,fr⟩
theorem Fit.cons{x:Int}{l:List Int}(f:Fit (x::l)):Fit l:=Fit.right (a:=[x]) (by simpa using f)
theorem DK{h:Heap}{l r:Tr}{s:Int}{pl pr:Option Nat}{bl bs br:Nat}(w:WF h)(al:At h l pl)(ar:At h r pr)(f:Fit (l.list++s::r.list))(ht:0<r.tall)
 (ol:Own h bl [pv pl]) (os:Own h bs [.int .i64 s]) (or:Own h br [pv pr]):
 ao go 288 [.ptr br 0,.ptr bl 0,.ptr bs 0] h fun v h'=>∃t p,v=pv p∧At h' t p∧t.list=l.list++s::r.list∧Fr [] h h':=by
 cases r with
 |nil=>simp[Tr.tall]at ht
 |node rl rs rr=>
  obtain⟨b,prl,prr,rfl,o,arl,arr⟩:=ar;have f1:Fit ((l.list++s::rl.list)++rs::rr.list):=by simpa[Tr.list]using f
  refine ag g288 rfl ?_;simp only[fn288,evs,↓reduceIte,Nat.reduceEqDiff,Nat.reduceAdd,eff,or.ld1,aM,o.ld1];refine aa (cg arl) ?_;rintro _ _ ⟨rfl,rfl⟩;simp only[evs,↓reduceIte,Nat.reduceEqDiff,eff];simp only[evs,eff,or.ld1,aM,o.ld1];refine aa (cg arr) ?_;rintro _ _ ⟨rfl,rfl⟩;simp only[evs,↓reduceIte,Nat.reduceEqDiff,Nat.reduceAdd,DF,eff,Nat.reduceSub];simp only[evs,↓reduceIte,Nat.reduceEqDiff,eff,ol.ld1,os.ld1,or.ld1,aM,o.ld1];split
  ·rename_i hlt;cases rl with
   |nil=>have:=Tr.tall_nn rr;simp[Tr.tall]at hlt;omega
   |node ml ms mr=>
    obtain⟨b',pml,pmr,rfl,o',aml,amr⟩:=arl;have f2:Fit ((l.list++s::ml.list)++ms::(mr.list++rs::rr.list)):=by simpa[Tr.list]using f
    simp only[evs,eff,aM,o'.ld1];refine aa (cZ w al aml f2.left) ?_;rintro _ h1 ⟨b1,rfl,a1,fr1⟩;simp only[evs,↓reduceIte,Nat.reduceEqDiff,eff,(fr1.get or).ld1,aM,(fr1.get o).ld1,(fr1.get o').ld1];refine aa (cZ fr1.wf (amr.fr fr1) (arr.fr fr1) f2.right.cons) ?_;rintro _ h2 ⟨b2,rfl,a2,fr2⟩;simp only[evs,eff,aM];refine aa (cZ fr2.wf (a1.fr fr2) a2 f2) ?_;rintro _ h3 ⟨b3,rfl,a3,fr3⟩;have fr12:=fr1.then fr2;simp only[evs,↓reduceIte,Nat.reduceEqDiff,Nat.reduceAdd,DF,eff,Nat.reduceSub,ol.ld1,os.ld1,or.ld1,o.ld1,o'.ld1,(fr1.get or).ld1,aM,(fr1.get o).ld1,(fr1.get o').ld1,(fr12.get o').ld1];exact⟨_,_,(aM _).symm,a3,by simp[Tr.list],fr12.then fr3⟩
  ·refine aa (cZ w al arl f1.left) ?_;rintro _ h1 ⟨b1,rfl,a1,fr1⟩;simp only[evs,↓reduceIte,Nat.reduceEqDiff,eff,(fr1.get or).ld1,aM,(fr1.get o).ld1];refine aa (cZ fr1.wf a1 (arr.fr fr1) f1) ?_;rintro _ h2 ⟨b2,rfl,a2,fr2⟩;simp only[evs,↓reduceIte,Nat.reduceEqDiff,Nat.reduceAdd,DF,eff,Nat.reduceSub,ol.ld1,os.ld1,or.ld1,o.ld1,(fr1.get or).ld1,aM,(fr1.get o).ld1];exact⟨_,_,(aM _).symm,a2,by simp[Tr.list],fr1.then fr2⟩
theorem DJ{h:Heap}{l r:Tr}{s:Int}{pl pr:Option Nat}{bl bs br:Nat}(w:WF h)(al:At h l pl)(ar:At h r pr)(f:Fit (l.list++s::r.list))(ht:0<l.tall)
 (ol:Own h bl [pv pl]) (os:Own h bs [.int .i64 s]) (or:Own h br [pv pr]):
 ao go 289 [.ptr bl 0,.ptr bs 0,.ptr br 0] h fun v h'=>∃t p,v=pv p∧At h' t p∧t.list=l.list++s::r.list∧Fr [] h h':=by
 cases l with
 |nil=>simp[Tr.tall]at ht
 |node ll ls lr=>
  obtain⟨b,pll,plr,rfl,o,all,alr⟩:=al;have f1:Fit (ll.list++ls::(lr.list++s::r.list)):=by simpa[Tr.list]using f
  refine ag g289 rfl ?_;simp only[fn289,evs,↓reduceIte,Nat.reduceEqDiff,Nat.reduceAdd,eff,ol.ld1,aM,o.ld1];refine aa (cg alr) ?_;rintro _ _ ⟨rfl,rfl⟩;simp only[evs,↓reduceIte,Nat.reduceEqDiff,eff];simp only[evs,eff,ol.ld1,aM,o.ld1];refine aa (cg all) ?_;rintro _ _ ⟨rfl,rfl⟩;simp only[evs,↓reduceIte,Nat.reduceEqDiff,Nat.reduceAdd,DF,eff,Nat.reduceSub];simp only[evs,↓reduceIte,Nat.reduceEqDiff,eff,ol.ld1,os.ld1,or.ld1,aM,o.ld1];split
  ·rename_i hlt;cases lr with
   |nil=>have:=Tr.tall_nn ll;simp[Tr.tall]at hlt;omega
   |node ml ms mr=>
    obtain⟨b',pml,pmr,rfl,o',aml,amr⟩:=alr;have f2:Fit ((ll.list++ls::ml.list)++ms::(mr.list++s::r.list)):=by simpa[Tr.list]using f
    simp only[evs,eff,aM,o'.ld1];refine aa (cZ w all aml f2.left) ?_;rintro _ h1 ⟨b1,rfl,a1,fr1⟩;simp only[evs,↓reduceIte,Nat.reduceEqDiff,eff,(fr1.get os).ld1,(fr1.get or).ld1,aM,(fr1.get o').ld1];refine aa (cZ fr1.wf (amr.fr fr1) (ar.fr fr1) f2.right.cons) ?_;rintro _ h2 ⟨b2,rfl,a2,fr2⟩;simp only[evs,eff,aM];refine aa (cZ fr2.wf (a1.fr fr2) a2 f2) ?_;rintro _ h3 ⟨b3,rfl,a3,fr3⟩;have fr12:=fr1.then fr2;simp only[evs,↓reduceIte,Nat.reduceEqDiff,Nat.reduceAdd,DF,eff,Nat.reduceSub,ol.ld1,os.ld1,or.ld1,o.ld1,o'.ld1,(fr1.get os).ld1,(fr1.get or).ld1,aM,(fr1.get o').ld1,(fr12.get o').ld1];exact⟨_,_,(aM _).symm,a3,by simp[Tr.list],fr12.then fr3⟩
  ·refine aa (cZ w alr ar f1.right.cons) ?_;rintro _ h1 ⟨b1,rfl,a1,fr1⟩;simp only[evs,eff,aM];refine aa (cZ fr1.wf (all.fr fr1) a1 f1) ?_;rintro _ h2 ⟨b2,rfl,a2,fr2⟩;simp only[evs,↓reduceIte,Nat.reduceEqDiff,Nat.reduceAdd,DF,eff,Nat.reduceSub,ol.ld1,os.ld1,or.ld1,o.ld1,(fr1.get ol).ld1,aM,(fr1.get o).ld1];exact⟨_,_,(aM _).symm,a2,by simp[Tr.list],fr1.then fr2⟩
theorem mF{h:Heap}{l r:Tr}{s:Int}{pl pr:Option Nat}(w:WF h)(al:At h l pl)(ar:At h r pr)(f:Fit (l.list++s::r.list)):
 ao go 267 [pv pl,.int .i64 s,pv pr] h fun v h'=>∃t p,v=pv p∧At h' t p∧t.list=l.list++s::r.list∧Fr [] h h':=by
 have l1:=Tr.many_eq l;have l3:=Tr.tall_nn l;have l4:=Tr.tall_le l;have r1:=Tr.many_eq r;have r3:=Tr.tall_nn r;have r4:=Tr.tall_le r;have f3:=f.2.2;simp only[List.length_append,List.length_cons]at f3;obtain⟨h1,e1⟩:∃h1,h1=halloc h [pv pl]:=⟨_,rfl⟩;obtain⟨h2,e2⟩:∃h2,h2=halloc h1 [.int .i64 s]:=⟨_,rfl⟩;obtain⟨h3,e3⟩:∃h3,h3=halloc h2 [pv pr]:=⟨_,rfl⟩;have F1:Fr [] h h1:=e1▸Fr.halloc w _;have F2:Fr [] h1 h2:=e2▸Fr.halloc F1.wf _;have F3:Fr [] h2 h3:=e3▸Fr.halloc F2.wf _;have ol:Own h3 h.next [pv pl]:=F3.get (F2.get (e1▸Own.new w _));have os:Own h3 h1.next [.int .i64 s]:=F3.get (e2▸Own.new F1.wf _);have or:Own h3 h2.next [pv pr]:=e3▸Own.new F2.wf _;have F:=(F1.then F2).then F3;have al':=al.fr F;have ar':=ar.fr F;refine ag g267 rfl ?_;simp only[fn267,evs,↓reduceIte,Nat.reduceEqDiff,Nat.reduceAdd,Int.reduceNeg,eff,←e1,←e2,←e3,or.ld1];refine aa (cg ar') ?_;rintro _ _ ⟨rfl,hh⟩;simp only[evs,↓reduceIte,Nat.reduceEqDiff,Int.reduceNeg,eff];subst hh;simp only[evs,Int.reduceNeg,eff,ol.ld1];refine aa (cg al') ?_;rintro _ _ ⟨rfl,hh⟩;simp(disch:=omega) only[evs,↓reduceIte,Nat.reduceEqDiff,Nat.reduceAdd,Nat.reduceLT,Int.reduceNeg,DF,eff,Nat.reduceSub,ai];subst hh;simp only[evs,Int.reduceNeg,ol.ld1,or.ld1];split
 ·rename_i hd;refine aa (DK F.wf al' ar' f (by omega) ol os or) ?_;rintro _ h' ⟨t,p,rfl,a,e,fr⟩;simp only[evs,↓reduceIte];exact⟨_,_,rfl,a,e,F.then fr⟩
 ·split
  ·refine aa (DJ F.wf al' ar' f (by omega) ol os or) ?_;rintro _ h' ⟨t,p,rfl,a,e,fr⟩;simp only[evs,↓reduceIte,Int.reduceNeg];exact⟨_,_,rfl,a,e,F.then fr⟩
  ·refine aa (DL F.wf al' ar' f ol os or) ?_;rintro _ h' ⟨t,p,rfl,a,e,fr⟩;simp only[evs,↓reduceIte,Int.reduceNeg];exact⟨_,_,rfl,a,e,F.then fr⟩
theorem vQ:∀(n:Nat){h:Heap}{l r:Tr}{s:Int}{pl pr:Option Nat},(l.many+r.many).toNat≤n→WF h→At h l pl→At h r pr→Fit (l.list++s::r.list)→
 ao go 234 [pv pl,.int .i64 s,pv pr] h fun v h'=>∃t p,v=pv p∧At h' t p∧t.list=l.list++s::r.list∧Fr [] h h':=by
 intro n;induction n with
 |zero=>
  intro h l r s pl pr hn w al ar f;cases l with
  |node ll ls lr=>have a:=Tr.many_nn ll;have b:=Tr.many_nn lr;have c:=Tr.many_nn r;simp only[Tr.many]at hn;omega
  |nil=>cases r with
   |node ll ls lr=>have a:=Tr.many_nn ll;have b:=Tr.many_nn lr;simp only[Tr.many]at hn;omega
   |nil=>
    refine ag g234 rfl ?_;simp only[fn234,evs,↓reduceIte,Nat.reduceEqDiff,Nat.reduceAdd];refine aa (cg al) ?_;rintro _ _ ⟨rfl,rfl⟩;simp only[evs,↓reduceIte,Nat.reduceEqDiff];refine aa (cg ar) ?_;rintro _ _ ⟨rfl,rfl⟩;simp only[evs,↓reduceIte,Nat.reduceEqDiff,eff];simp(disch:=omega) only[ai,Tr.tall];simp only[evs,↓reduceIte,show¬((0:Int)+1<0) by omega];refine aa (cg ar) ?_;rintro _ _ ⟨rfl,rfl⟩;simp only[evs,↓reduceIte,Nat.reduceEqDiff];refine aa (cg al) ?_;rintro _ _ ⟨rfl,rfl⟩;simp only[evs,↓reduceIte,Nat.reduceEqDiff,eff];simp(disch:=omega) only[ai,Tr.tall];simp only[evs,↓reduceIte,show¬((0:Int)+1<0) by omega];refine aa (cZ w al ar f) ?_;rintro _ h' ⟨b,rfl,a,fr⟩;simp only[evs,↓reduceIte];exact⟨_,_,rfl,a,rfl,fr⟩
 |succ n ih=>
  intro h l r s pl pr hn w al ar f;have l1:=Tr.many_eq l;have l3:=Tr.tall_nn l;have l4:=Tr.tall_le l;have r1:=Tr.many_eq r;have r3:=Tr.tall_nn r;have r4:=Tr.tall_le r;have f3:=f.2.2;simp only[List.length_append,List.length_cons]at f3;refine ag g234 rfl ?_;simp only[fn234,evs,↓reduceIte,Nat.reduceEqDiff,Nat.reduceAdd];refine aa (cg al) ?_;rintro _ _ ⟨rfl,rfl⟩;simp only[evs,↓reduceIte,Nat.reduceEqDiff];refine aa (cg ar) ?_;rintro _ _ ⟨rfl,rfl⟩;simp(disch:=omega) only[evs,↓reduceIte,Nat.reduceEqDiff,eff,ai];split
  ·rename_i hlt;cases l with
   |nil=>simp only[Tr.tall]at hlt;omega
   |node ll ls lr=>
    obtain⟨b,pll,plr,rfl,o,all,alr⟩:=al;have f1:Fit (ll.list++ls::(lr.list++s::r.list)):=by simpa[Tr.list]using f
    simp only[evs,↓reduceIte,Nat.reduceEqDiff,eff,aM,o.ld1];refine aa (ih (l:=lr) (r:=r) (by have a:=Tr.many_nn ll;simp only[Tr.many]at hn;omega) w alr ar f1.right.cons) ?_;rintro _ h1 ⟨t1,p1,rfl,a1,e1,fr1⟩;simp only[evs,eff];refine aa (mF fr1.wf (all.fr fr1) a1 (by rw[e1];exact f1)) ?_;rintro _ h2 ⟨t2,p2,rfl,a2,e2,fr2⟩;simp only[evs,↓reduceIte,Nat.reduceAdd,DF,eff,Nat.reduceSub,o.ld1,(fr1.get o).ld1];exact⟨_,_,rfl,a2,by rw[e2,e1];simp[Tr.list],fr1.then fr2⟩
  ·refine aa (cg ar) ?_;rintro _ _ ⟨rfl,rfl⟩;simp only[evs,↓reduceIte,Nat.reduceEqDiff];refine aa (cg al) ?_;rintro _ _ ⟨rfl,rfl⟩;simp(disch:=omega) only[evs,↓reduceIte,Nat.reduceEqDiff,eff,ai];split
   ·rename_i hlt;cases r with
    |nil=>simp only[Tr.tall]at hlt;omega
    |node rl rs rr=>
     obtain⟨b,prl,prr,rfl,o,arl,arr⟩:=ar;have f1:Fit ((l.list++s::rl.list)++rs::rr.list):=by simpa[Tr.list]using f
     simp only[evs,eff,aM,o.ld1];refine aa (ih (l:=l) (r:=rl) (by have a:=Tr.many_nn rr;simp only[Tr.many]at hn;omega) w al arl f1.left) ?_;rintro _ h1 ⟨t1,p1,rfl,a1,e1,fr1⟩;simp only[evs,↓reduceIte,Nat.reduceEqDiff,eff,(fr1.get o).ld1];refine aa (mF fr1.wf a1 (arr.fr fr1) (by rw[e1];exact f1)) ?_;rintro _ h2 ⟨t2,p2,rfl,a2,e2,fr2⟩;simp only[evs,↓reduceIte,Nat.reduceAdd,DF,eff,Nat.reduceSub,o.ld1,(fr1.get o).ld1];exact⟨_,_,rfl,a2,by rw[e2,e1];simp[Tr.list],fr1.then fr2⟩
   ·refine aa (cZ w al ar f) ?_;rintro _ h' ⟨b,rfl,a,fr⟩;simp only[evs,↓reduceIte];exact⟨_,_,rfl,a,rfl,fr⟩
theorem jf{h:Heap}{l r:Tr}{s:Int}{pl pr:Option Nat}(w:WF h)(al:At h l pl)(ar:At h r pr)(f:Fit (l.list++s::r.list)):
 ao go 234 [pv pl,.int .i64 s,pv pr] h fun v h'=>∃t p,v=pv p∧At h' t p∧t.list=l.list++s::r.list∧Fr [] h h':=
 vQ _ (Nat.le_refl _) w al ar f
theorem Fit.sub{l m:List Int}(f:Fit l)(h:m.Sublist l):Fit m:=by
 obtain⟨a,b,c⟩:=f;have hs:∀{l m:List Int},m.Sublist l→(∀x∈l,0≤x)→m.sum≤l.sum:=by
  intro l m h;induction h with
  |slnil=>intro _;simp
  |cons x h ih=>intro a;have:=ih (fun y hy=>a y (by simp[hy]));have:=a x (by simp);simp;omega
  |cons_cons x h ih=>intro a;have:=ih (fun y hy=>a y (by simp[hy]));simp;omega
 exact⟨fun x hx=>a x (h.subset hx),by have:=hs h a;omega,by have:=h.length_le;omega⟩
theorem yg(a b:List Int)(s:Int)(k:Nat):(a++s::b).take (a.length+1+k)=a++s::b.take k:=by
 induction a with
 |nil=>simp[Nat.add_comm 1 k]
 |cons x a ih=>simp only[List.cons_append,List.length_cons,show a.length+1+1+k=(a.length+1+k)+1 by omega,List.take_succ_cons,ih]
theorem yZ(a b:List Int)(s:Int)(k:Nat):(a++s::b).drop (a.length+1+k)=b.drop k:=by
 induction a with
 |nil=>simp[Nat.add_comm 1 k]
 |cons x a ih=>simp only[List.cons_append,List.length_cons,show a.length+1+1+k=(a.length+1+k)+1 by omega,List.drop_succ_cons,ih]
theorem j7:∀{t:Tr}{h:Heap}{p:Option Nat}{at':Int},WF h→At h t p→Fit t.list→0≤at'→at'≤1000000→
 ao go 233 [pv p,.int .i64 at'] h fun v h'=>∃t1 t2 p1 p2,v=.tup [pv p1,pv p2]∧At h' t1 p1∧At h' t2 p2∧t1.list=t.list.take at'.toNat∧t2.list=t.list.drop at'.toNat∧Fr [] h h':=by
 intro t;induction t with
 |nil=>
  intro h p at' w a f h0 h1;have a:p=none:=a;subst a;refine ag g233 rfl ?_;simp only[fn233,evs,↓reduceIte,Nat.reduceEqDiff,Nat.reduceAdd,gJ];exact⟨.nil,.nil,none,none,rfl,rfl,rfl,by simp[Tr.list],by simp[Tr.list],Fr.refl w⟩
 |node l s r ihl ihr=>
  intro h p at' w a f h0 h1;obtain⟨b,pl,pr,rfl,o,al,ar⟩:=a;have l1:=Tr.many_eq l;have f3:=f.2.2;simp only[Tr.list,List.length_append,List.length_cons]at f3;have f1:Fit (l.list++s::r.list):=f;refine ag g233 rfl ?_;simp only[fn233,evs,↓reduceIte,Nat.reduceEqDiff,Nat.reduceAdd,aM,o.ld1];refine aa (iK al) ?_;rintro _ _ ⟨rfl,rfl⟩;simp only[evs,↓reduceIte,Nat.reduceEqDiff];split
  ·rename_i hlt;simp(disch:=omega) only[evs,↓reduceIte,Nat.reduceEqDiff,ai,o.ld1];refine aa (ihr w ar f1.right.cons (by omega) (by omega)) ?_;rintro _ h1 ⟨t1,t2,p1,p2,rfl,a1,a2,e1,e2,fr1⟩;simp only[evs,↓reduceIte,Nat.reduceEqDiff,eff,(fr1.get o).ld1];refine aa (jf fr1.wf (al.fr fr1) a1 (by rw[e1];exact f1.sub ((List.Sublist.refl _).append ((List.take_sublist _ _).cons_cons _)))) ?_;rintro _ h2 ⟨t3,p3,rfl,a3,e3,fr2⟩;simp only[evs,↓reduceIte,Nat.reduceEqDiff,Nat.reduceAdd,DF,eff,Nat.reduceSub,(fr1.get o).ld1];have e:at'.toNat=l.list.length+1+(at'-l.many-1).toNat:=by omega
   refine⟨t3,t2,p3,p2,rfl,a3,a2.fr fr2,?_,?_,fr1.then fr2⟩
   ·rw[e3,e1,e,Tr.list,yg]
   ·rw[e2,e,Tr.list,yZ]
  ·rename_i hlt;simp only[evs,↓reduceIte,Nat.reduceEqDiff,o.ld1];refine aa (ihl w al f1.left h0 h1) ?_;rintro _ h1 ⟨t1,t2,p1,p2,rfl,a1,a2,e1,e2,fr1⟩;simp only[evs,↓reduceIte,Nat.reduceEqDiff,eff,(fr1.get o).ld1];refine aa (jf fr1.wf a2 (ar.fr fr1) (by rw[e2];exact f1.sub ((List.drop_sublist _ _).append (List.Sublist.refl _)))) ?_;rintro _ h2 ⟨t3,p3,rfl,a3,e3,fr2⟩;simp only[evs,↓reduceIte,Nat.reduceEqDiff,Nat.reduceAdd,DF,eff,Nat.reduceSub,(fr1.get o).ld1];refine⟨t1,t3,p1,p3,rfl,a1.fr fr2,a3,?_,?_,fr1.then fr2⟩
   ·rw[e1,Tr.list,List.take_append_of_le_length (by omega)]
   ·rw[e3,e2,Tr.list,List.drop_append_of_le_length (by omega)]
theorem vB{h:Heap}{l r:Tr}{pl pr:Option Nat}(w:WF h)(al:At h l pl)(ar:At h r pr)(f:Fit (l.list++r.list)):
 ao go 207 [pv pl,pv pr] h fun v h'=>∃t p,v=pv p∧At h' t p∧t.list=l.list++r.list∧Fr [] h h':=by
 cases r with
 |nil=>
  have a:pr=none:=ar;subst a;refine ag g207 rfl ?_;simp only[fn207,evs,↓reduceIte,Nat.reduceEqDiff,Nat.reduceAdd,gJ];exact⟨l,pl,rfl,al,by simp[Tr.list],Fr.refl w⟩
 |node rl rs rr=>
  have ar0:=ar;obtain⟨b,prl,prr,rfl,o,arl,arr⟩:=ar;refine ag g207 rfl ?_;simp only[fn207,evs,↓reduceIte,Nat.reduceEqDiff,Nat.reduceAdd,aM];refine aa (j7 (at':=1) w ar0 f.right (by omega) (by omega)) ?_;rintro _ h1 ⟨t1,t2,p1,p2,rfl,a1,a2,e1,e2,fr1⟩;cases t1 with
  |nil=>simp[Tr.list]at e1
  |node x y z=>
   obtain⟨b1,q1,q2,rfl,o1,_,_⟩:=a1;have ne:(Tr.node rl rs rr).list≠[]:=by simp[Tr.list]
   obtain⟨u,us,eu⟩:∃u us,(Tr.node rl rs rr).list=u::us:=by cases hh:(Tr.node rl rs rr).list with
    |nil=>exact absurd hh ne
    |cons u us=>exact⟨u,us,rfl⟩
   rw[eu]at e1 e2 f;simp[Tr.list]at e1 e2;have hx:x.list=[]∧y=u:=by
    cases hxx:x.list with
    |nil=>rw[hxx]at e1;simp at e1;exact⟨rfl,e1.1⟩
    |cons i j=>rw[hxx]at e1;have:=congrArg List.length e1;simp at this
   obtain⟨_,rfl⟩:=hx;simp only[evs,↓reduceIte,Nat.reduceEqDiff,aM,o1.ld1];refine aa (jf fr1.wf (al.fr fr1) a2 (by rw[e2];exact f)) ?_;rintro _ h2 ⟨t3,p3,rfl,a3,e3,fr2⟩;simp only[evs,↓reduceIte];exact⟨t3,p3,rfl,a3,by rw[e3,e2,eu],fr1.then fr2⟩
theorem At.frb{h h':Heap}{b:Nat}{c:List V}(f:Fr [b] h h')(o:Own h b c)(hc:c.length≠6):∀{t:Tr}{p:Option Nat},At h t p→At h' t p
 |.nil,_,a=>a
 |.node l s r,_,⟨q,pl,pr,e,oq,al,ar⟩=>⟨q,pl,pr,e,f.own _ _ (by
  simp only[List.mem_singleton];rintro rfl;have:=oq.uniq o;subst this;simp at hc) oq,At.frb f o hc al,At.frb f o hc ar⟩
def Rp(h:Heap)(v:V)(l:List Int):Prop:=∃t p,v=.agg [pv p]∧At h t p∧t.list=l∧Fit l
theorem Rp.fr{h h':Heap}{v:V}{l:List Int}(a:Rp h v l)(f:Fr [] h h'):Rp h' v l:=by
 obtain⟨t,p,e,a,x⟩:=a;exact⟨t,p,e,a.fr f,x⟩
theorem Rp.frb{h h':Heap}{v:V}{l:List Int}{b:Nat}{c:List V}(a:Rp h v l)(f:Fr [b] h h')(o:Own h b c)(hc:c.length≠6):Rp h' v l:=by
 obtain⟨t,p,e,a,x⟩:=a;exact⟨t,p,e,a.frb f o hc,x⟩
theorem pC{h:Heap}{v:V}{l:List Int}(w:WF h)(a:Rp h v l):ao go 192 [v] h fun u h'=>u=.int .i64 l.length∧Fr [] h h':=by
 obtain⟨t,p,rfl,a,rfl,f⟩:=a;obtain⟨h1,e_h1⟩:∃h1,h1=halloc h [pv p]:=⟨_,rfl⟩;have F_h1:Fr [] h h1:=e_h1▸Fr.halloc w _;have o_h1:Own h1 h.next [pv p]:=e_h1▸Own.new w _;refine ag g192 rfl ?_;simp only[fn192,evs,↓reduceIte,Nat.reduceEqDiff,←e_h1,o_h1.ld1];refine aa (iK (a.fr F_h1)) ?_;rintro _ _ ⟨rfl,hh⟩;simp only[evs,↓reduceIte];subst hh;exact⟨by rw[Tr.many_eq],F_h1⟩
theorem kV{h:Heap}{v:V}{l:List Int}(w:WF h)(a:Rp h v l):ao go 55 [v] h fun u h'=>u=.int .i64 l.sum∧Fr [] h h':=by
 obtain⟨t,p,rfl,a,rfl,f⟩:=a;obtain⟨h1,e_h1⟩:∃h1,h1=halloc h [pv p]:=⟨_,rfl⟩;have F_h1:Fr [] h h1:=e_h1▸Fr.halloc w _;have o_h1:Own h1 h.next [pv p]:=e_h1▸Own.new w _;refine ag g55 rfl ?_;simp only[fn55,evs,↓reduceIte,Nat.reduceEqDiff,←e_h1,o_h1.ld1];refine aa (ng (a.fr F_h1)) ?_;rintro _ _ ⟨rfl,hh⟩;simp only[evs,↓reduceIte];subst hh;exact⟨by rw[Tr.sum_eq],F_h1⟩
theorem yT{a b:List Int}{i:Nat}(h:i<a.length):(a++b).getD i 0=a.getD i 0:=by simp[List.getD,List.getElem?_append_left h]
theorem oM{a b:List Int}{i:Nat}(h:a.length≤i):(a++b).getD i 0=b.getD (i-a.length) 0:=by simp[List.getD,List.getElem?_append_right h]
theorem Dq:∀{t:Tr}{h:Heap}{p:Option Nat}{i:Int},At h t p→0≤i→i<t.list.length→Fit t.list→
 ao go 254 [pv p,.int .i64 i] h fun u h'=>h'=h∧∃b c,u=.ptr b 0∧Own h b c∧nth c 2=some (.int .i64 (t.list.getD i.toNat 0)):=by
 intro t;induction t with
 |nil=>intro h p i a h0 h1 f;simp[Tr.list]at h1;omega
 |node l s r ihl ihr=>
  intro h p i a h0 h1 f;obtain⟨b,pl,pr,rfl,o,al,ar⟩:=a;have l1:=Tr.many_eq l;have f3:=f.2.2;simp only[Tr.list,List.length_append,List.length_cons]at f3 h1;have f1:Fit (l.list++s::r.list):=f;refine ag g254 rfl ?_;simp only[fn254,evs,↓reduceIte,Nat.reduceEqDiff,Nat.reduceAdd,aM,o.ld1];refine aa (iK al) ?_;rintro _ _ ⟨rfl,rfl⟩;simp only[evs,↓reduceIte,Nat.reduceEqDiff];split
  ·simp only[evs,↓reduceIte,Nat.reduceEqDiff,o.ld1];refine aa (ihl al h0 (by omega) f1.left) ?_;rintro _ _ ⟨rfl,b',c',rfl,o',e'⟩;simp only[evs,↓reduceIte];refine⟨b',c',rfl,o',?_⟩;rw[e',Tr.list,yT (by omega)]
  ·split
   ·simp(disch:=omega) only[evs,↓reduceIte,Nat.reduceEqDiff,ai,o.ld1];refine aa (ihr ar (by omega) (by omega) f1.right.cons) ?_;rintro _ _ ⟨rfl,b',c',rfl,o',e'⟩;simp only[evs,↓reduceIte];refine⟨b',c',rfl,o',?_⟩;rw[e',Tr.list,oM (by omega),show i.toNat-l.list.length=(i-l.many-1).toNat+1 by omega];simp
   ·refine⟨b,_,rfl,o,?_⟩;rw[bY,bY,bD,Tr.list,oM (by omega),show i.toNat-l.list.length=0 by omega];simp
theorem Ck{h:Heap}{v:V}{l:List Int}{i:Int}(w:WF h)(a:Rp h v l):
 ao go 204 [v,.int .i64 i] h fun u h'=>(u=if 0≤i∧i<l.length then .tup [.int .i64 (l.getD i.toNat 0),.int .i64 0]else .tup [.int .i64 0,.int .i64 4])∧Fr [] h h':=by
 have a0:=a;obtain⟨t,p,rfl,a,rfl,f⟩:=a;obtain⟨h1,e_h1⟩:∃h1,h1=halloc h [pv p]:=⟨_,rfl⟩;have F_h1:Fr [] h h1:=e_h1▸Fr.halloc w _;have o_h1:Own h1 h.next [pv p]:=e_h1▸Own.new w _;have f3:=f.2.2;by_cases h0:i<0
 ·refine ag g204 rfl ?_;simp only[fn204,evs,↓reduceIte,Nat.reduceEqDiff,Nat.reduceAdd,←e_h1,h0];exact⟨by rw[if_neg (by omega)],F_h1⟩
 ·refine ag g204 rfl ?_;simp only[fn204,evs,↓reduceIte,Nat.reduceEqDiff,Nat.reduceAdd,←e_h1,o_h1.ld,h0];refine aa (pC F_h1.wf (a0.fr F_h1)) ?_;rintro _ h2 ⟨rfl,F2⟩;by_cases h3:(t.list.length:Int)≤i
  ·simp only[evs,↓reduceIte,Nat.reduceEqDiff,h3];exact⟨by rw[if_neg (by omega)],F_h1.then F2⟩
  ·simp only[evs,↓reduceIte,Nat.reduceEqDiff,h3,(F2.get o_h1).ld1];refine aa (Dq (a.fr (F_h1.then F2)) (by omega) (by omega) f) ?_;rintro _ _ ⟨rfl,b,c,rfl,o,e⟩;simp only[evs,↓reduceIte,Nat.reduceEqDiff,o.ld1,e];exact⟨by rw[if_pos (by omega)],F_h1.then F2⟩
def rZ:List Int→Int→Nat×Int
 |[],x=>(0,x)
 |s::l,x=>if x<s then(0,x)else((rZ l (x-s)).1+1,(rZ l (x-s)).2)
def Vals{α:Type}(f:α→V)(h:Heap)(v:V)(l:List α):Prop:=Sl h 1 v l.length (l.map f)
theorem Vals.fr{α:Type}{f:α→V}{h h':Heap}{v:V}{l:List α}(a:Vals f h v l)(r:Fr [] h h'):Vals f h' v l:=Sl.fr a r
theorem Vals.len{α:Type}{f:α→V}{h:Heap}{v:V}{l:List α}(a:Vals f h v l):aP .lenS [v]=some (.int .i64 l.length):=Sl.len a
theorem Vals.ix{α:Type}{f:α→V}{h:Heap}{v:V}{l:List α}(a:Vals f h v l)(k:IntKind)(i:Int)(h0:0≤i)(h1:i<l.length):
 ∃b o x,aP (.ixs 1) [v,.int k i]=some (.ptr b o)∧ab h b o=some (f x)∧l[i.toNat]? =some x:=by
 obtain⟨b,o,e,g,_⟩:=Sl.ix a k i h0 h1;have hi:i.toNat<l.length:=by omega
 refine⟨b,o,l[i.toNat],e,?_,by simp[hi]⟩;have:=g 0 (by omega);simpa[hi]using this
theorem Vals.upto{α:Type}{f:α→V}{h:Heap}{v:V}{l:List α}(a:Vals f h v l)(hv:v≠.sliceE)(k:IntKind)(i:Int)(h0:0≤i)(h1:i≤l.length):
 ∃v',aP (.sl none 1 false true false) [v,.int k i]=some v'∧Vals f h v' (l.take i.toNat):=by
 obtain⟨v',e,s⟩:=Sl.upto a (by omega) hv k i h0 h1;refine⟨v',e,?_⟩;unfold Vals;rw[List.length_take,Nat.min_eq_left (by omega),List.map_take];simpa using s
theorem Vals.from'{α:Type}{f:α→V}{h:Heap}{v:V}{l:List α}(a:Vals f h v l)(hv:v≠.sliceE)(k:IntKind)(i:Int)(h0:0≤i)(h1:i≤l.length):
 ∃v',aP (.sl none 1 true false false) [v,.int k i]=some v'∧Vals f h v' (l.drop i.toNat):=by
 obtain⟨v',e,s⟩:=Sl.from' a (by omega) hv k i h0 h1;refine⟨v',e,?_⟩;unfold Vals;rw[List.length_drop,List.map_drop];simpa using s
abbrev mK(h:Heap)(v:V)(l:List Int):Prop:=Vals (V.int .i64) h v l
abbrev Bools(h:Heap)(v:V)(l:List Bool):Prop:=Vals V.bool h v l
def chk:List Int→Int→Int
 |[],_=>0
 |s::l,t=>if s<0∨2305843009213693952<s then 12 else if 4611686018427387904-t<s then 13 else chk l (t+s)
theorem aK{α:Type}{l:List α}{i:Nat}{x:α}(h:l[i]? =some x):l.drop i=x::l.drop (i+1):=by
 have hi:i<l.length:=by
  rcases Nat.lt_or_ge i l.length with y|y
  ·exact y
  ·rw[List.getElem?_eq_none y]at h;cases h
 rw[List.drop_eq_getElem_cons hi];congr 1;rw[List.getElem?_eq_getElem hi]at h;cases h;rfl
theorem pF{h:Heap}{v:V}{l:List Int}(w:WF h)(a:mK h v l)(hn:l.length≤1000000):
 ao go 262 [v] h fun u h'=>u=.int .i64 (if 4096<l.length then 3 else chk l 0)∧h'=h:=by
 by_cases hl:(4096:Int)<l.length
 ·refine ag g262 rfl ?_;simp only[fn262,evs,↓reduceIte,Nat.reduceEqDiff,a.len,hl];rw[if_pos (by omega)]
 ·refine ag g262 rfl ?_;simp only[fn262,evs,↓reduceIte,Nat.reduceEqDiff,a.len,hl];refine aE (fun k env hh=>hh=h∧∃(i:Nat)(t:Int),env.get 11=some (.int .i64 i)∧env.get 3=some (.int .i64 t)∧env.get 9=some v∧env.get 10=some (.int .i64 l.length)∧
   i≤l.length∧0≤t∧t≤4611686018427387904∧chk (l.drop i) t=chk l 0∧k=l.length-i) l.length (by omega) ?_ ?_
  ·exact⟨rfl,0,0,(by simp[T.get_set]),(by simp[T.get_set]),(by simp[T.get_set]),(by simp[T.get_set]),by omega,by omega,by omega,by simp,rfl⟩
  ·rintro k env hh ⟨rfl,i,t,g11,g3,g9,g10,hi,t0,t1,e,rfl⟩;by_cases hlt:(i:Int)<l.length
   ·obtain⟨b,o,x,e1,e2,e3⟩:=a.ix .i64 i (by omega) hlt;simp only[Int.toNat_natCast]at e3;rw[aK e3,chk]at e;by_cases h1:x<0
    ·simp only[evs,↓reduceIte,Nat.reduceEqDiff,g11,g9,g10,hlt,e1,e2,h1];rw[if_neg (by omega),←e,if_pos (.inl h1)]
    ·by_cases h2:2305843009213693952<x
     ·simp only[evs,↓reduceIte,Nat.reduceEqDiff,g11,g9,g10,hlt,e1,e2,h1,h2];rw[if_neg (by omega),←e,if_pos (.inr h2)]
     ·rw[if_neg (by omega)]at e;by_cases h3:4611686018427387904-t<x
      ·simp(disch:=omega) only[evs,↓reduceIte,Nat.reduceEqDiff,ai,g11,g3,g9,g10,hlt,e1,e2,h1,h2,h3];rw[if_neg (by omega),←e,if_pos h3]
      ·simp(disch:=omega) only[evs,↓reduceIte,Nat.reduceEqDiff,ai,g11,g3,g9,g10,hlt,e1,e2,h1,h2,h3];rw[if_neg h3]at e;refine(aj _ _ _).2 ⟨l.length-(i+1),by omega,rfl,i+1,t+x,(by simp[T.get_set]),(by simp[T.get_set]),(by simp[T.get_set,g9]),(by simp[T.get_set,g10]),by omega,by omega,by omega,e,rfl⟩
   ·simp only[evs,↓reduceIte,g11,g10,hlt];rw[if_neg (by omega),←e,List.drop_of_length_le (by omega),chk]
theorem uk{l:List Int}{i:Nat}{x:Int}(h:l[i]? =some x):l=l.take i++x::l.drop (i+1):=by
 rw[←aK h,List.take_append_drop]
theorem yS:∀(n:Nat){h:Heap}{v:V}{l:List Int},l.length≤n→WF h→mK h v l→Fit l→
 ao go 296 [v] h fun u h'=>∃t p,u=pv p∧At h' t p∧t.list=l∧Fr [] h h':=by
 intro n;induction n with
 |zero=>
  intro h v l hn w a f;have:l=[]:=List.length_eq_zero_iff.1 (by omega);subst this;have hz:=a.len;simp only[List.length_nil,Int.natCast_zero]at hz;refine ag g296 rfl ?_;simp only[fn296,evs,↓reduceIte,Nat.reduceEqDiff,hz];exact⟨.nil,none,rfl,rfl,rfl,Fr.refl w⟩
 |succ n ih=>
  intro h v l hn w a f;by_cases h0:(l.length:Int)=0
  ·have:l=[]:=List.length_eq_zero_iff.1 (by omega);subst this;refine ag g296 rfl ?_;simp only[fn296,evs,↓reduceIte,Nat.reduceEqDiff,a.len];exact⟨.nil,none,rfl,rfl,rfl,Fr.refl w⟩
  ·have f3:=f.2.2;have hv:v≠.sliceE:=Sl.ne a (by omega);have hm:Int.tdiv (l.length:Int) 2=((l.length/2:Nat):Int):=(Int.ofNat_tdiv l.length 2).symm;obtain⟨m,em⟩:∃m:Nat,m=l.length/2:=⟨_,rfl⟩;rw[←em]at hm;obtain⟨v1,s1,i1⟩:=a.upto hv .i64 m (by omega) (by omega);obtain⟨v2,s2,i2⟩:=a.from' hv .i64 (m+1) (by omega) (by omega);obtain⟨b,o,x,e1,e2,e3⟩:=a.ix .i64 m (by omega) (by omega);simp only[Int.toNat_natCast]at i1 i2 e3;rw[show((m:Int)+1).toNat=m+1 by omega]at i2;have el:=uk e3;have f':Fit (l.take m++x::l.drop (m+1)):=el▸f;refine ag g296 rfl ?_;simp(disch:=omega) only[fn296,evs,↓reduceIte,Nat.reduceEqDiff,eff,ai,a.len,h0,lT _ _ 2 (by decide),hm,s1];refine aa (ih (by simp;omega) w i1 f'.left) ?_;rintro _ h1 ⟨t1,p1,rfl,a1,et1,fr1⟩;obtain⟨b',o',x',e1',e2',e3'⟩:=(a.fr fr1).ix .i64 m (by omega) (by omega);simp only[Int.toNat_natCast]at e3';rw[e1]at e1';cases e1';rw[e3]at e3';cases e3';simp(disch:=omega) only[evs,↓reduceIte,Nat.reduceEqDiff,eff,ai,e1,e2',s2];refine aa (ih (by simp;omega) fr1.wf (i2.fr fr1) f'.right.cons) ?_;rintro _ h2 ⟨t2,p2,rfl,a2,et2,fr2⟩;have fr12:=fr1.then fr2;obtain⟨b'',o'',x'',e1'',e2'',e3''⟩:=(a.fr fr12).ix .i64 m (by omega) (by omega);simp only[Int.toNat_natCast]at e3'';rw[e1]at e1'';cases e1'';rw[e3]at e3'';cases e3'';simp only[evs,eff];refine aa (cZ fr2.wf (a1.fr fr2) a2 (by rw[et1,et2];exact f')) ?_;rintro _ h3 ⟨b3,rfl,a3,fr3⟩;simp only[evs,↓reduceIte,Nat.reduceAdd,DF,eff,Nat.reduceSub,e2,e2',e2''];exact⟨_,_,rfl,a3,by rw[Tr.list,et1,et2];exact el.symm,fr12.then fr3⟩
theorem A0{h:Heap}{v:V}{l:List Int}(w:WF h)(a:mK h v l)(f:Fit l):
 ao go 296 [v] h fun u h'=>∃t p,u=pv p∧At h' t p∧t.list=l∧Fr [] h h':=yS _ (Nat.le_refl _) w a f
theorem xj:∀(l:List Int)(t:Int),chk l t=0→0≤t→(∀x∈l,0≤x)∧t+l.sum≤4611686018427387904∨l=[]
 |[],t,_,_=>.inr rfl
 |s::l,t,h,h0=>by
  rw[chk]at h;by_cases h1:s<0∨2305843009213693952<s
  ·rw[if_pos h1]at h;omega
  ·rw[if_neg h1]at h;by_cases h2:4611686018427387904-t<s
   ·rw[if_pos h2]at h;omega
   ·rw[if_neg h2]at h;rcases xj l (t+s) h (by omega)with⟨a,b⟩|rfl
    ·exact .inl ⟨by simp;exact⟨by omega,a⟩,by simp;omega⟩
    ·exact .inl ⟨by simp;omega,by simp;omega⟩
theorem Fit.of_chk{l:List Int}(h:chk l 0=0)(hl:l.length≤1000000):Fit l:=by
 rcases xj l 0 h (by omega)with⟨a,b⟩|rfl
 ·exact⟨a,by omega,by omega⟩
 ·exact⟨by simp,by simp,by simp⟩
theorem FP{h:Heap}{v:V}{l:List Int}(w:WF h)(a:mK h v l)(hn:l.length≤1000000):
 ao go 285 [v] h fun u h'=>Fr [] h h'∧∃c e,u=.tup [.agg [c],.int .i64 e]∧c.one=true∧(e=if 4096<l.length then 3 else chk l 0)∧(e=0→Rp h' (.agg [c]) l):=by
 obtain⟨h1,e_h1⟩:∃h1,h1=halloc h [.nilp]:=⟨_,rfl⟩;have F_h1:Fr [] h h1:=e_h1▸Fr.halloc w _;have o_h1:Own h1 h.next [.nilp]:=e_h1▸Own.new w _;by_cases he:(if 4096<l.length then 3 else chk l 0)=0
 ·have hc:chk l 0=0:=by
   by_cases h4:4096<l.length
   ·rw[if_pos h4]at he;omega
   ·rw[if_neg h4]at he;exact he
  have f:=Fit.of_chk hc hn;refine ag g285 rfl ?_;simp only[fn285,evs,↓reduceIte,Nat.reduceEqDiff,←e_h1];refine aa (pF F_h1.wf (a.fr F_h1) hn) ?_;rintro _ _ ⟨rfl,hh⟩;subst hh;simp only[evs,↓reduceIte,Nat.reduceEqDiff,he];refine aa (A0 F_h1.wf (a.fr F_h1) f) ?_;rintro _ h2 ⟨t,p,rfl,at',et,F2⟩;simp only[evs,↓reduceIte,Nat.reduceEqDiff];refine ah (c':=[pv p]) F2.wf (F2.get o_h1) rfl (by simp[aq,aN,V.cells]) rfl ?_;rintro h3 o3 F3 n3;simp only[evs,↓reduceIte,Nat.reduceEqDiff,o3.ld];exact⟨(F_h1.then F2).fresh F3 w (Nat.le_refl _),_,_,rfl,aN _,rfl,fun _=>⟨t,p,rfl,at'.frb F3 (F2.get o_h1) (by simp),et,f⟩⟩
 ·refine ag g285 rfl ?_;simp only[fn285,evs,↓reduceIte,Nat.reduceEqDiff,←e_h1];refine aa (pF F_h1.wf (a.fr F_h1) hn) ?_;rintro _ _ ⟨rfl,hh⟩;subst hh;simp only[evs,↓reduceIte,Nat.reduceEqDiff,he];refine ah (c':=[.nilp]) F_h1.wf o_h1 rfl rfl rfl ?_;rintro h3 o3 F3 n3;simp only[evs,↓reduceIte,Nat.reduceEqDiff,o3.ld];exact⟨F_h1.fresh F3 w (Nat.le_refl _),_,_,rfl,rfl,rfl,fun e=>absurd e he⟩
theorem Own.ne{h:Heap}{b b':Nat}{c c':List V}(o:Own h b c)(o':Own h b' c')(hc:c≠c'):b≠b':=by
 rintro rfl;exact hc (o.uniq o')
theorem zC{h:Heap}{v:V}{l:List Int}{i:Int}(w:WF h)(a:Rp h v l):
 ao go 284 [v,.int .i64 i] h fun u h'=>Fr [] h h'∧if 0≤i∧i≤l.length then∃r1 r2,u=.tup [r1,r2,.int .i64 0]∧Rp h' r1 (l.take i.toNat)∧Rp h' r2 (l.drop i.toNat)
  else u=.tup [.agg [.nilp],.agg [.nilp],.int .i64 4]:=by
 have a0:=a;obtain⟨t,p,rfl,a,rfl,f⟩:=a;have f3:=f.2.2;obtain⟨h1,e_h1⟩:∃h1,h1=halloc h [pv p]:=⟨_,rfl⟩;have F_h1:Fr [] h h1:=e_h1▸Fr.halloc w _;have o_h1:Own h1 h.next [pv p]:=e_h1▸Own.new w _;obtain⟨h2,e_h2⟩:∃h2,h2=halloc h1 [.nilp]:=⟨_,rfl⟩;have F_h2:Fr [] h1 h2:=e_h2▸Fr.halloc F_h1.wf _;have o_h2:Own h2 h1.next [.nilp]:=e_h2▸Own.new F_h1.wf _;obtain⟨h3,e_h3⟩:∃h3,h3=halloc h2 [.nilp]:=⟨_,rfl⟩;have F_h3:Fr [] h2 h3:=e_h3▸Fr.halloc F_h2.wf _;have o_h3:Own h3 h2.next [.nilp]:=e_h3▸Own.new F_h2.wf _;have F13:=(F_h1.then F_h2).then F_h3;have o1:=F_h3.get (F_h2.get o_h1);have o2:=F_h3.get o_h2;have ne:h1.next≠h2.next:=by rw[e_h2];simp[iG]
 have b1:h.next≤h1.next:=F_h1.next;have b2:h.next≤h2.next:=(F_h1.then F_h2).next;by_cases h0:i<0
 ·refine ag g284 rfl ?_;simp only[fn284,evs,↓reduceIte,Nat.reduceEqDiff,Nat.reduceAdd,←e_h1,←e_h2,←e_h3,h0];refine ah (c':=[.nilp]) F13.wf o2 rfl (by first|rfl|simp[aq,V.cells,aN, *]) rfl ?_
  rintro h5 o_h5 F_h5 n_h5;simp only[evs,↓reduceIte,Nat.reduceEqDiff];refine ah (c':=[.nilp]) F_h5.wf (F_h5.own _ _ (by simp;omega) o_h3) rfl (by first|rfl|simp[aq,V.cells,aN, *]) rfl ?_
  rintro h6 o_h6 F_h6 n_h6;simp only[evs,↓reduceIte,Nat.reduceEqDiff,o_h6.ld,(F_h6.own _ _ (by simp;omega) o_h5).ld];rw[if_neg (by omega)];exact⟨(F13.fresh F_h5 w b1).fresh F_h6 w b2,trivial⟩
 ·refine ag g284 rfl ?_;simp only[fn284,evs,↓reduceIte,Nat.reduceEqDiff,Nat.reduceAdd,←e_h1,←e_h2,←e_h3,o1.ld,h0];refine aa (pC F13.wf (a0.fr F13)) ?_;rintro _ h4 ⟨rfl,F4⟩;by_cases hi:(t.list.length:Int)<i
  ·simp only[evs,↓reduceIte,Nat.reduceEqDiff,hi];refine ah (c':=[.nilp]) F4.wf (F4.get o2) rfl (by first|rfl|simp[aq,V.cells,aN, *]) rfl ?_
   rintro h5 o_h5 F_h5 n_h5;simp only[evs,↓reduceIte,Nat.reduceEqDiff];refine ah (c':=[.nilp]) F_h5.wf (F_h5.own _ _ (by simp;omega) (F4.get o_h3)) rfl (by first|rfl|simp[aq,V.cells,aN, *]) rfl ?_
   rintro h6 o_h6 F_h6 n_h6;simp only[evs,↓reduceIte,Nat.reduceEqDiff,o_h6.ld,(F_h6.own _ _ (by simp;omega) o_h5).ld];rw[if_neg (by omega)];exact⟨((F13.then F4).fresh F_h5 w b1).fresh F_h6 w b2,trivial⟩
  ·simp only[evs,↓reduceIte,Nat.reduceEqDiff,hi,(F4.get o1).ld1];refine aa (j7 F4.wf (a.fr (F13.then F4)) f (by omega) (by omega)) ?_;rintro _ h5 ⟨t1,t2,p1,p2,rfl,a1,a2,e1,e2,F5⟩;simp only[evs,↓reduceIte,Nat.reduceEqDiff];have F45:=F4.then F5;refine ah (c':=[pv p1]) F5.wf (F45.get o2) rfl (by first|rfl|simp[aq,V.cells,aN, *]) rfl ?_
   rintro h6 o_h6 F_h6 n_h6;simp only[evs,↓reduceIte,Nat.reduceEqDiff];refine ah (c':=[pv p2]) F_h6.wf (F_h6.own _ _ (by simp;omega) (F45.get o_h3)) rfl (by first|rfl|simp[aq,V.cells,aN, *]) rfl ?_
   rintro h7 o_h7 F_h7 n_h7;simp only[evs,↓reduceIte,Nat.reduceEqDiff,o_h7.ld,(F_h7.own _ _ (by simp;omega) o_h6).ld];rw[if_pos (by omega)];have c1:∀{t:Tr}{p:Option Nat},At h5 t p→At h7 t p:=fun x=>(x.frb F_h6 (F45.get o2) (by simp)).frb F_h7 (F_h6.own _ _ (by simp;omega) (F45.get o_h3)) (by simp);exact⟨((F13.then F45).fresh F_h6 w b1).fresh F_h7 w b2,_,_,rfl,⟨t1,p1,rfl,c1 a1,e1,f.sub (List.take_sublist _ _)⟩,⟨t2,p2,rfl,c1 a2,e2,f.sub (List.drop_sublist _ _)⟩⟩
def ig(l m:List Int):Int:=if 4096<l.length+m.length then 3 else if 4611686018427387904-m.sum<l.sum then 13 else 0
theorem D5{h:Heap}{v u:V}{l m:List Int}(w:WF h)(a:Rp h v l)(a':Rp h u m):
 ao go 286 [v,u] h fun z h'=>Fr [] h h'∧∃c,z=.tup [.agg [c],.int .i64 (ig l m)]∧c.one=true∧(ig l m=0→Rp h' (.agg [c]) (l++m)):=by
 have a0:=a;have a0':=a';obtain⟨t,p,rfl,a,rfl,f⟩:=a;obtain⟨t',p',rfl,a',rfl,f'⟩:=a';have f3:=f.2.2;have f3':=f'.2.2;have n:=f.nn;have n':=f'.nn;have f2:=f.2.1;have f2':=f'.2.1;obtain⟨h1,e_h1⟩:∃h1,h1=halloc h [pv p]:=⟨_,rfl⟩;have F_h1:Fr [] h h1:=e_h1▸Fr.halloc w _;have o_h1:Own h1 h.next [pv p]:=e_h1▸Own.new w _;obtain⟨h2,e_h2⟩:∃h2,h2=halloc h1 [pv p']:=⟨_,rfl⟩;have F_h2:Fr [] h1 h2:=e_h2▸Fr.halloc F_h1.wf _;have o_h2:Own h2 h1.next [pv p']:=e_h2▸Own.new F_h1.wf _;obtain⟨h3,e_h3⟩:∃h3,h3=halloc h2 [.nilp]:=⟨_,rfl⟩;have F_h3:Fr [] h2 h3:=e_h3▸Fr.halloc F_h2.wf _;have o_h3:Own h3 h2.next [.nilp]:=e_h3▸Own.new F_h2.wf _;have F13:=(F_h1.then F_h2).then F_h3;have o1:=F_h3.get (F_h2.get o_h1);have o2:=F_h3.get o_h2;have b2:h.next≤h2.next:=(F_h1.then F_h2).next;refine ag g286 rfl ?_;simp only[fn286,evs,↓reduceIte,Nat.reduceEqDiff,Nat.reduceAdd,eff,←e_h1,←e_h2,←e_h3,o1.ld];refine aa (pC F13.wf (a0.fr F13)) ?_;rintro _ h4 ⟨rfl,F4⟩;simp only[evs,↓reduceIte,Nat.reduceEqDiff,eff,(F4.get o2).ld];refine aa (pC F4.wf (a0'.fr (F13.then F4))) ?_;rintro _ h5 ⟨rfl,F5⟩;simp(disch:=omega) only[evs,↓reduceIte,Nat.reduceEqDiff,Nat.reduceAdd,DF,eff,Nat.reduceSub,ai,o1.ld,o2.ld,(F4.get o2).ld];have F45:=F4.then F5;by_cases c1:(4096:Int)<t.list.length+t'.list.length
 ·simp only[evs,↓reduceIte,c1];refine ah (c':=[.nilp]) F5.wf (F45.get o_h3) rfl (by first|rfl|simp[aq,V.cells,aN, *]) rfl ?_
  rintro h6 o_h6 F_h6 n_h6;simp only[evs,↓reduceIte,Nat.reduceEqDiff,o_h6.ld];have e:ig t.list t'.list=3:=by unfold ig;rw[if_pos (by omega)]
  rw[e];exact⟨(F13.then F45).fresh F_h6 w b2,_,rfl,rfl,by simp⟩
 ·simp only[evs,↓reduceIte,eff,c1,(F45.get o1).ld];refine aa (kV F5.wf (a0.fr (F13.then F45))) ?_;rintro _ h6 ⟨rfl,F6⟩;have F46:=F45.then F6;simp only[evs,↓reduceIte,Nat.reduceEqDiff,eff,(F46.get o2).ld];refine aa (kV F6.wf (a0'.fr (F13.then F46))) ?_;rintro _ h7 ⟨rfl,F7⟩;have F47:=F46.then F7;simp(disch:=omega) only[evs,↓reduceIte,Nat.reduceEqDiff,Nat.reduceAdd,DF,eff,Nat.reduceSub,ai,(F45.get o1).ld,(F46.get o2).ld,(F45.get o2).ld];by_cases c2:4611686018427387904-t'.list.sum<t.list.sum
  ·simp only[evs,↓reduceIte,c2];refine ah (c':=[.nilp]) F7.wf (F47.get o_h3) rfl (by first|rfl|simp[aq,V.cells,aN, *]) rfl ?_
   rintro h8 o_h8 F_h8 n_h8;simp only[evs,↓reduceIte,Nat.reduceEqDiff,o_h8.ld];have e:ig t.list t'.list=13:=by unfold ig;rw[if_neg (by omega),if_pos c2]
   rw[e];exact⟨(F13.then F47).fresh F_h8 w b2,_,rfl,rfl,by simp⟩
  ·simp only[evs,↓reduceIte,Nat.reduceEqDiff,c2,(F47.get o1).ld1,(F47.get o2).ld1];have ff:Fit (t.list++t'.list):=⟨fun x hx=>by rcases List.mem_append.1 hx with y|y;exact f.1 x y;exact f'.1 x y,by rw[List.sum_append];omega,by rw[List.length_append];omega⟩
   refine aa (vB F7.wf (a.fr (F13.then F47)) (a'.fr (F13.then F47)) ff) ?_;rintro _ h8 ⟨t2,p2,rfl,a2,e2,F8⟩;simp only[evs,↓reduceIte,Nat.reduceEqDiff];refine ah (c':=[pv p2]) F8.wf ((F47.then F8).get o_h3) rfl (by first|rfl|simp[aq,V.cells,aN, *]) rfl ?_
   rintro h9 o_h9 F_h9 n_h9;simp only[evs,↓reduceIte,Nat.reduceEqDiff,o_h9.ld];have e:ig t.list t'.list=0:=by unfold ig;rw[if_neg (by omega),if_neg c2]
   rw[e];exact⟨(F13.then (F47.then F8)).fresh F_h9 w b2,_,rfl,aN _,fun _=>⟨t2,p2,rfl,a2.frb F_h9 ((F47.then F8).get o_h3) (by simp),e2,ff⟩⟩
def jr(l:List Int)(i size:Int):Int:=if 0≤i∧i<l.length then if size<0∨2305843009213693952<size then 12 else if 4611686018427387904-(l.sum-l.getD i.toNat 0)<size then 13 else 0 else 4
theorem rJ:∀(l:List Int)(i:Nat)(x:Int),i<l.length→(l.set i x).sum=l.sum-l.getD i 0+x
 |y::l,0,x,_=>by simp;omega
 |y::l,i+1,x,h=>by have:=rJ l i x (by simpa using h);simp at this⊢;omega
theorem yi:∀(l:List Int)(i:Nat)(x:Int),i<l.length→l.set i x=l.take i++x::l.drop (i+1):=by
 intro l i x h;rw[List.set_eq_take_append_cons_drop,if_pos h]
theorem Fit.set{l:List Int}(f:Fit l){i:Nat}{x:Int}(hi:i<l.length)(h0:0≤x)(h1:x≤4611686018427387904-(l.sum-l.getD i 0)):Fit (l.set i x):=by
 refine⟨fun y hy=>?_,?_,?_⟩
 ·rcases List.mem_or_eq_of_mem_set hy with a|a
  ·exact f.1 y a
  ·omega
 ·rw[rJ _ _ _ hi];omega
 ·rw[List.length_set];exact f.2.2
theorem wX:∀{l:List Int}{i:Nat},(∀x∈l,0≤x)→l.getD i 0≤l.sum∧0≤l.getD i 0
 |[],i,_=>by simp
 |y::l,0,h=>by have:=sum_nn (l:=l) fun z hz=>h z (by simp[hz]);have:=h y (by simp);simp;omega
 |y::l,i+1,h=>by have:=wX (l:=l) (i:=i) fun z hz=>h z (by simp[hz]);have:=h y (by simp);simp at *;omega
theorem DX{h:Heap}{v:V}{l:List Int}{i size:Int}(w:WF h)(a:Rp h v l)(s0:-9223372036854775808≤size)(s1:size≤9223372036854775807):
 ao go 181 [v,.int .i64 i,.int .i64 size] h fun u h'=>Fr [] h h'∧∃c,u=.tup [.agg [c],.int .i64 (jr l i size)]∧c.one=true∧(jr l i size=0→Rp h' (.agg [c]) (l.set i.toNat size)):=by
 have a0:=a;obtain⟨t,p,rfl,a,rfl,f⟩:=a;have f3:=f.2.2;have f2:=f.2.1;have n:=f.nn;have gd:=wX (i:=i.toNat) f.1;obtain⟨h1,e_h1⟩:∃h1,h1=halloc h [pv p]:=⟨_,rfl⟩;have F_h1:Fr [] h h1:=e_h1▸Fr.halloc w _;have o_h1:Own h1 h.next [pv p]:=e_h1▸Own.new w _;obtain⟨h2,e_h2⟩:∃h2,h2=halloc h1 [.nilp]:=⟨_,rfl⟩;have F_h2:Fr [] h1 h2:=e_h2▸Fr.halloc F_h1.wf _;have o_h2:Own h2 h1.next [.nilp]:=e_h2▸Own.new F_h1.wf _;have F12:=F_h1.then F_h2;have o1:=F_h2.get o_h1;have b1:h.next≤h1.next:=F_h1.next;refine ag g181 rfl ?_;simp only[fn181,evs,↓reduceIte,Nat.reduceEqDiff,Nat.reduceAdd,←e_h1,←e_h2,o1.ld];refine aa (Ck F12.wf (a0.fr F12)) ?_;rintro _ h3 ⟨rfl,F3⟩;by_cases hi:0≤i∧i<t.list.length
 ·rw[if_pos hi];by_cases c1:size<0
  ·simp only[evs,↓reduceIte,Nat.reduceEqDiff,c1];refine ah (c':=[.nilp]) F3.wf (F3.get o_h2) rfl (by first|rfl|simp[aq,V.cells,aN, *]) rfl ?_
   rintro h4 o_h4 F_h4 n_h4;simp only[evs,↓reduceIte,Nat.reduceEqDiff,o_h4.ld];have e:jr t.list i size=12:=by unfold jr;rw[if_pos hi,if_pos (.inl c1)]
   rw[e];exact⟨(F12.then F3).fresh F_h4 w b1,_,rfl,rfl,by simp⟩
  ·by_cases c2:2305843009213693952<size
   ·simp only[evs,↓reduceIte,Nat.reduceEqDiff,c1,c2];refine ah (c':=[.nilp]) F3.wf (F3.get o_h2) rfl (by first|rfl|simp[aq,V.cells,aN, *]) rfl ?_
    rintro h4 o_h4 F_h4 n_h4;simp only[evs,↓reduceIte,Nat.reduceEqDiff,o_h4.ld];have e:jr t.list i size=12:=by unfold jr;rw[if_pos hi,if_pos (.inr c2)]
    rw[e];exact⟨(F12.then F3).fresh F_h4 w b1,_,rfl,rfl,by simp⟩
   ·simp only[evs,↓reduceIte,Nat.reduceEqDiff,c1,c2,(F3.get o1).ld];refine aa (kV F3.wf (a0.fr (F12.then F3))) ?_;rintro _ h4 ⟨rfl,F4⟩;have F34:=F3.then F4;by_cases c3:4611686018427387904-(t.list.sum-t.list.getD i.toNat 0)<size
    ·simp(disch:=omega) only[evs,↓reduceIte,Nat.reduceEqDiff,ai,c3];refine ah (c':=[.nilp]) F4.wf (F34.get o_h2) rfl (by first|rfl|simp[aq,V.cells,aN, *]) rfl ?_
     rintro h5 o_h5 F_h5 n_h5;simp only[evs,↓reduceIte,Nat.reduceEqDiff,o_h5.ld];have e:jr t.list i size=13:=by unfold jr;rw[if_pos hi,if_neg (by omega),if_pos c3]
     rw[e];exact⟨(F12.then F34).fresh F_h5 w b1,_,rfl,rfl,by simp⟩
    ·simp(disch:=omega) only[evs,↓reduceIte,Nat.reduceEqDiff,ai,c3,(F34.get o1).ld1];refine aa (j7 F4.wf (a.fr (F12.then F34)) f (by omega) (by omega)) ?_;rintro _ h5 ⟨t1,t2,p1,p2,rfl,a1,a2,e1,e2,F5⟩;simp only[evs,↓reduceIte];refine aa (j7 F5.wf a2 (by rw[e2];exact f.sub (List.drop_sublist _ _)) (by omega) (by omega)) ?_;rintro _ h6 ⟨t3,t4,p3,p4,rfl,a3,a4,e3,e4,F6⟩;simp only[evs,↓reduceIte,Nat.reduceEqDiff];have hin:i.toNat<t.list.length:=by omega
     have ff:=f.set hin (show 0≤size by omega) (by omega);have el:t1.list++size::t4.list=t.list.set i.toNat size:=by
      rw[e1,e4,e2,yi _ _ _ hin,show(1:Int).toNat=1 from rfl,List.drop_drop]
     refine aa (jf F6.wf (a1.fr F6) a4 (by rw[el];exact ff)) ?_;rintro _ h7 ⟨t5,p5,rfl,a5,e5,F7⟩;simp only[evs,↓reduceIte,Nat.reduceEqDiff];have F37:=((F34.then F5).then F6).then F7;refine ah (c':=[pv p5]) F7.wf (F37.get o_h2) rfl (by first|rfl|simp[aq,V.cells,aN, *]) rfl ?_
     rintro h8 o_h8 F_h8 n_h8;simp only[evs,↓reduceIte,Nat.reduceEqDiff,o_h8.ld];have e:jr t.list i size=0:=by unfold jr;rw[if_pos hi,if_neg (by omega),if_neg c3]
     rw[e];exact⟨(F12.then F37).fresh F_h8 w b1,_,rfl,aN _,fun _=>⟨t5,p5,rfl,a5.frb F_h8 (F37.get o_h2) (by simp),e5.trans el,ff⟩⟩
 ·rw[if_neg hi];simp only[evs,↓reduceIte,Nat.reduceEqDiff];simp only[evs,↓reduceIte,show¬((4:Int)=0) by omega];refine ah (c':=[.nilp]) F3.wf (F3.get o_h2) rfl (by first|rfl|simp[aq,V.cells,aN, *]) rfl ?_
  rintro h4 o_h4 F_h4 n_h4;simp only[evs,↓reduceIte,Nat.reduceEqDiff,o_h4.ld];have e:jr t.list i size=4:=by unfold jr;rw[if_neg hi]
  rw[e];exact⟨(F12.then F3).fresh F_h4 w b1,_,rfl,rfl,by simp⟩
def ofE(m:List Int):Int:=if 4096<m.length then 3 else chk m 0
def pI(l:List Int)(i:Int)(m:List Int):Int:=if 0≤i∧i≤l.length then if ofE m=0 then ig l m else ofE m else 4
theorem DY{h:Heap}{v u:V}{l m:List Int}{i:Int}(w:WF h)(a:Rp h v l)(am:mK h u m)(hm:m.length≤1000000):
 ao go 263 [v,.int .i64 i,u] h fun z h'=>Fr [] h h'∧∃c,z=.tup [.agg [c],.int .i64 (pI l i m)]∧c.one=true∧(pI l i m=0→Rp h' (.agg [c]) (l.take i.toNat++m++l.drop i.toNat)):=by
 have a0:=a;obtain⟨t,p,rfl,a,rfl,f⟩:=a;obtain⟨h1,e_h1⟩:∃h1,h1=halloc h [pv p]:=⟨_,rfl⟩;have F_h1:Fr [] h h1:=e_h1▸Fr.halloc w _;have o_h1:Own h1 h.next [pv p]:=e_h1▸Own.new w _;obtain⟨h2,e_h2⟩:∃h2,h2=halloc h1 [.nilp]:=⟨_,rfl⟩;have F_h2:Fr [] h1 h2:=e_h2▸Fr.halloc F_h1.wf _;have o_h2:Own h2 h1.next [.nilp]:=e_h2▸Own.new F_h1.wf _;have F12:=F_h1.then F_h2;have o1:=F_h2.get o_h1;have b1:h.next≤h1.next:=F_h1.next;refine ag g263 rfl ?_;simp only[fn263,evs,↓reduceIte,Nat.reduceEqDiff,Nat.reduceAdd,←e_h1,←e_h2,o1.ld];refine aa (zC F12.wf (a0.fr F12)) ?_;rintro _ h3 ⟨F3,hu⟩;have F13:=F12.then F3;have b3:h.next≤h3.next:=F13.next;by_cases hi:0≤i∧i≤t.list.length
 ·rw[if_pos hi]at hu;obtain⟨r1,r2,rfl,ra,rb⟩:=hu;obtain⟨t1,p1,rfl,a1,e1,f1⟩:=ra;obtain⟨t2,p2,rfl,a2,e2,f2⟩:=rb;obtain⟨h4,e_h4⟩:∃h4,h4=halloc h3 [.nilp]:=⟨_,rfl⟩;have F_h4:Fr [] h3 h4:=e_h4▸Fr.halloc F3.wf _;have o_h4:Own h4 h3.next [.nilp]:=e_h4▸Own.new F3.wf _;obtain⟨h5,e_h5⟩:∃h5,h5=halloc h4 [.nilp]:=⟨_,rfl⟩;have F_h5:Fr [] h4 h5:=e_h5▸Fr.halloc F_h4.wf _;have o_h5:Own h5 h4.next [.nilp]:=e_h5▸Own.new F_h4.wf _;have F45:=F_h4.then F_h5;have ne:h3.next≠h4.next:=by rw[e_h4];simp[iG]
  simp only[evs,↓reduceIte,Nat.reduceEqDiff,←e_h4,←e_h5];refine ah (c':=[pv p1]) F45.wf (F_h5.get o_h4) rfl (by first|rfl|simp[aq,V.cells,aN, *]) rfl ?_
  rintro h6 o_h6 F_h6 n_h6;simp only[evs,↓reduceIte];refine ah (c':=[pv p2]) F_h6.wf (F_h6.own _ _ (by simp;omega) o_h5) rfl (by first|rfl|simp[aq,V.cells,aN, *]) rfl ?_
  rintro h7 o_h7 F_h7 n_h7;simp only[evs,↓reduceIte,Nat.reduceEqDiff];have oa:=F_h7.own _ _ (by simp;omega) o_h6;have b4:h.next≤h4.next:=Nat.le_trans b3 F_h4.next;have F17:=((F13.then F45).fresh F_h6 w b3).fresh F_h7 w b4;have keep:∀{b:Nat}{c:List V},Own h3 b c→Own h7 b c:=fun o=>F_h7.own _ _ (by have:=o.lt F3.wf;have:=F_h4.next;simp;omega) (F_h6.own _ _ (by have:=o.lt F3.wf;simp;omega) (F45.get o));have F37:Fr [] h3 h7:=⟨by have:=F45.next;omega,F_h7.wf,fun _ _ _ o=>keep o,fun x c _ o=>F_h7.pl _ _ (by have:=o.own.lt F3.wf;have:=F_h4.next;simp;omega) (F_h6.pl _ _ (by have:=o.own.lt F3.wf;simp;omega) (F45.pl _ _ (by simp) o)),fun x k hk o=>F_h7.lp _ _ hk (F_h6.lp _ _ hk (F45.lp _ _ hk o)),fun x c r=>F_h7.ro _ _ (F_h6.ro _ _ (F45.ro _ _ r))⟩;have or:=F37.get (F3.get o_h2);have ob:=F37.get (F3.get o1);refine aa (FP F_h7.wf (am.fr F17) hm) ?_;rintro _ h8 ⟨F8,c0,e,rfl,hc0,ee,hr⟩;change e=ofE m at ee;obtain⟨h9,e_h9⟩:∃h9,h9=halloc h8 [.nilp]:=⟨_,rfl⟩;have F_h9:Fr [] h8 h9:=e_h9▸Fr.halloc F8.wf _;have o_h9:Own h9 h8.next [.nilp]:=e_h9▸Own.new F8.wf _;simp only[evs,↓reduceIte,←e_h9];refine ah (c':=[c0]) F_h9.wf o_h9 rfl (by simp[aq,V.cells,hc0]) rfl ?_;rintro h10 o10 F10 n10;have b8:h.next≤h8.next:=(F17.then F8).next;have F910:Fr [] h8 h10:=F_h9.fresh F10 F8.wf (Nat.le_refl _);have F110:=(F17.then F8).then F910;have F710:=F8.then F910;by_cases h0:e=0
  ·have em:ofE m=0:=by omega
   subst h0;have hrr:=hr rfl;obtain⟨t3,p3,q3,a3,e3,f3⟩:=hrr;cases q3;simp only[evs,↓reduceIte,Nat.reduceEqDiff,(F710.get ob).ld,o10.ld];refine aa (D5 F910.wf (a0.fr F110) (Rp.fr (l:=m) ⟨t3,p3,rfl,a3,e3,f3⟩ F910)) ?_;rintro _ h11 ⟨F11,c',rfl,hc',hj⟩;have ei:pI t.list i m=ig t.list m:=by unfold pI;rw[if_pos hi,if_pos em]
   rw[ei];obtain⟨h12,e_h12⟩:∃h12,h12=halloc h11 [.nilp]:=⟨_,rfl⟩;have F_h12:Fr [] h11 h12:=e_h12▸Fr.halloc F11.wf _;have o_h12:Own h12 h11.next [.nilp]:=e_h12▸Own.new F11.wf _;simp only[evs,←e_h12];refine ah (c':=[c']) F_h12.wf o_h12 rfl (by simp[aq,V.cells,hc']) rfl ?_;rintro h13 o13 F13' n13;have F1113:Fr [] h11 h13:=F_h12.fresh F13' F11.wf (Nat.le_refl _);have F713:=(F710.then F11).then F1113;have F1013:=F11.then F1113;by_cases h1:ig t.list m=0
   ·simp only[evs,↓reduceIte,Nat.reduceEqDiff,eff,h1,(F713.get oa).ld1,(F1013.get o10).ld1];obtain⟨t9,p9,q9,a9,e9,f9⟩:=hj h1;have ff:Fit (t.list.take i.toNat++m++t.list.drop i.toNat):=by
     obtain⟨x1,x2,x3⟩:=f9;have hsum:(t.list.take i.toNat).sum+(t.list.drop i.toNat).sum=t.list.sum:=by rw[←List.sum_append,List.take_append_drop]
     have hlen:(t.list.take i.toNat).length+(t.list.drop i.toNat).length=t.list.length:=by rw[←List.length_append,List.take_append_drop]
     refine⟨fun y hy=>?_,?_,?_⟩
     ·refine x1 y ?_;simp only[List.mem_append]at hy⊢;rcases hy with(y1|y1)|y1
      ·exact .inl (List.mem_of_mem_take y1)
      ·exact .inr y1
      ·exact .inl (List.mem_of_mem_drop y1)
     ·simp only[List.sum_append]at x2⊢;omega
     ·simp only[List.length_append]at x3⊢;omega
    have F313:=F37.then F713;refine aa (vB F1113.wf (a1.fr F313) (a3.fr (F910.then F1013)) (by rw[e1,e3];exact ff.left)) ?_;rintro _ h14 ⟨t4,p4,rfl,a4,e4,F14⟩;simp only[evs,↓reduceIte,Nat.reduceEqDiff,eff,((F713.then F14).get o_h7).ld1];refine aa (vB F14.wf a4 (a2.fr (F313.then F14)) (by rw[e4,e1,e3,e2];exact ff)) ?_;rintro _ h15 ⟨t5,p5,rfl,a5,e5,F15⟩;simp only[evs,↓reduceIte,Nat.reduceEqDiff,eff];have F715:=(F713.then F14).then F15;refine ah (c':=[pv p5]) F15.wf (F715.get or) rfl (by first|rfl|simp[aq,V.cells,aN, *]) rfl ?_
    rintro h16 o_h16 F_h16 n_h16;simp only[evs,↓reduceIte,Nat.reduceEqDiff,Nat.reduceAdd,DF,eff,Nat.reduceSub,o_h16.ld,(F713.get oa).ld1,(F1013.get o10).ld1,(F713.get o_h7).ld1,((F713.then F14).get o_h7).ld1];exact⟨(F17.then F715).fresh F_h16 w b1,_,rfl,aN _,fun _=>⟨t5,p5,rfl,a5.frb F_h16 (F715.get or) (by simp),by rw[e5,e4,e1,e3,e2],ff⟩⟩
   ·simp only[evs,↓reduceIte,Nat.reduceEqDiff,h1];refine ah (c':=[.nilp]) F1113.wf (F713.get or) rfl (by first|rfl|simp[aq,V.cells,aN, *]) rfl ?_
    rintro h16 o_h16 F_h16 n_h16;simp only[evs,↓reduceIte,Nat.reduceEqDiff,o_h16.ld];exact⟨(F17.then F713).fresh F_h16 w b1,_,rfl,rfl,by simp[]⟩
  ·simp only[evs,↓reduceIte,Nat.reduceEqDiff,h0];refine ah (c':=[.nilp]) F910.wf (F710.get or) rfl (by first|rfl|simp[aq,V.cells,aN, *]) rfl ?_
   rintro h16 o_h16 F_h16 n_h16;simp only[evs,↓reduceIte,Nat.reduceEqDiff,o_h16.ld];have ei:pI t.list i m=e:=by unfold pI;rw[if_pos hi,if_neg (by omega),ee]
   rw[ei];exact⟨F110.fresh F_h16 w b1,_,rfl,rfl,by simp[h0]⟩
 ·rw[if_neg hi]at hu;subst hu;obtain⟨h4,e_h4⟩:∃h4,h4=halloc h3 [.nilp]:=⟨_,rfl⟩;have F_h4:Fr [] h3 h4:=e_h4▸Fr.halloc F3.wf _;have o_h4:Own h4 h3.next [.nilp]:=e_h4▸Own.new F3.wf _;obtain⟨h5,e_h5⟩:∃h5,h5=halloc h4 [.nilp]:=⟨_,rfl⟩;have F_h5:Fr [] h4 h5:=e_h5▸Fr.halloc F_h4.wf _;have o_h5:Own h5 h4.next [.nilp]:=e_h5▸Own.new F_h4.wf _;have F45:=F_h4.then F_h5;have ne:h3.next≠h4.next:=by rw[e_h4];simp[iG]
  simp only[evs,↓reduceIte,Nat.reduceEqDiff,←e_h4,←e_h5];refine ah (c':=[.nilp]) F45.wf (F_h5.get o_h4) rfl (by first|rfl|simp[aq,V.cells,aN, *]) rfl ?_
  rintro h6 o_h6 F_h6 n_h6;simp only[evs,↓reduceIte];refine ah (c':=[.nilp]) F_h6.wf (F_h6.own _ _ (by simp;omega) o_h5) rfl (by first|rfl|simp[aq,V.cells,aN, *]) rfl ?_
  rintro h7 o_h7 F_h7 n_h7;simp only[evs,↓reduceIte,Nat.reduceEqDiff];simp only[evs,↓reduceIte,show¬((4:Int)=0) by omega];have b4:h.next≤h4.next:=Nat.le_trans b3 F_h4.next;have F17:=((F13.then F45).fresh F_h6 w b3).fresh F_h7 w b4;have keep:∀{b:Nat}{c:List V},Own h3 b c→Own h7 b c:=fun o=>F_h7.own _ _ (by have:=o.lt F3.wf;have:=F_h4.next;simp;omega) (F_h6.own _ _ (by have:=o.lt F3.wf;simp;omega) (F45.get o));have or:=keep (F3.get o_h2);refine ah (c':=[.nilp]) F_h7.wf or rfl (by first|rfl|simp[aq,V.cells,aN, *]) rfl ?_
  rintro h16 o_h16 F_h16 n_h16;simp only[evs,↓reduceIte,Nat.reduceEqDiff,o_h16.ld];have ei:pI t.list i m=4:=by unfold pI;rw[if_neg hi]
  rw[ei];exact⟨F17.fresh F_h16 w b1,_,rfl,rfl,by simp⟩
def sp(s:Int×Int):List V:=[.int .i64 s.1,.int .i64 s.2]
theorem dJ(s:Int×Int):(sp s).length=2:=rfl
theorem wF(s:Int×Int):aq (sp s)=true:=rfl
abbrev Sp(h:Heap)(v:V)(L:List (Int×Int)):Prop:=Recs sp 2 h v L
def SOK:List (Int×Int)→Int→Prop
 |[],_=>True
 |s::L,last=>last<s.1∧0≤s.1∧s.1<s.2∧s.2≤1073741824∧SOK L s.2
def inS(L:List (Int×Int))(i:Int):Bool:=L.any fun s=>decide (s.1≤i)&&decide (i<s.2)
theorem Sp.ix{h:Heap}{v:V}{L:List (Int×Int)}(a:Sp h v L)(i:Nat)(h1:(i:Int)<L.length):
 ∃b o s,aP (.ixs 2) [v,.int .i64 i]=some (.ptr b o)∧ab h b o=some (.int .i64 s.1)∧ab h b (o+1)=some (.int .i64 s.2)∧au h b o 2=some [.int .i64 s.1,.int .i64 s.2]∧L[i]? =some s:=by
 obtain⟨b,o,s,e,g,g2,e3⟩:=Recs.ix dJ a .i64 i (by omega) h1;exact⟨b,o,s,e,by simpa[sp]using g 0 (by omega),by simpa[sp]using g 1 (by omega),g2,by simpa using e3⟩
def SpF(h:Heap)(v:V)(L:List (Int×Int)):Prop:=(v=.nils∧L=[])∨∃b,v=.slice b 0 L.length L.length∧Own h b (L.flatMap sp)∧0<L.length
theorem SpF.slc{h:Heap}{v:V}{L:List (Int×Int)}(a:SpF h v L):Sp h v L:=by
 rcases a with⟨rfl,rfl⟩|⟨b,rfl,o,_⟩
 ·exact Recs.nil
 ·exact Sl.lit o (aF dJ L)
theorem SpF.fr{h h':Heap}{v:V}{L:List (Int×Int)}(a:SpF h v L)(f:Fr [] h h'):SpF h' v L:=by
 rcases a with x|⟨b,e,o,p⟩
 ·exact .inl x
 ·exact .inr ⟨b,e,f.get o,p⟩
theorem SpF.frb{h h':Heap}{v:V}{L:List (Int×Int)}{b:Nat}{c:List V}(a:SpF h v L)(f:Fr [b] h h')(o:Own h b c)(hc:∀L:List (Int×Int),0<L.length→c≠L.flatMap sp):SpF h' v L:=by
 rcases a with x|⟨q,e,oq,p⟩
 ·exact .inl x
 ·refine .inr ⟨q,e,f.own _ _ ?_ oq,p⟩;simp only[List.mem_singleton];rintro rfl;exact hc L p (o.uniq oq)
theorem SpF.one{h:Heap}{v:V}{L:List (Int×Int)}(a:SpF h v L):v.one=true:=by
 rcases a with⟨rfl,_⟩|⟨b,rfl,_⟩<;>rfl
theorem SpF.noint{h:Heap}{v:V}{L:List (Int×Int)}(a:SpF h v L):∀k n,v≠.int k n:=by
 rcases a with⟨rfl,_⟩|⟨b,rfl,_⟩<;>simp
theorem yA{c:List V}(hc:∀x∈c,∀k n,x≠.int k n):∀L:List (Int×Int),0<L.length→c≠L.flatMap Lay.sp:=by
 intro L p e;cases L with
 |nil=>simp at p
 |cons s L=>exact hc (.int .i64 s.1) (by rw[e];simp[Lay.sp]) _ _ rfl
theorem Sp.frb{h h':Heap}{v:V}{L:List (Int×Int)}{b:Nat}{c c':List V}(a:Sp h v L)(f:Fr [b] h h')(o:Own h b c)(o':Own h' b c')(hc:∀x∈c,∀k n,x≠.int k n)(hl:c'.length=c.length):Sp h' v L:=by
 obtain⟨e1,e2⟩:=a;have main:∀(bb oo:Nat),(∃d,Own h bb d∧oo+L.length*2≤d.length∧L.flatMap sp=(d.drop oo).take (L.length*2))→∃d,Own h' bb d∧oo+L.length*2≤d.length∧L.flatMap sp=(d.drop oo).take (L.length*2):=by
  rintro bb oo ⟨d,od,h1,h2⟩;by_cases e:bb=b
  ·subst e;have:=od.uniq o;subst this;have hL:L=[]:=by
    cases L with
    |nil=>rfl
    |cons s L=>
     exfalso;have hm:V.int .i64 s.1∈d:=by
      have:V.int .i64 s.1∈(s::L).flatMap sp:=by simp[sp]
      rw[h2]at this;exact List.mem_of_mem_drop (List.mem_of_mem_take this)
     exact hc _ hm _ _ rfl
   subst hL;exact⟨c',o',by simpa[hl]using h1,by simp⟩
  ·exact⟨d,f.own _ _ (by simpa using e) od,h1,h2⟩
 refine⟨e1,?_⟩;cases v with
 |slice bb oo len cap=>obtain⟨x1,x2,x3⟩:=e2;exact⟨x1,x2,main bb oo x3⟩
 |sliceU bb oo len cap=>obtain⟨x1,x2,x3⟩:=e2;exact⟨x1,x2,main bb oo x3⟩
 |_=>exact e2
theorem jo{h:Heap}{v:V}{L:List (Int×Int)}(w:WF h)(a:Sp h v L)(ok:SOK L (-1))(hn:L.length≤4096):
 ao go 255 [v] h fun u h'=>u=.int .i64 0∧Fr [] h h':=by
 have hl:¬(4096:Int)<L.length:=by omega
 refine ag g255 rfl ?_;simp only[fn255,evs,↓reduceIte,Nat.reduceEqDiff,Int.reduceNeg,a.len,hl];refine aE (fun k env hh=>Fr [] h hh∧∃(i:Nat)(last:Int),env.get 11=some (.int .i64 i)∧env.get 3=some (.int .i64 last)∧env.get 9=some v∧env.get 10=some (.int .i64 L.length)∧
  i≤L.length∧SOK (L.drop i) last∧k=L.length-i) L.length (by omega) ?_ ?_
 ·exact⟨Fr.refl w,0,-1,(by simp[T.get_set]),(by simp[T.get_set]),(by simp[T.get_set]),(by simp[T.get_set]),by omega,ok,rfl⟩
 ·rintro k env hh ⟨F,i,last,g11,g3,g9,g10,hi,ok,rfl⟩;by_cases hlt:(i:Int)<L.length
  ·obtain⟨b,o,s,e1,e2,e3,e4,e5⟩:=Sp.ix (a.fr F) i hlt;rw[aK e5]at ok;obtain⟨k1,k2,k3,k4,k5⟩:=ok;obtain⟨h1,e_h1⟩:∃h1,h1=halloc hh [.int .i64 0,.int .i64 0]:=⟨_,rfl⟩;have F_h1:Fr [] hh h1:=e_h1▸Fr.halloc F.wf _;have o_h1:Own h1 hh.next [.int .i64 0,.int .i64 0]:=e_h1▸Own.new F.wf _;simp only[evs,↓reduceIte,Nat.reduceEqDiff,g11,g9,g10,hlt,e1,e4,←e_h1];refine ah (c':=[.int .i64 s.1,.int .i64 s.2]) F_h1.wf o_h1 rfl (by first|rfl|simp[aq,V.cells,aN, *]) rfl ?_
   rintro h2 o_h2 F_h2 n_h2;simp(disch:=omega) only[evs,↓reduceIte,Nat.reduceEqDiff,ai,g11,g3,o_h2.ld1,show¬s.1<0 by omega,show¬s.2≤s.1 by omega,show¬1073741824<s.2 by omega,show¬s.1≤last by omega];refine(aj _ _ _).2 ⟨L.length-(i+1),by omega,F.then (F_h1.fresh F_h2 F.wf (Nat.le_refl _)),i+1,s.2,(by simp[T.get_set]),(by simp[T.get_set]),(by simp[T.get_set,g9]),(by simp[T.get_set,g10]),by omega,k5,rfl⟩
   done
  ·simp only[evs,↓reduceIte,g11,g10,hlt];exact F
theorem D6{h:Heap}{s:Int×Int}{i:Int}{bi:Nat}(w:WF h)(oi:Own h bi [.int .i64 i]):
 ao go 257 [.agg [.int .i64 s.1,.int .i64 s.2],.ptr bi 0] h fun u h'=>u=.bool (decide (s.1≤i)&&decide (i<s.2))∧Fr [] h h':=by
 obtain⟨h1,e_h1⟩:∃h1,h1=halloc h [.int .i64 s.1,.int .i64 s.2]:=⟨_,rfl⟩;have F_h1:Fr [] h h1:=e_h1▸Fr.halloc w _;have o_h1:Own h1 h.next [.int .i64 s.1,.int .i64 s.2]:=e_h1▸Own.new w _;by_cases c:s.1≤i
 ·refine ag g257 rfl ?_;simp only[fn257,evs,↓reduceIte,Nat.reduceEqDiff,Nat.reduceAdd,←e_h1,o_h1.ld1,(F_h1.get oi).ld1,c];exact⟨by simp,F_h1⟩
 ·refine ag g257 rfl ?_;simp only[fn257,evs,↓reduceIte,Nat.reduceEqDiff,Nat.reduceAdd,←e_h1,o_h1.ld1,(F_h1.get oi).ld1,c];exact⟨by simp,F_h1⟩
theorem AW{L:List (Int×Int)}{i:Nat}{s:Int×Int}(e:L[i]? =some s)(x:Int):inS (L.drop i) x=((decide (s.1≤x)&&decide (x<s.2))||inS (L.drop (i+1)) x):=by
 rw[aK e];rfl
theorem zQ{h:Heap}{v:V}{L:List (Int×Int)}{x:Int}{bi:Nat}(w:WF h)(a:Sp h v L)(oi:Own h bi [.int .i64 x])(hn:L.length≤4096):
 ao go 282 [v,.func (.func 257) [] [.ptr bi 0]] h fun u h'=>∃r:Int,u=.int .i64 r∧(decide (0≤r)=inS L x)∧Fr [] h h':=by
 refine ag g282 rfl ?_;simp only[fn282,evs,↓reduceIte,Nat.reduceEqDiff,Nat.reduceAdd,Int.reduceNeg,a.len];refine aE (fun k env hh=>Fr [] h hh∧∃(i:Nat),env.get 8=some (.int .i64 i)∧env.get 7=some (.int .i64 L.length)∧env.get 0=some v∧env.get 1=some (.func (.func 257) [] [.ptr bi 0])∧
  i≤L.length∧inS (L.drop i) x=inS L x∧k=L.length-i) L.length (by omega) ?_ ?_
 ·exact⟨Fr.refl w,0,(by simp[T.get_set]),(by simp[T.get_set]),(by simp[T.get_set]),(by simp[T.get_set]),by omega,rfl,rfl⟩
 ·rintro k env hh ⟨F,i,g8,g7,g0,g1,hi,e,rfl⟩;by_cases hlt:(i:Int)<L.length
  ·obtain⟨b,o,s,e1,e2,e3,e4,e5⟩:=Sp.ix (a.fr F) i hlt;rw[AW e5]at e;simp only[evs,↓reduceIte,Nat.reduceEqDiff,Nat.reduceLT,Int.reduceNeg,g8,g7,g0,g1,hlt,e1,e4];refine aa (D6 F.wf (F.get oi)) ?_;rintro _ h1 ⟨rfl,F1⟩;by_cases c:(decide (s.1≤x)&&decide (x<s.2))=true
   ·simp only[evs,↓reduceIte,Nat.reduceEqDiff,Int.reduceNeg,c];rw[c]at e;exact⟨i,rfl,by rw[←e];simp,F.then F1⟩
   ·rw[Bool.not_eq_true]at c;simp(disch:=omega) only[evs,↓reduceIte,Nat.reduceEqDiff,Int.reduceNeg,ai,c,g8];rw[c]at e;refine(aj _ _ _).2 ⟨L.length-(i+1),by omega,F.then F1,i+1,(by simp[T.get_set]),(by simp[T.get_set,g7]),(by simp[T.get_set,g0]),(by simp[T.get_set,g1]),by omega,by simpa using e,rfl⟩
    done
  ·simp only[evs,↓reduceIte,Int.reduceNeg,g8,g7,hlt];rw[List.drop_of_length_le (by omega)]at e;exact⟨-1,rfl,by rw[←e];rfl,F⟩
theorem Gi{h:Heap}{v:V}{L:List (Int×Int)}{x:Int}(w:WF h)(a:Sp h v L)(ok:SOK L (-1))(hn:L.length≤4096):
 ao go 205 [v,.int .i64 x] h fun u h'=>u=.bool (inS L x)∧Fr [] h h':=by
 obtain⟨h1,e_h1⟩:∃h1,h1=halloc h [.int .i64 x]:=⟨_,rfl⟩;have F_h1:Fr [] h h1:=e_h1▸Fr.halloc w _;have o_h1:Own h1 h.next [.int .i64 x]:=e_h1▸Own.new w _;refine ag g205 rfl ?_;simp only[fn205,evs,↓reduceIte,Nat.reduceEqDiff,Nat.reduceAdd,←e_h1];refine aa (jo F_h1.wf (a.fr F_h1) ok hn) ?_;rintro _ h2 ⟨rfl,F2⟩;simp only[evs,↓reduceIte,Nat.reduceEqDiff];have F12:=F_h1.then F2;refine aa (?_:ao go 256 _ _ (fun u h'=>u=.bool (inS L x)∧Fr [] h2 h')) ?_
 ·refine ag g256 rfl ?_;simp only[fn256,evs,↓reduceIte,Nat.reduceEqDiff,Nat.reduceAdd];refine aa (zQ F2.wf (a.fr F12) (F2.get o_h1) hn) ?_;rintro _ h3 ⟨r,rfl,e,F3⟩;simp only[evs,↓reduceIte];exact⟨by rw[e],F3⟩
 ·rintro _ h3 ⟨rfl,F3⟩;simp only[evs,↓reduceIte];exact F12.then F3
def kU(L:List (Int×Int))(a b:Int):List (Int×Int):=if b≤a then L else match L.getLast? with
 |some s=>if a≤s.2 then L.dropLast++[(s.1,max s.2 b)]else L++[(a,b)]
 |none=>[(a,b)]
theorem mR(L M:List (Int×Int))(x:Int):inS (L++M) x=(inS L x||inS M x):=by simp[inS]
theorem ga(s:Int×Int)(M:List (Int×Int))(x:Int):inS (s::M) x=((decide (s.1≤x)&&decide (x<s.2))||inS M x):=rfl
theorem kD(x:Int):inS [] x=false:=rfl
theorem SOK.gt:∀{L:List (Int×Int)}{b:Int},SOK L b→∀s∈L,b<s.1∧0≤s.1∧s.1<s.2∧s.2≤1073741824
 |t::L,b,⟨h1,h2,h3,h4,h5⟩,s,hs=>by
  rcases List.mem_cons.1 hs with rfl|hs
  ·exact⟨h1,h2,h3,h4⟩
  ·have:=SOK.gt h5 s hs;omega
theorem SOK.below{L:List (Int×Int)}{b x:Int}(ok:SOK L b)(h:x≤b):inS L x=false:=by
 simp only[inS,List.any_eq_false,Bool.and_eq_true,decide_eq_true_eq];intro s hs;have:=ok.gt s hs;omega
theorem SOK.app:∀{L M:List (Int×Int)}{b c:Int},SOK L b→SOK M c→(∀s∈L,s.2≤c)→b≤c→SOK (L++M) b
 |[],M,b,c,_,hm,_,h=>by
  cases M with
  |nil=>trivial
  |cons s M=>obtain⟨a1,a2⟩:=hm;exact⟨by omega,a2⟩
 |s::L,M,b,c,⟨h1,h2,h3,h4,h5⟩,hm,hb,h=>⟨h1,h2,h3,h4,SOK.app h5 hm (fun t ht=>hb t (by simp[ht])) (hb s (by simp))⟩
theorem SOK.left:∀{L M:List (Int×Int)}{b:Int},SOK (L++M) b→SOK L b
 |[],_,_,_=>trivial
 |s::L,M,b,⟨h1,h2,h3,h4,h5⟩=>⟨h1,h2,h3,h4,SOK.left h5⟩
theorem SOK.drop:∀{L:List (Int×Int)}{b:Int}(i:Nat),SOK L b→∃c,SOK (L.drop i) c
 |[],b,i,h=>by simp;exact⟨b,trivial⟩
 |s::L,b,0,h=>⟨b,h⟩
 |s::L,b,i+1,⟨_,_,_,_,h⟩=>SOK.drop i h
theorem SOK.last2:∀{L:List (Int×Int)}{s:Int×Int}{b:Int},SOK (L++[s]) b→(∀t∈L,t.2<s.1)∧b<s.1∧0≤s.1∧s.1<s.2∧s.2≤1073741824
 |[],s,b,⟨h1,h2,h3,h4,_⟩=>⟨by simp,h1,h2,h3,h4⟩
 |t::L,s,b,⟨h1,h2,h3,h4,h5⟩=>by
  obtain⟨a,c,d⟩:=SOK.last2 h5;exact⟨by simp only[List.mem_cons,forall_eq_or_imp];exact⟨c,a⟩,by omega,d⟩
theorem SOK.count:∀{L:List (Int×Int)}{b:Int},SOK L b→∀m,(∀s∈L,s.2≤m)→b≤m+0→2*(L.length:Int)≤m-b
 |[],b,_,m,_,h=>by simp;omega
 |s::L,b,⟨h1,h2,h3,h4,h5⟩,m,hm,h=>by
  have:=SOK.count h5 m (fun t ht=>hm t (by simp[ht])) (by have:=hm s (by simp);omega);simp only[List.length_cons];omega
theorem gy{L:List (Int×Int)}{a b:Int}(ok:SOK L (-1))(hl:a<b→∀s∈L,s.2≤a)(h0:0≤a)(hb:b≤1073741824):
 SOK (kU L a b) (-1)∧(∀x,inS (kU L a b) x=(inS L x||(decide (a≤x)&&decide (x<b))))∧(∀m,(∀s∈L,s.2≤m)→(a<b→b≤m)→∀s∈kU L a b,s.2≤m):=by
 unfold kU;by_cases h:b≤a
 ·rw[if_pos h];refine⟨ok,fun x=>?_,fun m hm _=>hm⟩;have:(decide (a≤x)&&decide (x<b))=false:=by simp;omega
  rw[this,Bool.or_false]
 ·rw[if_neg h];have hl:=hl (by omega);rcases List.eq_nil_or_concat L with rfl|⟨L',s,rfl⟩
  ·simp only[List.getLast?_nil];refine⟨⟨by simp;omega,by simp;omega,by simp;omega,hb,trivial⟩,fun x=>by simp[inS],fun m _ hm s hs=>?_⟩;simp at hs;subst hs;exact hm (by omega)
  ·simp only[List.concat_eq_append]at ok hl⊢;simp only[List.getLast?_append,List.getLast?_singleton,Option.some_or,List.dropLast_concat];obtain⟨k1,k2,k3,k4,k5⟩:=ok.last2;have hs:=hl s (by simp);by_cases hc:a≤s.2
   ·rw[if_pos hc];have e:max s.2 b=b:=by omega
    rw[e];refine⟨SOK.app (c:=s.1-1) ok.left ⟨by simp;omega,k3,by simp;omega,hb,trivial⟩ (fun t ht=>by have:=k1 t ht;omega) (by omega),fun x=>?_,fun m hm hbm t ht=>?_⟩
    ·simp only[mR,ga,kD,Bool.or_false,Bool.or_assoc];congr 1;rw[Bool.eq_iff_iff];simp;omega
    ·rcases List.mem_append.1 ht with y|y
     ·exact hm t (by simp[y])
     ·simp at y;subst y;exact hbm (by omega)
   ·rw[if_neg hc];refine⟨SOK.app (c:=a-1) ok ⟨by simp;omega,h0,by simp;omega,hb,trivial⟩ (fun t ht=>?_) (by omega),fun x=>?_,fun m hm hbm t ht=>?_⟩
    ·rcases List.mem_append.1 ht with y|y
     ·have:=k1 t y;omega
     ·simp at y;subst y;omega
    ·simp only[mR,ga,kD,Bool.or_false]
    ·rcases List.mem_append.1 ht with y|y
     ·exact hm t y
     ·simp at y;subst y;exact hbm (by omega)
theorem pz{h:Heap}{B:Nat}{v:V}{L:List (Int×Int)}{a b:Int}(w:WF h)(g:GRecs sp 2 h B v L)(hB:B≤h.next)(hn:(L.length:Int)≤1073741824):
 ao go 209 [v,.int .i64 a,.int .i64 b] h fun u h'=>GRecs sp 2 h' B u (kU L a b)∧Fr (vb v) h h':=by
 have s:=g.recs dJ (by omega);by_cases h1:b≤a
 ·refine ag g209 rfl ?_;simp only[fn209,evs,↓reduceIte,Nat.reduceEqDiff,Nat.reduceAdd,s.len,h1];unfold kU;rw[if_pos h1];exact⟨g,Fr.refl w⟩
 ·rcases List.eq_nil_or_concat L with rfl|⟨L',t,rfl⟩
  ·obtain⟨h1',e_h1'⟩:∃h1',h1'=halloc h (sp (a,b)):=⟨_,rfl⟩;have F_h1':Fr [] h h1':=e_h1'▸Fr.halloc w _;have o_h1':Own h1' h.next (sp (a,b)):=e_h1'▸Own.new w _;have e_h2:halloc h [.int .i64 a,.int .i64 b]=h1':=e_h1'.symm;have hz:aP .lenS [v]=some (.int .i64 0):=s.len;refine ag g209 rfl ?_;simp only[fn209,evs,↓reduceIte,Nat.reduceEqDiff,Nat.reduceAdd,Nat.reduceLT,hz,h1,show¬(0:Int)<0 by omega,e_h2];refine GRecs.append (x:=(a,b)) F_h1'.wf (g.fr F_h1') dJ (wF _) (by omega) o_h1' (Nat.le_trans hB F_h1'.next) (by simp) ?_;intro v' h' g' u;simp only[evs,↓reduceIte];unfold kU;rw[if_neg h1];exact⟨g',F_h1'.trans u w (by simp) (fun x hx=>.inl hx)⟩
  ·simp only[List.concat_eq_append]at g s hn⊢;have hlen:((L'++[t]).length:Int)=L'.length+1:=by simp
   obtain⟨bb,oo,x,e1,e2,e3,e4,e5⟩:=Sp.ix s L'.length (by omega);have hx:x=t:=by simpa using e5.symm
   subst hx;have pos:(0:Int)<L'.length+1:=by omega
   have es:(L'.length:Int)+1-1=L'.length:=by omega
   by_cases h2:a≤x.2
   ·rcases g with⟨rfl,gg⟩|⟨b0,n0,rfl,hl0,hn0,hB0,og⟩
    ·have:=congrArg List.length gg;rw[aF dJ]at this;simp at this
    ·rw[aF dJ]at hl0;have e0:n0=L'.length+1:=by simp at hl0;omega
     subst e0;have e1':=j5 2 b0 0 (L'.length+1) 2 .i64 L'.length (by omega) (by omega);rw[e1]at e1';simp only[Option.some.injEq,V.ptr.injEq,Int.toNat_natCast]at e1';obtain⟨rfl,rfl⟩:=e1';simp only[Nat.zero_add]at e1 e3;refine ag g209 rfl ?_;simp(disch:=omega) only[fn209,evs,↓reduceIte,Nat.reduceEqDiff,Nat.reduceAdd,ai,s.len,h1,hlen,pos,es,e1,e3,h2];have hfl:(L'++[x]).flatMap sp=L'.flatMap sp++[.int .i64 x.1,.int .i64 x.2]:=by simp[sp]
     rw[hfl]at og;have hu:bo (L'.flatMap sp++[.int .i64 x.1,.int .i64 x.2]) (L'.length*2+1) [.int .i64 (max x.2 b)]=some (L'.flatMap sp++[.int .i64 x.1,.int .i64 (max x.2 b)]):=by
      have hlf:(L'.flatMap sp).length=L'.length*2:=aF dJ L';rw[cW _ _ _ (by simp[hlf])];congr 1;rw[List.take_append,List.take_of_length_le (by omega),List.drop_of_length_le (by simp[hlf])];rw[hlf,show L'.length*2+1-L'.length*2=1 by omega];simp
     refine ah (c':=_) (v:=.int .i64 (max x.2 b)) (o:=L'.length*2+1) w og rfl rfl hu ?_;intro h' o' F' n';simp only[evs,↓reduceIte,Nat.reduceEqDiff];unfold kU;rw[if_neg h1];simp only[List.getLast?_append,List.getLast?_singleton,Option.some_or,List.dropLast_concat,if_pos h2];refine⟨.inr ⟨bb,L'.length+1,rfl,by rw[aF dJ];simp,by omega,hB0,?_⟩,F'⟩;rw[List.flatMap_append];simpa[sp]using o'
   ·obtain⟨h1',e_h1'⟩:∃h1',h1'=halloc h (sp (a,b)):=⟨_,rfl⟩;have F_h1':Fr [] h h1':=e_h1'▸Fr.halloc w _;have o_h1':Own h1' h.next (sp (a,b)):=e_h1'▸Own.new w _;have e_h2:halloc h [.int .i64 a,.int .i64 b]=h1':=e_h1'.symm;refine ag g209 rfl ?_;simp(disch:=omega) only[fn209,evs,↓reduceIte,Nat.reduceEqDiff,Nat.reduceAdd,Nat.reduceLT,ai,s.len,h1,hlen,pos,es,e1,e3,h2,e_h2];refine GRecs.append (x:=(a,b)) F_h1'.wf (g.fr F_h1') dJ (wF _) (by omega) o_h1' (Nat.le_trans hB F_h1'.next) (by simp;omega) ?_;intro v' h' g' u;simp only[evs,↓reduceIte];unfold kU;rw[if_neg h1];simp only[List.getLast?_append,List.getLast?_singleton,Option.some_or,if_neg h2];exact⟨g',F_h1'.trans u w (by simp) (fun x hx=>.inl hx)⟩
theorem D7{h:Heap}{B:Nat}{v:V}{L:List (Int×Int)}(g:GRecs sp 2 h B v L):ao go 258 [v] h fun u h'=>SpF h u L∧u.one=true∧h'=h:=by
 have s:=g.recs dJ (by omega);rcases g with⟨rfl,gg⟩|⟨b0,n0,rfl,hl0,hn0,hB0,og⟩
 ·have e:aP (.sl none 2 false true true) [.nils,.int .i64 (L.length:Int),.int .i64 (L.length:Int)]=some .nils:=by
   have:L=[]:=by have:=congrArg List.length gg;rw[aF dJ,List.length_nil]at this;exact List.length_eq_zero_iff.1 (by omega)
   subst this;rfl
  have hz:aP .lenS [.nils]=some (.int .i64 (L.length:Int)):=s.len;refine ag g258 rfl ?_;simp only[fn258,xL,xJ,xM,gF,sX,DV,DU,CV,mY,mX,sf,sd,mj,gh,w9,cS,eV,bZ,bD,bY,jk,fC,T.get_set,kX,kW,kH,sj,i7,xA,hz,e,reduceIte,Nat.reduceEqDiff,Nat.reduceAdd];exact⟨.inl ⟨rfl,by have:=congrArg List.length gg;rw[aF dJ,List.length_nil]at this;exact List.length_eq_zero_iff.1 (by omega)⟩,rfl,trivial⟩
 ·rw[aF dJ]at hl0;have e0:n0=L.length:=by omega
  subst e0;have hab:aU L.length L.length false true true [.int .i64 (L.length:Int),.int .i64 (L.length:Int)]=some (0,L.length,some L.length):=by
   simp only[aU,bW .i64 (L.length:Int) L.length (by omega) (by omega),Option.bind_some,Int.toNat_natCast,Option.map_some]
  have e:aP (.sl none 2 false true true) [.sliceU b0 0 L.length 2,.int .i64 (L.length:Int),.int .i64 (L.length:Int)]=some (.slice b0 0 L.length L.length):=by
   have hq:(Nat.beq 2 2&&Nat.blt 0 2)=true:=rfl;simp only[aP,dV,hq,cond_true,hab,Option.bind_some,ew (show L.length≠0 by omega),cond_false,Nat.zero_mul,Nat.sub_zero,Nat.add_zero]
  refine ag g258 rfl ?_;simp only[fn258,evs,↓reduceIte,Nat.reduceEqDiff,e];exact⟨.inr ⟨b0,rfl,og,hn0⟩,rfl⟩
theorem sA{h:Heap}{B:Nat}{v:V}{L:List (Int×Int)}(g:GRecs sp 2 h B v L)(hn:L.length≤4096):ao go 210 [v] h fun u h'=>∃z,u=.tup [z,.int .i64 0]∧SpF h z L∧z.one=true∧h'=h:=by
 have s:=g.recs dJ (by omega);refine ag g210 rfl ?_;simp only[fn210,evs,↓reduceIte,Nat.reduceEqDiff,s.len,show¬(4096:Int)<L.length by omega];refine aa (D7 g) ?_;rintro z _ ⟨a,b,rfl⟩;simp only[evs,↓reduceIte,Nat.reduceEqDiff];exact⟨z,rfl,a,b⟩
end Go.Ev.Lay
