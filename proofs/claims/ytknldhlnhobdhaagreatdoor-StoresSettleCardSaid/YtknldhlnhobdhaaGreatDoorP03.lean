/- An evaluator of the program, and contracts over it: EvV to EvWa. -/
import Derived.Test.YtknldhlnhobdhaaGreatDoorP02
set_option linter.unusedSimpArgs false
set_option linter.unusedVariables false
set_option linter.constructorNameAsVariable false
set_option linter.unnecessarySimpa false
noncomputable section
namespace Go.Ev
variable {K : LG -> Prop}
def xN:List Nat->List Nat->Bool
 |[],[]=>true
 |a::l,b::r=>Nat.beq a b&&xN l r
 |_,_=>false
theorem wi:∀{l r:List Nat},xN l r=true->l=r
 |[],[],_=>rfl
 |[],_::_,h=>by cases h
 |_::_,[],h=>by cases h
 |a::l,b::r,h=>by simp only[xN,VY]at h;rw[Wb h.1,wi h.2]
def eP(P:Program)(C:Cx):IC->Code->Bool
 |.f,.skip=>true
 |.f,.label _=>true
 |.n l,.region _ ops false=>iO P C ops ops.toList l []
 |.e a b,.seq x y=>eP P C a x&&eP P C b y
 |.d x a b,.cond c t e=>nt C [] c x&&eP P C a t&&eP P C b e
 |.h id c,.block id' c'=>Nat.beq id id'&&eP P C c c'
 |.o c,.loop c'=>eP P C c c'
 |.k id,.exit id'=>Nat.beq id id'
 |.q,.ret=>true
 |.j c l r,.scope c'=>eP P C c c'&&(match findLabel c' l with
  |some r'=>eP P C r r'
  |none=>false)
 |.p l,.goto l'=>Nat.beq l l'
 |.i l late R reads sets,.region _ ops true=>Nl P C ops l late (bOf ops) R reads sets
 |.s,_=>true
 |.u g ps a b,.rangeFunc g' ps' a' b'=>nt C [] g' g&&xN ps'.toList ps&&ps.all (fun p=>C.a.contains p&&Nat.blt p C.N)&&eP P {C with b:=false} a a'&&eP P {C with b:=false} b b'
 |_,_=>false
def j7:Ex->Exit
 |.a=>.normal
 |.d=>.ret
 |.c id=>.exit id
 |.b l=>.goto l
section
variable {P : Program} {Q : Exit -> Act -> World -> Prop} {a : Act} {w : World} {ro : Option Nat}
theorem xL(n:Nat):(FR ro).room n:=fun _ h=>by simp[Fence.wide]at h
theorem xF{b:Frame}{c:Code}{k:List Item}{cs:List Frame}:
 step P (lone (b.atR a (.code (.scope c)::k)) cs w)=.next (lone (b.atR a (.code c::.inScope c::k)) cs w):=
 step_lone_go (by simp[stepG,stepG.exec,Frame.atR])
theorem sT{b:Frame}{c:Code}{k:List Item}{cs:List Frame}:
 step P (lone (b.atR a (.inScope c::k)) cs w)=.next (lone (b.atR a k) cs w):=
 step_lone_go (by simp[stepG,stepG.exec,Frame.atR])
theorem Dc{fr:Frame}{cs:List Frame}(ha:fr.about P w=none):(lone fr cs w).fenced P (FR ro):=fenced_calm (n:=0) trivial (xL _) ha
def mV(ro:Option Nat)(P:Program)(c x:Code)(Q:Exit->Act->World->Prop)(a:Act)(w:World):Prop:=
 ∀(b:Frame)(k:List Item)(cs:List Frame),b.roundOf=ro->∃e a' w',Q e a' w'/\ArrivesIn (Machine.fenced P (FR ro)) P (lone (b.atR a (.code x::.inScope c::k)) cs w) b k cs e a' w'
theorem yL{c:Code}(h:mV ro P c c Q a w):(Code.scope c).wpIn (FR ro) 0 P Q a w:=fun b k cs hro _ _=>
 let⟨e,a',w',q,r⟩:=h b k cs hro;⟨e,a',w',q,.of_steps (.one (Dc rfl) xF) r⟩
theorem tZ{c x:Code}(h:x.wpIn (FR ro) 0 P (fun e a' w'=>match e with
 |.goto l=>(match findLabel c l with
  |some r=>mV ro P c r Q a' w'
  |none=>Q (.goto l) a' w')
 |e=>Q e a' w') a w):mV ro P c x Q a w:=by
 intro b k cs ar;let⟨e,K,ac,hq,Z⟩:=h b (.inScope c::k) cs ar trivial (xL _);cases e with
 |normal=>exact⟨.normal,K,ac,hq,StepsIn.trans Z (.one (Dc rfl) sT)⟩
 |exit id=>exact⟨.exit id,K,ac,hq,fun k' hk=>Z.1 k' (by simpa[exitTo]using hk),fun hr hk=>Z.2 hr (by simpa[exitTo]using hk)⟩
 |goto l=>
  simp at hq;cases hf:findLabel c l with
  |none=>rw[hf]at hq;exact⟨.goto l,K,ac,hq,fun k' hk=>Z.1 k' (by simp[gotoIn,hf,hk]),fun hr hk=>Z.2 hr (by simp[gotoIn,hf,hk])⟩
  |some r=>rw[hf]at hq;let⟨e,ak,an,af,ae⟩:=hq b k cs ar;exact⟨e,ak,an,af,.of_steps (Z.1 _ (by simp[gotoIn,hf])) ae⟩
 |ret=>exact⟨.ret,K,ac,hq,Z⟩
 |panic ch=>exact⟨.panic ch,K,ac,hq,Z⟩
 |outgrown=>exact⟨.outgrown,K,ac,hq,Z⟩
def uV(ro:Option Nat)(P:Program)(c:Code)(Q:Exit->Act->World->Prop)(a:Act)(w:World):Prop:=
 ∀(b:Frame)(k:List Item)(cs:List Frame),b.roundOf=ro->∃e a' w',Q e a' w'/\ArrivesIn (Machine.fenced P (FR ro)) P (lone (b.atR a (.code c::.inLoop c::k)) cs w) b k cs e a' w'
theorem A0{c:Code}(h:uV ro P c Q a w):(Code.loop c).wpIn (FR ro) 0 P Q a w:=fun b k cs hro _ _=>
 let⟨e,a',w',q,r⟩:=h b k cs hro;⟨e,a',w',q,.of_steps (.one (Dc rfl) stepR_loop) r⟩
theorem EI{c:Code}(h:c.wpIn (FR ro) 0 P (Exit.then (uV ro P c Q) Q) a w):uV ro P c Q a w:=by
 intro b k cs ax;let⟨e,K,ac,hq,Z⟩:=h b (.inLoop c::k) cs ax trivial (xL _);cases e with
 |normal=>let⟨ak,an,ar,af,ae⟩:=hq b k cs ax;exact⟨ak,an,ar,af,.of_steps (StepsIn.trans Z (.one (Dc rfl) stepR_inLoop)) ae⟩
 |exit id=>exact⟨_,K,ac,hq,.pass (x:=.inLoop c) rfl (fun _ _=>.inl iS) Z⟩
 |goto l=>exact⟨_,K,ac,hq,.pass (x:=.inLoop c) rfl (fun _ _=>.inl iS) Z⟩
 |ret=>exact⟨_,K,ac,hq,.pass (x:=.inLoop c) rfl (fun _ _=>.inl iS) Z⟩
 |panic ch=>exact⟨_,K,ac,hq,.pass (x:=.inLoop c) rfl (fun _ _=>.inl iS) Z⟩
 |outgrown=>exact⟨_,K,ac,hq,.pass (x:=.inLoop c) rfl (fun _ _=>.inl iS) Z⟩
end
def RoOK(ro:Option Nat)(w:World):Prop:=∀l,ro=some l->∃r,w.heap[l]? =some (.loop r)
theorem RoOK.b{ro:Option Nat}{m m':M}{h K:a_}{w w':World}(a:RoOK ro w)(E:P5 m h w m' K w'):RoOK ro w':=by
 intro l hl;let⟨r,Z⟩:=a l hl;let⟨x',h1,h2⟩:=E.n l (WT.1 Z).1 _ Z;cases x' with
 |loop r'=>exact⟨r',h1⟩
 |_=>cases h2
structure Cir(K:LG->Prop)(C:Cx)(ro:Option Nat)(B:Nat)(m:M)(h:a_)(w:World)(env:T V)(a:Act):Prop where
 g:V1 K C.G m
 e:T3 C m env a
 h:r_ m h w
 d:X9 C B m w env a.defers
 b:B<=w.heap.size
 r:RoOK ro w
def Jt(K:LG->Prop)(C:Cx)(ro:Option Nat)(B:Nat)(m:M)(h:a_)(w:World)(R:Act->World->Prop)(env':T V)(h':a_):Prop:=
 ∀a' w' m',Cir K C ro B m' h' w' env' a'->P5 m h w m' h' w'->R a' w'
def NB(K:LG->Prop)(C:Cx)(ro:Option Nat)(B:Nat)(ev:T V->a_->T6)(W:(Exit->Act->World->Prop)->Act->World->Prop):Prop:=
 ∀(Q:Exit->Act->World->Prop) env h m a w ex env' h',Cir K C ro B m h w env a->ev env h=.b ex env' h'->
  Jt K C ro B m h w (Q (j7 ex)) env' h'->W Q a w
theorem Iw(body:T V->a_->T6)(env:T V)(h:a_):W4 body 0 env h=body env h:=rfl
theorem Av(body:T V->a_->T6)(k:Nat)(env:T V)(h:a_):W4 body (k+1) env h=match W4 body k env h with
 |.b .a env h=>W4 body k env h
 |r=>r:=rfl
theorem Bx{P:Program}{C:Cx}{ro:Option Nat}{B:Nat}{body:T V->a_->T6}{c:Code}(hb:NB K C ro B body (fun Q a w=>c.wpIn (FR ro) 0 P Q a w))(Q:Exit->Act->World->Prop):
 ∀(k:Nat) env h m a w ex env' h',Cir K C ro B m h w env a->W4 body k env h=.b ex env' h'->
  Jt K C ro B m h w (Exit.then (uV ro P c Q) Q (j7 ex)) env' h'->uV ro P c Q a w:=by
 intro k;induction k with
 |zero=>intro env h m a w ex env' h' Z e hL;exact EI (hb _ env h m a w ex env' h' Z e hL)
 |succ k ih=>
  intro env h m a w ex env' h' Z e hL;rw[Av]at e;cases h1:W4 body k env h with
  |a=>rw[h1]at e;cases e
  |b af env1 h2=>
   rw[h1]at e;cases af with
   |a=>simp at e;refine ih env h m a w .a env1 h2 Z h1 (fun a' w' m' ar E'=>?_);exact ih env1 h2 m' a' w' ex env' h' ar e (fun ak an ae ac ax=>hL ak an ae ac (E'.a ax))
   |d=>simp only[]at e;cases e;exact ih env h m a w _ _ _ Z h1 hL
   |c id=>simp only[]at e;cases e;exact ih env h m a w _ _ _ Z h1 hL
   |b l=>simp only[]at e;cases e;exact ih env h m a w _ _ _ Z h1 hL
def qj(ro:Option Nat)(P:Program)(c:Code)(Q:Exit->Act->World->Prop):Exit->Act->World->Prop:=fun e a' w'=>match e with
 |.goto l=>(match findLabel c l with
  |some r=>mV ro P c r Q a' w'
  |none=>Q (.goto l) a' w')
 |e=>Q e a' w'
def yV(l:Nat)(r:T V->a_->T6):T V->a_->T6:=fun env h=>match r env h with
 |.b (.b i) env h=>bif Nat.beq i l then .b .a env h else .b (.b i) env h
 |.b .a env h=>.b (.b l) env h
 |r=>r
def dec(l:Nat):Ex->Exit
 |.a=>.goto l
 |.b i=>if i=l then .normal else .goto i
 |.d=>.ret
 |.c id=>.exit id
theorem zT{P:Program}{C:Cx}{ro:Option Nat}{B:Nat}{body:T V->a_->T6}{c r:Code}{l:Nat}(hf:findLabel c l=some r)(hb:NB K C ro B body (fun Q a w=>r.wpIn (FR ro) 0 P Q a w))(Q:Exit->Act->World->Prop):
 ∀(k:Nat) env h m a w ex env' h',Cir K C ro B m h w env a->W4 (yV l body) k env h=.b ex env' h'->
  Jt K C ro B m h w (qj ro P c Q (dec l ex)) env' h'->mV ro P c r Q a w:=by
 intro k;induction k with
 |zero=>
  intro env h m a w ex env' h' hC e hL;rw[Iw]at e;unfold yV at e;cases h1:body env h with
  |a=>rw[h1]at e;cases e
  |b Z env1 h2=>
   rw[h1]at e;have fin:j7 Z=dec l ex->env1=env'->h2=h'->mV ro P c r Q a w:=by rintro e1 rfl rfl;refine tZ (hb (qj ro P c Q) env h m a w Z env1 h2 hC h1 ?_);rw[e1];exact hL
   cases Z with
   |a=>simp only[]at e;cases e;exact fin (by simp[dec,j7]) rfl rfl
   |d=>simp only[]at e;cases e;exact fin rfl rfl rfl
   |c id=>simp only[]at e;cases e;exact fin rfl rfl rfl
   |b i=>
    simp at e;cases hb:Nat.beq i l;rw[hb]at e;simp only[cond_false]at e;cases e;exact fin (by
     have:i≠l:=by intro q;subst q;simp at hb
     simp[dec,j7,this]) rfl rfl
    rw[hb]at e;simp only[cond_true]at e;cases e;exact fin (by have:=Wb hb;subst this;rfl) rfl rfl
 |succ k ih=>
  intro env h m a w ex env' h' hC e hL;rw[Av]at e;cases h1:W4 (yV l body) k env h with
  |a=>rw[h1]at e;cases e
  |b Z env1 h2=>
   rw[h1]at e;cases Z with
   |a=>simp at e;refine ih env h m a w .a env1 h2 hC h1 (fun a' w' m' an E'=>?_);simp[dec,qj,hf];exact ih env1 h2 m' a' w' ex env' h' an e (fun af ak ae ac ar=>hL af ak ae ac (E'.a ar))
   |d=>simp only[]at e;cases e;exact ih env h m a w _ _ _ hC h1 hL
   |c id=>simp only[]at e;cases e;exact ih env h m a w _ _ _ hC h1 hL
   |b l=>simp only[]at e;cases e;exact ih env h m a w _ _ _ hC h1 hL
def F?(P:Program)(G:Nat)(g:LG):Prop:=
 eP P ⟨G,g.a,g.N,false⟩ g.c g.r.assign=true/\eP P ⟨G,g.a,g.N,false⟩ g.d g.r.body=true/\g.r.params.toList=g.b/\g.r.tmps.size=g.N/\
 (∀p∈g.b,g.a.contains p=true/\p<g.N)/\g.a.contains U_=false
theorem X9.z{C:Cx}{B:Nat}{m:M}{w:World}{env:T V}{ds:List Deferred}(D:X9 C B m w env ds):∀d∈ds,d.target≠.collected w.heap.size:=by
 have key:∀l,R9 B m w l->∀d∈l,d.target≠.collected w.heap.size:=by
  intro l;induction l with
  |nil=>intro _ d Z;simp at Z
  |cons x l ih=>rintro⟨⟨r,h1,h2,h3,_⟩,t⟩ d Z;obtain rfl|Z:=Wt.1 Z;grind;exact ih t d Z
 unfold X9 at D;split at D;obtain⟨d1,d,d2,rfl,⟨f,first,ac,K,A,C',_,_,Z,_⟩,q3⟩:=D;intro x hx;rw[Wa,Wt]at hx;obtain q|rfl|q:=hx;exact key _ q3 x (Wa.2 (.inl q));grind;exact key _ q3 x (Wa.2 (.inr q));exact key _ D
theorem mY{P:Program}{w:World}{fn:FuncId}{tmps:Array Value}{ps:Array Tmp}{assign body:Code}{l:Nat}{r:Loop}(h:w.heap[l]? =some (.loop r)):
 (Instr.enterLoop fn tmps ps assign body (some l)).run P w=
  .ok (w.heap.size,[]) (w.alloc (.loop {state:=.ready,pending:=none,fn,tmps,params:=ps,assign,body,defers:=r.defers})):=by
 unfold Instr.enterLoop;simp[run_getLoop h]
theorem BI{P:Program}{C:Cx}{ro:Option Nat}{B:Nat}{m:M}{h:a_}{w:World}{env:T V}{a:Act}(hC:Cir K C ro B m h w env a)(fn:FuncId)(ps:Array Tmp)(assign body:Code):
 ∃(l:Nat)(mark:List Deferred)(w1:World)(df:Nat),(Instr.enterLoop fn a.tmps ps assign body ro).run P w=.ok (l,mark) w1/\
  (∀i,i<w.heap.size->w1.heap[i]? =w.heap[i]?)/\w.heap.size<=l/\w.heap.size<=w1.heap.size/\w1.os=w.os/\w1.tape=w.tape/\w1.output=w.output/\
  w1.heap[l]? =some (.loop {state:=.ready,pending:=none,fn,tmps:=a.tmps,params:=ps,assign,body,defers:=df})/\
  (mark=[]\/(mark=[{target:=.collected w.heap.size,args:= #[]}]/\w1.heap[w.heap.size]? =some (.deferred (some []))/\l≠w.heap.size)):=by
 cases ro with
 |none=>refine⟨w.heap.size+1,_,_,w.heap.size,run_enterLoop_outer fn a.tmps ps assign body,fun i Z=>?_,oM,by simp;omega,rfl,rfl,rfl,?_,.inr ⟨rfl,?_,oM⟩⟩;rw[heap_alloc_old _ _ _ oO,heap_alloc_old _ _ _ Z];have:=World.alloc_heap_new (w.alloc (.deferred (some []))) (.loop {state:=.ready,pending:=none,fn,tmps:=a.tmps,params:=ps,assign,body,defers:=w.heap.size});rwa[World.size_alloc]at this;rw[heap_alloc_old _ _ _ iS];exact World.alloc_heap_new w _
 |some lo=>let⟨r,hr⟩:=hC.r lo rfl;refine⟨w.heap.size,_,_,r.defers,mY hr,fun i Z=>heap_alloc_old _ _ _ Z,VZ _,iS,rfl,rfl,rfl,World.alloc_heap_new w _,.inl rfl⟩
theorem j9{P:Program}{C:Cx}{ro:Option Nat}{B:Nat}{call:aI}(hcall:eR P K C.G call)(hK:∀g,F? P C.G g→K g)(hro:C.b=true→ro=none):∀(ic:IC)(c:Code),eP P C ic c=true→NB K C ro B (P1 call ic) (fun Q a w=>c.wpIn (FR ro) 0 P Q a w):=by
 intro ic;induction ic with
 |f=>
  intro c hc Q env h m a w ex env' h' hC e hL;cases e;cases c<;>simp[eP]at hc
  exact wpIn_skip (hL a w m hC (P5.b _ _ _));exact wpIn_label (hL a w m hC (P5.b _ _ _))
 |n l=>
  intro c hc Q env h m a w ex env' h' hC e hL;have e':dQ call l [] env h=.b ex env' h':=e;cases c with
  |region id ops dr=>
   cases dr with
   |true=>simp[eP]at hc
   |false=>
    apply wpIn_region;have hs:=yW hcall (Q:=Q) hro ops.toList 0 l [] [] env h m a w ex env' h' iS hc hC.g (fun t s hs=>by simp[fg]at hs) hC.e hC.h hC.d e'
     (fun a' w' m' hx hE' H' E' hd=>by subst hx;exact hL a' w' m' ⟨hC.g.a E',hE',H',hd,Nat.le_trans hC.b E'.c,hC.r.b E'⟩ E')
    simpa[List.range_eq_range']using hs
  |_=>simp[eP]at hc
 |e x y ihx ihy=>
  intro c hc Q env h m a w ex env' h' hC e hL;cases c<;>simp[eP]at hc;rename_i c1 c2;have e':(match P1 call x env h with|.b .a env h=>P1 call y env h|r=>r)=.b ex env' h':=e
  apply wpIn_seq;cases h1:P1 call x env h with
  |a=>rw[h1]at e';cases e'
  |b ex1 env1 h2=>
   rw[h1]at e';refine ihx c1 hc.1 _ env h m a w ex1 env1 h2 hC h1 (fun a' w' m' hC' E'=>?_);cases ex1 with
   |a=>simp at e';exact ihy c2 hc.2 Q env1 h2 m' a' w' ex env' h' hC' e' (fun a'' w'' m'' hC'' E''=>hL a'' w'' m'' hC'' (E'.a E''))
   |d=>simp only[]at e';cases e';exact hL a' w' m' hC' E'
   |c id=>simp only[]at e';cases e';exact hL a' w' m' hC' E'
   |b l=>simp only[]at e';cases e';exact hL a' w' m' hC' E'
 |d x y z ihy ihz=>
  intro c hc Q env h m a w ex env' h' hC e hL;cases c<;>simp[eP]at hc;rename_i co c1 c2;have e':(match E_ [] env x with|some (.h t)=>bif t then P1 call y env h else P1 call z env h|_=>.a)=.b ex env' h':=e
  split at e';rename_i t ht;have hr:=iq hC.g (σ:=[]) (fun t s hs=>by simp[fg]at hs) hC.e hc.1.1 ht;simp[l_]at hr;apply wpIn_cond (t:=t) hr;cases t;simp at e';exact ihz c2 hc.2 Q env h m a w ex env' h' hC e' hL;simp at e';exact ihy c1 hc.1.2 Q env h m a w ex env' h' hC e' hL;cases e'
 |h id x ih=>
  intro c hc Q env h m a w ex env' h' hC e hL;cases c<;>simp[eP]at hc;rename_i id' c1;obtain⟨hid,hc⟩:=hc;subst hid;have e':(match P1 call x env h with|.b (.c i) env h=>bif Nat.beq i id then .b .a env h else .b (.c i) env h|r=>r)=T6.b ex env' h':=e
  apply wpIn_block;cases h1:P1 call x env h with
  |a=>rw[h1]at e';cases e'
  |b ex1 env1 h2=>
   rw[h1]at e';refine ih c1 hc _ env h m a w ex1 env1 h2 hC h1 (fun a' w' m' hC' E'=>?_);cases ex1 with
   |a=>simp only[]at e';cases e';exact hL a' w' m' hC' E'
   |d=>simp only[]at e';cases e';exact hL a' w' m' hC' E'
   |b l=>simp only[]at e';cases e';exact hL a' w' m' hC' E'
   |c i=>
    simp at e';cases hb:Nat.beq i id;rw[hb]at e';simp only[cond_false]at e';cases e';have:i≠id:=by intro q;subst q;simp at hb
    simp[j7,Exit.inBlock,if_neg this];exact hL a' w' m' hC' E';rw[hb]at e';simp only[cond_true]at e';cases e';have:=Nat.eq_of_beq_eq_true hb;subst this;simp[j7,Exit.inBlock];exact hL a' w' m' hC' E'
 |o x ih=>
  intro c hc Q env h m a w ex env' h' hC e hL;cases c<;>simp[eP]at hc;rename_i c1;have e':(match W4 (P1 call x) 48 env h with|.b .a _ _=>.a|r=>r)=T6.b ex env' h':=e
  apply A0;cases h1:W4 (P1 call x) 48 env h with
  |a=>rw[h1]at e';cases e'
  |b ex1 env1 h2=>
   rw[h1]at e';refine Bx (ih c1 hc) Q 48 env h m a w ex1 env1 h2 hC h1 (fun a' w' m' hC' E'=>?_);cases ex1 with
   |a=>cases e'
   |d=>simp only[]at e';cases e';exact hL a' w' m' hC' E'
   |c i=>simp only[]at e';cases e';exact hL a' w' m' hC' E'
   |b l=>simp only[]at e';cases e';exact hL a' w' m' hC' E'
 |k id=>intro c hc Q env h m a w ex env' h' hC e hL;cases c<;>simp[eP]at hc;subst hc;cases e;exact wpIn_exit (hL a w m hC (P5.b _ _ _))
 |q=>intro c hc Q env h m a w ex env' h' hC e hL;cases c<;>simp[eP]at hc;cases e;exact wpIn_ret (hL a w m hC (P5.b _ _ _))
 |j x l r ihx ihr=>
  intro c hc Q env h m a w ex env' h' hC e hL;cases c<;>simp only[eP,Bool.false_eq_true]at hc;rename_i c1;simp at hc;let⟨hc1,hc2⟩:=hc;split at hc2
  rename_i r' hf;have e':(match P1 call x env h with
   |.b (.b i) env h=>bif Nat.beq i l then
    (match W4 (yV l (P1 call r)) 48 env h with
     |.b .a _ _=>.a
     |.b (.b i) env h=>bif Nat.beq i l then .b .a env h else .a
     |r=>r)
    else .a
   |r=>r)=T6.b ex env' h':=e
  refine yL (tZ ?_);cases h1:P1 call x env h with
  |a=>rw[h1]at e';cases e'
  |b ex1 env1 h2=>
   rw[h1]at e';refine ihx c1 hc1 (qj ro P c1 Q) env h m a w ex1 env1 h2 hC h1 (fun a' w' m' hC' E'=>?_);cases ex1 with
   |a=>simp only[]at e';cases e';exact hL a' w' m' hC' E'
   |d=>simp only[]at e';cases e';exact hL a' w' m' hC' E'
   |c i=>simp only[]at e';cases e';exact hL a' w' m' hC' E'
   |b i=>
    simp at e';cases hb:Nat.beq i l;rw[hb]at e';cases e';rw[hb]at e';simp at e';have:=Nat.eq_of_beq_eq_true hb;subst this;simp[j7,qj,hf];cases h3:W4 (yV i (P1 call r)) 48 env1 h2 with
    |a=>rw[h3]at e';cases e'
    |b ex2 env2 h4=>
     rw[h3]at e';refine zT hf (ihr r' hc2) Q 48 env1 h2 m' a' w' ex2 env2 h4 hC' h3 (fun a'' w'' m'' hC'' E''=>?_);have hE3:=E'.a E'';cases ex2 with
     |a=>cases e'
     |d=>simp only[]at e';cases e';exact hL a'' w'' m'' hC'' hE3
     |c j=>simp only[]at e';cases e';exact hL a'' w'' m'' hC'' hE3
     |b j=>simp at e';cases hj:Nat.beq j i;rw[hj]at e';cases e';rw[hj]at e';simp only[cond_true]at e';cases e';have:=Nat.eq_of_beq_eq_true hj;subst this;simp[dec,qj];exact hL a'' w'' m'' hC'' hE3
  cases hc2
 |p l=>intro c hc Q env h m a w ex env' h' hC e hL;cases c<;>simp[eP]at hc;subst hc;cases e;exact wpIn_goto (hL a w m hC (P5.b _ _ _))
 |i l late R reads sets=>
  intro c hc Q env h m a w ex env' h' hC e hL;cases c with
  |region id ops dr=>
   cases dr with
   |false=>simp[eP]at hc
   |true=>exact BK hcall hc hC.g hC.e hC.h e (fun a' w' m' hx hE' H' E' hd hde=>by
    subst hx;exact hL a' w' m' ⟨hC.g.a E',hE',H',by rw[hd];exact(hC.d.ext E').congr hde,Nat.le_trans hC.b E'.c,hC.r.b E'⟩ E')
  |_=>simp[eP]at hc
 |s=>intro c hc Q env h m a w ex env' h' hC e hL;cases e
 |v x ih=>intro c hc;cases c<;>simp[eP]at hc
 |u g ps as bd iha ihb=>
  intro c hc Q env h m a w ex env' h' hC e hL;cases c<;>simp only[eP,Bool.false_eq_true]at hc;rename_i g' ps' as' bd';simp only[Bool.and_eq_true]at hc;let⟨⟨⟨⟨hcg,hps⟩,hpv⟩,hca⟩,hcb⟩:=hc;have e':(match E_ [] env g with
   |some (.E (.func f) first caps)=>bif Nat.blt f YB then
    (match call f (first++[.yld h.e]++caps) (V4 h (.d ps as bd env 0 none))with
     |some (_,h2)=>(match h2.S.c_ h.e with
      |some (.d _ _ _ _ st pend)=>bif Nat.beq st 1 then .a else .b (match pend with|some ex=>ex|none=>.a) env (Q6 h2 h.e .b)
      |_=>.a)
     |none=>.a)
    else .a
   |_=>.a)=T6.b ex env' h':=e
  split at e';rename_i f first caps hg
  cases hlt:Nat.blt f YB;rw[hlt]at e';cases e';rw[hlt]at e';simp only[cond_true]at e';split at e';rename_i u h2 hcl;split at e';rename_i ps2 as2 bd2 en2 st pend hb2;cases hst:Nat.beq st 1;rw[hst]at e';simp at e';obtain⟨rfl,rfl,rfl⟩:=e';have hgv:=iq hC.g (σ:=[]) (fun t s hs=>by simp[fg]at hs) hC.e hcg hg;let⟨f',c',hfe,rf,rc⟩:=hgv;apply wpIn_rangeFunc;intro fn _;let⟨l,mark,w1,df,hent,hk,hge,hsz,hos,htp,hou,hrec,hmark⟩:=BI (P:=P) hC fn ps' as' bd';have hGL:∃G0:LG,G0={r:={state:=.ready,pending:=none,fn,tmps:=a.tmps,params:=ps',assign:=as',body:=bd',defers:=df},b:=ps,c:=as,d:=bd,a:=C.a,N:=C.N}:=⟨_,rfl⟩;let⟨G0,hG0⟩:=hGL;have hLOK:F? P C.G G0:=by rw[hG0];refine⟨hca,hcb,wi hps,hC.e.1,fun p hp=>?_,hC.e.2.2⟩;have:=List.all_eq_true.1 hpv p hp;simpa using this
  have H1:r_ (eh m h.e ⟨l,0,0,some G0⟩) (V4 h (.d ps as bd env 0 none)) w1:=by have:=hC.h.v (w1:=w1) (L:=l) (g:=G0) (env:=env) hk hge (by rw[hG0];exact hrec) (by rw[hG0];exact hC.e.2.1);rw[hG0]at this⊢;exact this
  have hle1:=hC.h.f ⟨l,0,0,some G0⟩;have hGl1:V1 K C.G (eh m h.e ⟨l,0,0,some G0⟩):=by refine⟨fun g hg=>let⟨r,hr⟩:=hC.g.1 g hg;⟨r,hle1 _ _ hr⟩,fun p loc g hp hl=>?_⟩;by_cases q:p=h.e;subst q;rw[av]at hp;cases hp;simp at hl;subst hl;exact hK _ hLOK;rw[aE _ _ q]at hp;exact hC.g.2 p loc g hp hl
  have hlt':=(Nat.blt_eq ..).mp hlt;let⟨hf,hcc⟩:=(hcall f _ _ u h2 hcl).1 hlt';have hargs:f_ (eh m h.e ⟨l,0,0,some G0⟩) (first++[.yld h.e]++caps) (f'++[.func (.yield l) #[] #[]]++c'):=
   f_.append (f_.append (f_.mono hle1 _ _ rf) ⟨_,_,rfl,⟨_,av _ _ _,rfl⟩,rfl⟩) (f_.mono hle1 _ _ rc)
  have hcalls:=(hcc _ w1 _ hargs H1 hGl1).1;refine⟨l,mark,w1,{target:=.fn (.func f) (List.toArray c'),args:=List.toArray (f'++[.func (.yield l) #[] #[]])},w1,f,List.toArray (f'++[.func (.yield l) #[] #[]]++c'),w1,hent,?_,fun _ _=>trivial,?_,fun q=>absurd q (by simp[Fence.wide]),?_⟩;simp only[resolve,hfe,Deferred.ofValue,Sem.run_pure];congr 1;simp[Act.eval];simp only[invoke];rw[(iS:(List.toArray (f'++[Value.func (.yield l) #[] #[]])++List.toArray c')=List.toArray (f'++[.func (.yield l) #[] #[]]++c'))];exact gV hf;have hcl2:CallsIn Fence.wide 0 P f (List.toArray (f'++[.func (.yield l) #[] #[]]++c')) w1 (ng (eh m h.e ⟨l,0,0,some G0⟩) (V4 h (.d ps as bd env 0 none)) w1 u h2):=callsIn_wide.2 hcalls;apply CallsIn.mono (F:=FR ro) (n:=0) hcl2;rintro en w3 ⟨x,m2,rfl,rx,H2,E2⟩;have hm2:=E2.j h.e _ (av m h.e ⟨l,0,0,some G0⟩);let⟨g2,hg2,_,_,_,hr2,_⟩:=H2.n hm2 hb2;have hnb:(lst st)≠.busy:=by
   intro q;match st,hst,q with
   |0,_,q=>cases q
   |1,hst,_=>cases hst
   |2,_,q=>cases q
   |n+3,_,q=>cases q
  have hend:=run_endLoop (P:=P) hr2 hnb;refine⟨_,_,hend,?_⟩;have H3:=H2.A hm2 hb2 (.loop {({g2.r with state:=lst st,pending:=pend.map jx}:Loop)with state:=.exhausted});have E3:=P5.p (o:=.loop {({g2.r with state:=lst st,pending:=pend.map jx}:Loop)with state:=.exhausted}) hC.h hk hge hsz hos htp hou E2;have hD3:X9 C B (eh m2 h.e ⟨l,0,0,none⟩) (w3.putObj l (.loop {({g2.r with state:=lst st,pending:=pend.map jx}:Loop)with state:=.exhausted})) env (mark++a.defers):=by
   have hD:=hC.d.ext E3;obtain rfl|⟨rfl,hmk,hlne⟩:=hmark;exact hD;have hoff1:Off (eh m h.e ⟨l,0,0,some G0⟩) w.heap.size:=by intro p loc hp;by_cases q:p=h.e;subst q;rw[av]at hp;cases hp;exact hlne;rw[aE _ _ q]at hp;have:=hC.h.a p loc hp;omega
   have hltm:=(Array.getElem?_eq_some_iff.1 hmk).1;refine hD.push hC.b ?_ ?_ hC.d.z;rw[World.putObj_heap_other (Ne.symm hlne)];exact(E2.e _ hoff1 hltm).trans hmk;intro p loc hp;by_cases q:p=h.e;subst q;rw[av]at hp;cases hp;exact hlne;rw[aE _ _ q]at hp;exact hoff1.ext E2 hltm p loc hp
  have hC3:Cir K C ro B (eh m2 h.e ⟨l,0,0,none⟩) (Q6 h2 h.e .b) (w3.putObj l (.loop {({g2.r with state:=lst st,pending:=pend.map jx}:Loop)with state:=.exhausted})) env {a with defers:=mark++a.defers}:=
   ⟨hC.g.a E3,⟨hC.e.1,fun s v hs=>(hC.e.2.1 s v hs).imp id fun q=>⟨q.1,l_.mono E3.j _ _ q.2⟩,hC.e.2.2⟩,H3,hD3,Nat.le_trans hC.b E3.c,hC.r.b E3⟩
  have fin:=hL _ _ _ hC3 E3;cases pend with
  |none=>exact fin
  |some ex=>
   cases ex with
   |a=>exact wpIn_skip fin
   |d=>exact wpIn_ret fin
   |c id=>exact wpIn_exit fin
   |b t=>exact wpIn_goto fin
  rw[hst]at e';cases e';cases e';cases e';cases e'
def lu(P:Program)(vars:List Nat):List ResultVar->List RV->Bool
 |[],[]=>true
 |.tmp t::rs,.t s::qs=>Nat.beq t s&&vars.contains t&&lu P vars rs qs
 |.cell a t::rs,.c s n ia::qs=>Nat.beq a s&&vars.contains a&&dM P t n&&pX P t ia&&lu P vars rs qs
 |_,_=>false
def Mc(P:Program)(G:Nat)(vars:List Nat)(n:Nat)(b:IC)(c:Code):Bool:=
 match b with
 |.v b=>eP P ⟨G,vars,n,true⟩ b c
 |b=>eP P ⟨G,vars,n,false⟩ b c
def Db(P:Program)(G:Nat)(f:Nat)(fn:i_):Bool:=
 match P.funcs[f]? with
 |some fd=>(match fd.body with
  |some c=>Mc P G fn.c fd.ntmps fn.d c&& !fn.c.contains U_&&Nat.blt f YB&&(List.range fn.b).all (fun i=>fn.c.contains i)&&Nat.ble fn.b fd.ntmps&&lu P fn.c fd.results.toList fn.a&& !(fd.name== "runtime.NumGoroutine")
  |none=>false)
 |none=>false
def DG(P:Program)(G:Nat)(F:T i_):Prop:=∀f fn,F.c_ f=some fn->Db P G f fn=true
theorem fu(v:V)(vs:List V)(i:Nat)(en:T V):gR (v::vs) i en=gR vs (i+1) (en.A_ i v):=rfl
theorem qH:∀(vs:List V)(i:Nat)(en:T V)(s:Nat),(gR vs i en).c_ s=if i<=s/\s<i+vs.length then vs[s-i]? else en.c_ s
 |[],i,en,s=>by rw[if_neg iS];rfl
 |v::vs,i,en,s=>by rw[fu,qH vs (i+1),Xr];simp only[Wv];by_cases c:s=i;grind;grind
section
variable {P : Program} {C : Cx} {m : M} {h : a_} {w : World} {env : T V} {a : Act}
def vY(tmps:Array Value):ResultVar->Sem Value
 |.tmp t=>pure (tmps.getD t undef)
 |.cell a t=>do loadVar t (<-asAddr (tmps.getD a undef))
theorem jw(H:r_ m h w)(hE:T3 C m env a):∀(rs:List ResultVar)(qs:List RV)(vs:List V),lu P C.a rs qs=true→fO env h qs=some vs→
 ∃xs,(rs.mapM (vY a.tmps)).run P w=.ok xs w∧f_ m vs xs
 |[],[],vs,_,e=>by cases e;exact⟨[],rfl,rfl⟩
 |[],_::_,_,hc,_=>by simp[lu]at hc
 |r::rs,[],_,hc,_=>by cases r<;>simp[lu]at hc
 |.tmp t::rs,.c _ _ _::qs,_,hc,_=>by simp[lu]at hc
 |.cell _ _::rs,.t _::qs,_,hc,_=>by simp[lu]at hc
 |.tmp t::rs,.t s::qs,vs,hc,e=>by
  simp only[lu,Bool.and_eq_true]at hc;have:=Nat.eq_of_beq_eq_true hc.1.1;subst this;simp only[fO,evR]at e;cases h1:env.c_ t with
  |none=>rw[h1]at e;cases e
  |some v=>
   rw[h1]at e;simp only[]at e;cases h2:fO env h qs with
   |none=>rw[h2]at e;cases e
   |some us=>rw[h2]at e;cases e;obtain⟨xs,hx,rx⟩:=jw H hE rs qs us hc.2 h2;refine⟨a.tmps.getD t undef::xs,?_,⟨_,_,rfl,hE.var hc.1.2 h1,rx⟩⟩;simp only[List.mapM_cons,Sem.run_bind,vY,Sem.run_pure,Result.andThen_ok,hx]
 |.cell ad t::rs,.c s n ia::qs,vs,hc,e=>by
  simp only[lu,Bool.and_eq_true]at hc;obtain⟨⟨⟨⟨h0,hva⟩,hsz⟩,hag⟩,hc⟩:=hc;have:=Nat.eq_of_beq_eq_true h0;subst this;simp only[fO,evR]at e;cases h1:env.c_ ad with
  |none=>rw[h1]at e;cases e
  |some p=>
   rw[h1]at e;simp only[]at e;cases h3:jO h n ia p with
   |none=>rw[h3]at e;cases e
   |some v=>
    rw[h3]at e;simp only[]at e;cases h2:fO env h qs with
    |none=>rw[h2]at e;cases e
    |some us=>
     rw[h2]at e;cases e;obtain⟨xs,hx,rx⟩:=jw H hE rs qs us hc h2;have hp:=hE.var hva h1;unfold jO at h3;split at h3;rename_i b k;let⟨loc,hm,hpe⟩:=hp;cases ia;simp only[cond_false]at h3;let⟨x,hx1,rx1⟩:=H.s hm h3;refine⟨x::xs,?_,⟨_,_,rfl,rx1,rx⟩⟩;simp only[List.mapM_cons,Sem.run_bind,vY,hpe,asAddr,loadVar,jo hag,Sem.run_pure,Result.andThen_ok,Bool.false_eq_true,if_false,run_load,hx1,hx];simp only[cond_true]at h3;cases h4:aj h b k n with
     |none=>rw[h4]at h3;cases h3
     |some ws=>rw[h4]at h3;cases h3;let⟨ys,hy,ry,_⟩:=H.h P hm h4;refine⟨.agg (List.toArray ys)::xs,?_,⟨_,_,rfl,⟨_,rfl,ry⟩,rx⟩⟩;simp only[List.mapM_cons,Sem.run_bind,vY,hpe,asAddr,loadVar,jo hag,cK hsz,Sem.run_pure,Result.andThen_ok,if_true,hy,hx]
     cases h3
theorem zq{fd:Func}{tmps:Array Value}{Z:List Value}(K:(fd.results.toList.mapM (vY tmps)).run P w=.ok Z w):
 (results fd tmps).run P w=.ok (if h:Z.length=1 then Z[0]else .tuple (List.toArray Z)) w:=by
 have e:results fd tmps=(do let vs <-fd.results.mapM (vY tmps);pure (if h:vs.size=1 then vs[0]else .tuple vs)):=by unfold results;congr 1
 rw[e];simp only[Wm,Array.mapM_eq_mapM_toList,Sem.run_map,K,Wd,Wx];congr 1
end
section
variable {P : Program} {F : Fence} {n : Nat}
theorem kU{fn:Func}{tmps:Array Value}{R:Ending->World->Prop}:∀(ds:List Deferred)(u:FrameMode)(w:World)(fr:Frame)
 (cs:List Frame),fr.mode=u->fr.defers=ds->fr.tmps=tmps->P.funcs[fr.fn]? =some fn->F.fn fr.fn->F.room (cs.length+1+n)->LeavesInM F n P fn tmps R ds u w->
 ∃e w' fr',R e w'/\ComesIn (Machine.fenced P F) P (lone fr cs w) (lone fr' cs w') e/\fr'.fn=fr.fn/\fr'.kind=fr.kind/\fr'.going P w' e:=by
 intro ds;induction ds with
 |nil=>
  intro u w fr cs hu hd ht hf hb Z h;cases u with
  |run=>exact h.elim
  |returning=>let⟨v,hr,hR⟩:=h;exact⟨.returned v,w,fr,hR,StepsIn.refl _,rfl,rfl,hu,hd,fn,hf,ht▸hr⟩
  |panicking chain=>exact⟨.panicked chain,w,fr,h,StepsIn.refl _,rfl,rfl,hu,hd,fn,hf⟩
 |cons d ds ih=>
  intro u w fr cs hu hd ht hf hb Z h;let⟨ak,h⟩:=h;obtain⟨r,w',af,aJ,aN⟩|⟨hn,fv,cap,f,a3,af,a0,aH,aT,aR⟩:=h;have h1:=step_collected (cs:=cs) (hu▸ak) hd af aJ;have i1:(lone fr cs w).fenced P F:=fenced_out hb Z (hu▸ak) hd (fun g hg=>by rw[af]at hg;simp[Target.leads]at hg);let⟨e',ay,fr',ar,an,ae,ax⟩:=ih u w' {fr with defers:=[]++ds} cs hu rfl ht hf hb Z aN;exact⟨e',ay,fr',ar,ComesIn.of_steps (.one i1 h1) an,ae,ax⟩;have h1:=step_defer (cs:=cs) (hu▸ak) hd af a0;have i1:(lone fr cs w).fenced P F:=fenced_out hb Z (hu▸ak) hd aH;have K:F.room (({fr with defers:=ds}::cs).length+1+(n-1)):=Fence.room_enter Z hn;let⟨e,u',w',frX,hR,ac,a2,a1,az⟩:=aR {fr with defers:=ds} cs hu K;cases e with
  |outgrown=>exact⟨.outgrown,w',fr,hR,Outgrown.of_steps (.one h1) ac,rfl,rfl,trivial⟩
  |returned v=>have i2:(lone frX ({{fr with defers:=ds}with mode:=u'}::cs) w').fenced P F:=fenced_going (n:=n-1) (a1▸aT) K az;have h2:=step_going_returned (c:={{fr with defers:=ds}with mode:=u'}) (cs:=cs) a2 az;let⟨e',ay,fr',ar,an,ae,ax⟩:=ih (settle u') w' {{{fr with defers:=ds}with mode:=u'}with mode:=settle u'} cs rfl rfl ht hf hb Z hR;exact⟨e',ay,fr',ar,ComesIn.of_steps (.head i1 h1 (StepsIn.trans ac (.one i2 h2))) an,ae,ax⟩
  |panicked chain=>have i2:(lone frX ({{fr with defers:=ds}with mode:=u'}::cs) w').fenced P F:=fenced_going (n:=n-1) (a1▸aT) K az;have h2:=step_going_panicked (c:={{fr with defers:=ds}with mode:=u'}) (cs:=cs) az;let⟨e',ay,fr',ar,an,ae,ax⟩:=ih (raised u' chain) w' {{{fr with defers:=ds}with mode:=u'}with mode:=raised u' chain} cs rfl rfl ht hf hb Z hR;exact⟨e',ay,fr',ar,ComesIn.of_steps (.head i1 h1 (StepsIn.trans ac (.one i2 h2))) an,ae,ax⟩
theorem lD{f:FuncId}{fn:Func}{c:Code}{K:Array Value}{u:FrameMode}{w:World}{R:Ending->World->Prop}
 (hf:P.funcs[f]? =some fn) (hb:fn.body=some c) (hF:F.fn f)
 (h:c.wpIn F n P (bodyPostM F n P fn R) {tmps:=K++Array.replicate (fn.ntmps-K.size) undef,defers:=[]} w) (ax:F.round=none:=by rfl):
 CallsDIn F n P f K u w fun e u' w'=>u'=u/\R e w':=by
 refine⟨hF,fun Z cs hu hr=>?_⟩;let b:Frame:={(default:Frame)with fn:=f,kind:=.deferred,roundOf:=none};have ar:Frame.enter P f K .deferred=
  b.atR {tmps:=K++Array.replicate (fn.ntmps-K.size) undef,defers:=[]} [.code c]:=by
  simp[Frame.enter,Frame.atR,hf,hb,b]
 have hc:({Z with mode:=u}:Frame)=Z:=by subst hu;rfl
 let⟨e,a',w',hq,ac⟩:=h b [] (Z::cs) ax.symm hF hr;rw[<-ar]at ac;cases e with
 |normal=>let⟨e',af,fr',hR,hs,ak,hk,hl⟩:=kU a'.defers .returning w' {b.atR a' []with mode:=.returning} (Z::cs) rfl rfl rfl hf hF hr hq;exact⟨e',u,af,fr',⟨rfl,hR⟩,(by rw[hc];exact ComesIn.of_steps (StepsIn.trans ac (.one (fenced_calm (fr:=b.atR a' []) hF hr rfl) (stepR_end rfl))) hs),hk,ak,hl⟩
 |ret=>let⟨an,ae⟩:=ac.1 rfl;let⟨e',af,fr',hR,hs,ak,hk,hl⟩:=kU a'.defers .returning w' {b.atR a' an with mode:=.returning} (Z::cs) rfl rfl rfl hf hF hr hq;exact⟨e',u,af,fr',⟨rfl,hR⟩,(by rw[hc];exact ComesIn.of_steps ae hs),hk,ak,hl⟩
 |panic chain=>let⟨an,ae⟩:=ac;let⟨e',af,fr',hR,hs,ak,hk,hl⟩:=kU a'.defers (.panicking chain) w' {b.atR a' an with mode:=.panicking chain} (Z::cs) rfl rfl rfl hf hF hr hq;exact⟨e',u,af,fr',⟨rfl,hR⟩,(by rw[hc];exact ComesIn.of_steps ae hs),hk,ak,hl⟩
 |exit id=>exact hq.elim
 |goto l=>exact hq.elim
 |outgrown=>exact⟨.outgrown,u,w',b,⟨rfl,hq⟩,ac.resolve_left iX,rfl,rfl,trivial⟩
end
section
variable {P : Program} {fd : Func} {tmps : Array Value} {R : Ending -> World -> Prop} {B : Nat} {m0 : M} {h0 : a_} {w0 : World} {m : M} {h : a_}
theorem j6(hB:w0.heap.size<=B){rest:List Deferred}:∀(ds:List Deferred)(w:World),R9 B m w (ds++rest)->r_ m h w->P5 m0 h0 w0 m h w->
 (∀w',r_ m h w'->P5 m0 h0 w0 m h w'->R9 B m w' rest->LeavesInM Fence.wide 0 P fd tmps R rest .returning w')->LeavesInM Fence.wide 0 P fd tmps R (ds++rest) .returning w
 |[],w,hM,H,E,hr=>hr w H E hM
 |d::ds,w,⟨⟨r,h1,h2,h3,h4,h5⟩,t⟩,H,E,hr=>⟨iS,.inl ⟨r,_,by rw[h1],run_takeDeferred h3,j6 hB ds _ (t.put h5) (H.p h4 _) (E.i oM _) hr⟩⟩
theorem nw(hB:w0.heap.size<=B){d:Deferred}{d2:List Deferred}:∀(ds:List Deferred)(w:World),R9 B m w (ds++d2)->r_ m h w->P5 m0 h0 w0 m h w->
 (∀w',r_ m h w'->P5 m0 h0 w0 m h w'->R9 B m w' d2->LeavesInM Fence.wide 0 P fd tmps R (d::d2) .returning w')->LeavesInM Fence.wide 0 P fd tmps R (ds++d::d2) .returning w
 |[],w,hM,H,E,hr=>hr w H E hM
 |x::ds,w,⟨⟨r,h1,h2,h3,h4,h5⟩,t⟩,H,E,hr=>⟨iS,.inl ⟨r,_,by rw[h1],run_takeDeferred h3,nw hB ds _ (R9.put h5 t) (H.p h4 _) (E.i oM _) hr⟩⟩
end
theorem wN{C:Cx}{m:M}(hV:C.a.contains U_=false):∀(ps:List Nat)(vs:List V)(env:T V)(tm:Array Value)(xs:List Value),f_ m vs xs→vs.length=ps.length→tm.size=C.N→(∀p∈ps,C.a.contains p=true∧p<C.N)→
 (∀s v,env.c_ s=some v→s=U_∨(C.a.contains s=true∧l_ m v (tm.getD s undef)))→
 T3 C m (AF ps vs env) {tmps:=(ps.zip xs).foldl (fun t (p:Nat×Value)=>t.setIfInBounds p.1 p.2) tm,defers:=[]}
 |[],[],env,tm,xs,_,_,hs,_,he=>⟨hs,he,hV⟩
 |[],_::_,_,_,_,_,hl,_,_,_=>by simp at hl
 |_::_,[],_,_,_,_,hl,_,_,_=>by simp at hl
 |p::ps,v::vs,env,tm,_,⟨x,xs,rfl,rx,rxs⟩,hl,hs,hp,he=>by have hpp:=hp p iS;simp only[AF,List.zip_cons_cons,List.foldl_cons];refine wN hV ps vs (env.A_ p v) (tm.setIfInBounds p x) xs rxs (eV hl) (eV hs) (fun q hq=>hp q iX) (fun s u hu=>?_);rw[T.Q0]at hu;by_cases c:s=p;rw[if_pos c]at hu;cases hu;subst c;refine .inr ⟨hpp.1,?_⟩;rw[Array.getD_eq_getD_getElem?,Array.getElem?_setIfInBounds_self_of_lt oM];exact rx;rw[if_neg c]at hu;refine(he s u hu).imp id fun q=>⟨q.1,?_⟩;rw[Array.getD_eq_getD_getElem?,Array.getElem?_setIfInBounds_ne (Ne.symm c),←Array.getD_eq_getD_getElem?];exact q.2
theorem zU{P:Program}{l:Nat}{R:Ending->World->Prop}{ex:Ex}{a:Act}{w:World}
 (h:∀jump,(jump=match ex with|.a=>none|ex=>some (jx ex))->∃v w',(Instr.endRound l jump).run P w=.ok v w'/\R (.returned v) w'):roundPost P l R (j7 ex) a w:=by
 cases ex<;>exact h _ rfl
theorem zj{P:Program}{G:Nat}{call:aI}(ak:eR P (F? P G) G call){b:Nat}{vs:List V}{h h':a_}{v:V}(e:evY (P1 call) b vs h=some (v,h')):
 ∀m w (Z:List Value) loc,m b=some loc->f_ m vs Z->r_ m h w->V1 (F? P G) G m->
 ∃r:Loop,w.heap[loc.a]? =some (.loop r)/\Z.length=r.params.size/\
  RoundIn Fence.wide 0 P loc.a r.fn ((r.params.zip (List.toArray Z)).foldl (fun tmps (t,a)=>tmps.setIfInBounds t a) r.tmps) r.assign r.body w (ng m h w v h'):=by
 intro m w Z loc hm hv H hG;unfold evY at e;split at e;rename_i ps as bd env hb;cases hl:Nat.beq vs.length ps.length;grind;rw[hl]at e;simp at e;have an:=Wb hl;let⟨g,hg,g1,g2,g3,hr,a0⟩:=H.n hm hb;subst g1;subst g2;subst g3;let⟨k1,k2,k3,k4,k5,k6⟩:=hG.2 b loc g hm hg;have aT:g.r.params.size=g.b.length:=by rw[<-k3];simp
 refine⟨_,hr,by rw[hv.Z,an];exact aT.symm,?_⟩;split at e;rename_i ar h1 aH;split at e;rename_i bf a6 ba bg p1 a3;split at e;rename_i ex aR h2 aN;split at e;rename_i bm bk bj bi bh bn af;have a4:((g.r.params.zip (List.toArray Z)).foldl (fun tmps (t,a)=>tmps.setIfInBounds t a) g.r.tmps)=(g.b.zip Z).foldl (fun t (p:Nat×Value)=>t.setIfInBounds p.1 p.2) g.r.tmps:=by rw[<-Array.foldl_toList,Array.toList_zip,k3]
 have hE:=wN (C:=⟨G,g.a,g.N,false⟩) k6 g.b vs env g.r.tmps Z hv an k4 k5 a0;apply roundIn_of_wpIn (F:=Fence.wide) trivial;have a8:Cir (F? P G) ⟨G,g.a,g.N,false⟩ (some loc.a) 0 m h w (AF g.b vs env) {tmps:=(g.b.zip Z).foldl (fun t (p:Nat×Value)=>t.setIfInBounds p.1 p.2) g.r.tmps,defers:=[]}:=
  ⟨hG,hE,H,trivial,Nat.zero_le _,fun l hl=>by cases hl;exact⟨_,hr⟩⟩
 rw[a4];refine j9 (C:=⟨G,g.a,g.N,false⟩) (ro:=some loc.a) (B:=0) ak (fun _ x=>x) (fun q=>by cases q) g.c g.r.assign k1 _ _ h m _ w .a ar h1 a8 aH (fun a1 w1 m1 hC1 E1=>?_);have ax:=E1.j _ _ hm;let⟨g',ac,_,_,_,a9,_⟩:=hC1.h.n ax a3;rw[hg]at ac;cases ac;let⟨a7,K⟩:=hC1.h.o ax a3 hg 1 p1;refine⟨_,run_beginRound a9 rfl,?_⟩;have ay:Cir (F? P G) ⟨G,g.a,g.N,false⟩ (some loc.a) 0 m1 (Q6 h1 b (.d bf a6 ba bg 1 p1)) (w1.putObj loc.a (.loop {g.r with state:=lst 1,pending:=p1.map jx})) ar a1:=
  ⟨hC1.g,hC1.e,a7,hC1.d.ext K,Nat.zero_le _,hC1.r.b K⟩
 refine j9 (C:=⟨G,g.a,g.N,false⟩) (ro:=some loc.a) (B:=0) ak (fun _ x=>x) (fun q=>by cases q) g.d g.r.body k2 _ _ _ m1 a1 _ ex aR h2 ay aN (fun a2 w2 m2 hC2 E2=>?_);have ae:=E2.j _ _ ax;let⟨g',ac,_,_,_,a5,_⟩:=hC2.h.n ae af;rw[hg]at ac;cases ac;refine zU fun aJ hj=>?_;have az:=run_endRound (P:=P) aJ a5;refine⟨_,_,az,?_⟩;cases ex with
 |a=>simp at e;obtain⟨rfl,rfl⟩:=e;let⟨H3,E3⟩:=hC2.h.o ae af hg 0 none;subst hj;exact⟨_,m2,rfl,rfl,H3,(E1.a K).a (E2.a E3)⟩
 |d=>simp at e;obtain⟨rfl,rfl⟩:=e;let⟨H3,E3⟩:=hC2.h.o ae af hg 2 (some .d);subst hj;exact⟨_,m2,rfl,rfl,H3,(E1.a K).a (E2.a E3)⟩
 |c id=>simp at e;obtain⟨rfl,rfl⟩:=e;let⟨H3,E3⟩:=hC2.h.o ae af hg 2 (some (.c id));subst hj;exact⟨_,m2,rfl,rfl,H3,(E1.a K).a (E2.a E3)⟩
 |b t=>simp at e;obtain⟨rfl,rfl⟩:=e;let⟨H3,E3⟩:=hC2.h.o ae af hg 2 (some (.b t));subst hj;exact⟨_,m2,rfl,rfl,H3,(E1.a K).a (E2.a E3)⟩
 cases e;cases e;cases e;cases e;cases e
theorem T3.mono{C:Cx}{m m':M}(l:Le m m'){env:T V}{a:Act}(hE:T3 C m env a):T3 C m' env a:=
 ⟨hE.1,fun s v hs=>(hE.2.1 s v hs).imp id fun q=>⟨q.1,Xt l _ _ q.2⟩,hE.2.2⟩
theorem wG{P:Program}{G:Nat}{call:aI}(ar:eR P (F? P G) G call){C:Cx}(a3:C.G=G){fd:Func}{an:List RV}(aJ:lu P C.a fd.results.toList an=true){m m':M}{h h0 h1 h':a_}{w w':World}{env:T V}{a:Act}{v:V}{ex:Ex}
 (hC:Cir (F? P G) C none w.heap.size m' h0 w' env a) (E:P5 m h w m' h0 w') (ac:(C.b=true->iJ call ex env h0=.b ex env h1)/\(C.b=false->h1=h0))
 (Z:(match fO env h1 an with
  |some [v]=>fV v fun v=>some (v,h1)
  |some vs=>some (.D vs,h1)
  |none=>none)=some (v,h')):LeavesInM Fence.wide 0 P fd a.tmps (ng m h w v h') a.defers .returning w':=by
 have fin:∀mf wf,r_ mf h1 wf->P5 m h w mf h1 wf->T3 C mf env a->LeavesInM Fence.wide 0 P fd a.tmps (ng m h w v h') [] .returning wf:=by
  intro mf wf Hf Ef a4;cases hr:fO env h1 an with
  |none=>rw[hr]at Z;cases Z
  |some us=>
   rw[hr]at Z;let⟨xs,hx,rx⟩:=jw (P:=P) Hf a4 _ _ _ aJ hr;refine⟨_,zq hx,_,mf,rfl,?_⟩;have K:=rx.Z;match us,Z,rx,K with
   |[],Z,rx,K=>simp at Z;obtain⟨rfl,rfl⟩:=Z;rw[dif_neg (by simp at K;simp[K])];exact⟨⟨xs,rfl,rx⟩,Hf,Ef⟩
   |[u],Z,rx,K=>simp[Ai]at Z;obtain⟨rfl,rfl⟩:=Z;rw[dif_pos (eV K)];obtain⟨x,rfl,r1⟩:=bY rx;exact⟨r1,Hf,Ef⟩
   |u1::u2::us,Z,rx,K=>simp at Z;obtain⟨rfl,rfl⟩:=Z;rw[dif_neg (by simp at K;omega)];exact⟨⟨xs,rfl,rx⟩,Hf,Ef⟩
 have hD:=hC.d;have noC:R9 w.heap.size m' w' a.defers->h1=h0->LeavesInM Fence.wide 0 P fd a.tmps (ng m h w v h') a.defers .returning w':=by rintro hM rfl;have:=j6 (P:=P) (fd:=fd) (tmps:=a.tmps) (R:=ng m h w v h') (B:=w.heap.size) (m0:=m) (h0:=h) (w0:=w) (m:=m') (h:=h1) (VZ _) (rest:=[]) a.defers w' (eV hM) hC.h E (fun w'' H'' E'' _=>fin m' w'' H'' E'' hC.e);simpa using this
 unfold X9 at hD;split at hD;rename_i dv ae aR;obtain⟨d1,d,d2,az,⟨f,first,ay,ax,A,C',rfl,aT,hd,ra,rc⟩,hM⟩:=hD;have he:=ac.1 ae;unfold iJ at he;rw[aR]at he;simp only[]at he;split at he;rename_i u h2 a2;simp at he;subst he;rw[az];refine nw (m0:=m) (h0:=h) (w0:=w) (m:=m') (h:=h0) (VZ _) d1 w' hM hC.h E (fun w1 H1 E1 aN=>?_);let⟨hf,aH⟩:=(ar f _ _ u h2 a2).1 aT;have ak:f_ m' (first++ax++ay) (A++C'):=Yn ra rc;have a1:=(aH m' w1 _ ak H1 (a3▸hC.g)).2 .returning;refine⟨iS,.inr ⟨fun q=>absurd q (by simp[Fence.wide]),.func f,List.toArray C',f,List.toArray (A++C'),by rw[hd],?_,fun _ _=>trivial,?_⟩⟩;rw[hd];simp only[invoke];rw[(iS:(List.toArray A++List.toArray C')=List.toArray (A++C'))];exact gV hf;apply CallsDIn.mono a1;rintro en u' w2 ⟨rfl,x,m2,rfl,rx,H2,E2⟩;have a0:=aN.ext E2;have:=j6 (P:=P) (fd:=fd) (tmps:=a.tmps) (R:=ng m h w v h') (B:=w.heap.size) (m0:=m) (h0:=h) (w0:=w) (m:=m2) (h:=h2) (VZ _) (rest:=[]) d2 w2 (eV a0) H2 (E1.a E2) (fun w3 H3 E3 _=>fin m2 w3 H3 E3 (hC.e.mono E2.j));simpa[settle]using this;cases he;rename_i hn;apply noC hD;cases ae:C.b;exact ac.2 ae;have af:env.c_ U_=none:=by
  cases q:env.c_ U_ with
  |none=>rfl
  |some v=>exact absurd q (hn v ae)
 have he:=ac.1 ae;unfold iJ at he;rw[af]at he;simp at he;exact he.symm
theorem wE{P:Program}{G:Nat}{F:T i_}{ov:aI}(a0:eR P (F? P G) G ov)(hF:DG P G F):∀n,eR P (F? P G) G (k? ov F n):=by
 intro n;induction n with
 |zero=>intro f vs h v h' e;cases e
 |succ n ih=>
  intro f vs h v h' e;have e':(match F.c_ f with
   |some fn=>bif Nat.beq vs.length fn.b then
    (match P1 (k? ov F n) fn.d (gR vs 0 .e) h with
     |.b .a env h=>(match fO env h fn.a with
      |some [v]=>fV v fun v=>some (v,h)
      |some vs=>some (.D vs,h)
      |none=>none)
     |.b .d env h=>(match fO env h fn.a with
      |some [v]=>fV v fun v=>some (v,h)
      |some vs=>some (.D vs,h)
      |none=>none)
     |_=>none)
    else none
   |none=>bif Nat.ble YB f then evY (P1 (k? ov F n)) (f-YB) vs h else ov f vs h)=some (v,h'):=e
  cases hg:F.c_ f with
  |none=>rw[hg]at e';simp at e';cases hy:Nat.ble YB f;rw[hy]at e';simp at e';refine⟨(a0 f vs h v h' e').1,fun q=>?_⟩;have:=Zr q;rw[hy]at this;cases this;rw[hy]at e';simp at e';have a5:=Wh hy;exact⟨fun q=>absurd q oM,fun _=>zj ih e'⟩
  |some fn=>
   rw[hg]at e';simp at e';cases hl:Nat.beq vs.length fn.b;grind;rw[hl]at e';simp at e';have a3:=Wb hl;have hc:=hF f fn hg;unfold Db at hc;split at hc;rename_i fd aH;split at hc;rename_i c ac;simp only[VY,XB,WB]at hc;let⟨⟨⟨⟨⟨⟨af,a1⟩,a4⟩,ay⟩,aJ⟩,aN⟩,ax⟩:=hc;have aJ:=Wh aJ;refine⟨fun _=>⟨⟨fd,aH,by rw[ac];rfl,ax⟩,fun m w K hv H hG=>?_⟩,fun q=>absurd q oM⟩;have a6:=hv.Z;have aT:c.wpIn Fence.wide 0 P (bodyPostM Fence.wide 0 P fd (ng m h w v h')) {tmps:=List.toArray K++Array.replicate (fd.ntmps-(List.toArray K).size) undef,defers:=[]} w:=by
    have hE:∀df,T3 ⟨G,fn.c,fd.ntmps,df⟩ m (gR vs 0 .e) {tmps:=List.toArray K++Array.replicate (fd.ntmps-(List.toArray K).size) undef,defers:=[]}:=by
     intro df;refine⟨by simp;omega,fun s u hs=>?_,a1⟩;rw[qH]at hs;split at hs;rename_i hr;simp only[YK,WG]at hs hr;let⟨x,hx,rx⟩:=hv.i s u hs;refine .inr ⟨Xw.1 ay s oO,?_⟩;have:(List.toArray K++Array.replicate (fd.ntmps-(List.toArray K).size) undef).getD s undef=x:=by rw[WJ,YV oO];simp[hx]
     rw[this];exact rx;cases hs
    have a2:(gR vs 0 .e).c_ U_=none:=by
     cases q:(gR vs 0 .e).c_ U_ with
     |none=>rfl
     |some u=>rw[qH]at q;split at q;grind;cases q
    have hC:∀df,Cir (F? P G) ⟨G,fn.c,fd.ntmps,df⟩ none w.heap.size m h w (gR vs 0 .e) {tmps:=List.toArray K++Array.replicate (fd.ntmps-(List.toArray K).size) undef,defers:=[]}:=
     fun df=>⟨hG,hE df,H,by unfold X9;rw[a2];cases df<;>exact trivial,VZ _,fun l hl=>by cases hl⟩
    have fin:∀ex Z h1,(ex=.a\/ex=.d)->P1 (k? ov F n) fn.d (gR vs 0 .e) h=.b ex Z h1->
     (match fO Z h1 fn.a with
      |some [v]=>fV v fun v=>some (v,h1)
      |some vs=>some (.D vs,h1)
      |none=>none)=some (v,h')->
     c.wpIn Fence.wide 0 P (bodyPostM Fence.wide 0 P fd (ng m h w v h')) {tmps:=List.toArray K++Array.replicate (fd.ntmps-(List.toArray K).size) undef,defers:=[]} w:=by
     intro ex Z h1 aR ar ak;unfold Mc at af;split at af;rename_i b hb;rw[hb]at ar;have an:(match P1 (k? ov F n) b (gR vs 0 .e) h with
      |.b .a env h=>iJ (k? ov F n) .a env h
      |.b .d env h=>iJ (k? ov F n) .d env h
      |_=>.a)=T6.b ex Z h1:=ar
     have hh:∃h0,P1 (k? ov F n) b (gR vs 0 .e) h=.b ex Z h0/\iJ (k? ov F n) ex Z h0=.b ex Z h1:=by
      have key:∀az ae h0,iJ (k? ov F n) az ae h0=.b ex Z h1->az=ex/\ae=Z:=by intro az ae h0 q;unfold iJ at q;split at q;grind;grind;cases q
      split at an;grind;grind;cases an
     let⟨h0,q1,q2⟩:=hh;refine j9 (C:=⟨G,fn.c,fd.ntmps,true⟩) (ro:=none) ih (fun _ x=>x) (fun _=>rfl) b c af _ _ h m _ w ex Z h0 (hC true) q1 (fun a' w' m' hC' E'=>?_);have:=wG (C:=⟨G,fn.c,fd.ntmps,true⟩) ih rfl aN hC' E' ⟨fun _=>q2,fun q=>by cases q⟩ ak;obtain rfl|rfl:=aR;exact this;exact this;refine j9 (C:=⟨G,fn.c,fd.ntmps,false⟩) (ro:=none) ih (fun _ x=>x) (fun _=>rfl) fn.d c af _ _ h m _ w ex Z h1 (hC false) ar (fun a' w' m' hC' E'=>?_);have:=wG (C:=⟨G,fn.c,fd.ntmps,false⟩) (ex:=ex) ih rfl aN hC' E' ⟨fun q=>(by cases q),fun _=>rfl⟩ ak;obtain rfl|rfl:=aR;exact this;exact this
    split at e';grind;grind;cases e'
   exact⟨callsIn_wide.1 (callsIn_of_wp_marks aH ac trivial aT),fun u=>lD aH ac trivial aT⟩;cases hc;cases hc
def Evt(c:Nat->aI)(f:Nat)(vs:List V)(h:a_)(r:V×a_):Prop:=∃n,∀m,n<=m->c m f vs h=some r
theorem Evt.b{c:Nat->aI}{f:Nat}{vs:List V}{h:a_}{r s:V×a_}(a:Evt c f vs h r)(b:Evt c f vs h s):r=s:=by let⟨n,K⟩:=a;let⟨k,Z⟩:=b;have e:=K (max n k) (Nat.le_max_left _ _);rw[Z (max n k) (Nat.le_max_right _ _)]at e;cases e;rfl
section
variable {c : Nat -> aI} {L : aI}
def Lim(c:Nat->aI)(L:aI):Prop:=∀f vs h r,L f vs h=some r->Evt c f vs h r
theorem ui(K:Lim c L){Z:List V}{env:T V}{h:a_}{o:Q8}{r:V×a_}(e:aU L Z env h o=some r):
 ∃n,∀m,n<=m->aU (c m) Z env h o=some r:=by
 cases o;case d f xs=>
  simp[aU]at e|-;cases hx:eg Z env xs with
  |none=>rw[hx]at e;cases e
  |some vs=>rw[hx]at e;exact K _ _ _ _ e
 case e x xs=>
  simp only[aU]at e|-;split at e;split at e;rename_i f first ac h1 _ vs h2
  cases hb:Nat.blt f YB;grind;rw[hb]at e;simp only[cond_true]at e|-;exact K _ _ _ _ e;cases e;split at e;exact K _ _ _ _ e;cases e;cases e
 all_goals exact⟨0,fun m _=>e⟩
theorem Aj(hL:Lim c L):∀(l:List n_)(K:List V)(env:T V)(h:a_){e:Ex}{Z:T V}{h':a_},dQ L l K env h=.b e Z h'->
 ∃n,∀m,n<=m->dQ (c m) l K env h=.b e Z h':=by
 intro l;induction l with
 |nil=>intro K env h e Z h' x;exact⟨0,fun m _=>x⟩
 |cons s l ih=>intro K env h e Z h' x;rw[cT]at x;simp[cT];split at x;rename_i hg;split at x;rename_i v h1 ho;let⟨n,hn⟩:=ui hL ho;let⟨k,hk⟩:=ih _ _ _ x;refine⟨max n k,fun m hm=>?_⟩;rw[hn m oM];exact hk m oM;cases x;exact ih _ _ _ x;cases x
theorem z9(a b:aI)(Z:List V)(env:T V)(h:a_)(s:n_):ww a Z env h s=ww b Z env h s:=by let⟨g,o,d⟩:=s;cases o<;>rfl
theorem Ey(a b:aI)(env:T V)(K:List Nat):∀(l:List n_)(i:Nat)(Z:List V)(h:a_),Q7 a env K l i Z h=Q7 b env K l i Z h:=by
 intro l;induction l with
 |nil=>intro i Z h;rfl
 |cons s l ih=>intro i Z h;simp[Q7,z9 a b,ih]
theorem iK(call:aI)(env:T V)(s:DS)(l:List DS)(Z:List V)(K:List a_)(h:a_):iY call env (s::l) Z K h=
      match s.2 with
      |some (u,c)=>bif ce Z env s.1.a u c then iY call env l (u::Z) K h else none
      |none=>
       match V6 Z env s.1.c with
       |some true=>match aU call Z env h s.1.a with
        |some (v,h')=>bif j_ s.1.a then iY call env l (v::Z) (h'::K) h' else iY call env l (v::Z) K h
        |none=>none
       |some false=>bif j_ s.1.a then iY call env l (.D []::Z) (h::K) h else iY call env l (.D []::Z) K h
       |none=>none:=by
 show(match s.2 with
  |some (u,c)=>bif ce Z env s.1.a u c then iY call env l (u::Z) K h else none
  |none=>
   match V6 Z env s.1.c with
   |some true=>match aU call Z env h s.1.a with
    |some (v,h')=>fV v fun v=>bif j_ s.1.a then iY call env l (v::Z) (h'::K) h' else iY call env l (v::Z) K h
    |none=>none
   |some false=>bif j_ s.1.a then iY call env l (.D []::Z) (h::K) h else iY call env l (.D []::Z) K h
   |none=>none)=_
 simp[Ai]
theorem Iq(hL:Lim c L)(env:T V):∀(l:List DS)(Z:List V)(hs:List a_)(h:a_){r:List V×List a_},iY L env l Z hs h=some r->
 ∃n,∀m,n<=m->iY (c m) env l Z hs h=some r:=by
 intro l;induction l with
 |nil=>intro Z hs h r x;exact⟨0,fun m _=>x⟩
 |cons s l ih=>
  intro Z hs h r x;rw[iK]at x;simp[iK];let⟨s1,s2⟩:=s;cases s2 with
  |some uc=>let⟨u,cs⟩:=uc;simp at x|-;cases hl:ce Z env s1.a u cs;grind;rw[hl]at x;simp at x|-;exact ih _ _ _ x
  |none=>simp at x|-;split at x;rename_i hg;split at x;rename_i v h1 ho;let⟨n,hn⟩:=ui hL ho;cases K:j_ s1.a;rw[K]at x;simp at x;let⟨k,hk⟩:=ih _ _ _ x;refine⟨max n k,fun m hm=>?_⟩;rw[hn m oM];simp;exact hk m oM;rw[K]at x;simp at x;let⟨k,hk⟩:=ih _ _ _ x;refine⟨max n k,fun m hm=>?_⟩;rw[hn m oM];simp;exact hk m oM;cases x;rename_i hg;cases K:j_ s1.a;rw[K]at x;simp at x|-;exact ih _ _ _ x;rw[K]at x;simp at x|-;exact ih _ _ _ x;cases x
theorem Eg(hL:Lim c L)(K:List V)(env:T V)(o:Q8)(v:V):∀(Z:List a_),gM L K env o v Z=true->
 ∃n,∀m,n<=m->gM (c m) K env o v Z=true:=by
 intro Z;induction Z with
 |nil=>intro _;exact⟨0,fun _ _=>rfl⟩
 |cons h Z ih=>intro x;simp[gM]at x|-;let⟨a,b⟩:=x;let⟨k,hk⟩:=ih b;split at a;rename_i u _ ho;let⟨n,hn⟩:=ui hL ho;refine⟨max n k,fun m hm=>⟨?_,hk m oM⟩⟩;rw[hn m oM];exact a;cases a
theorem Hg(hL:Lim c L)(env:T V)(l:List n_)(Z:List V)(K:List a_)(r:Nat×Nat×Nat)(x:nU L env l Z K r=true):
 ∃n,∀m,n<=m->nU (c m) env l Z K r=true:=by
 let⟨i,lo,hi⟩:=r;simp[nU]at x|-;split at x;rename_i s v loc' _ _;split at x;rename_i hg;let⟨n,hn⟩:=Eg hL _ _ _ _ _ x;exact⟨n,fun m hm=>hn m hm⟩;rename_i hg;exact⟨0,fun m _=>rfl⟩;cases x
theorem La(hL:Lim c L)(env:T V)(l:List n_)(Z:List V)(K:List a_):∀(rs:List (Nat×Nat×Nat)),rs.all (nU L env l Z K)=true->
 ∃n,∀m,n<=m->rs.all (nU (c m) env l Z K)=true:=by
 intro rs;induction rs with
 |nil=>intro _;exact⟨0,fun _ _=>rfl⟩
 |cons r rs ih=>intro x;simp only[Yb,VY]at x|-;let⟨n,hn⟩:=Hg hL _ _ _ _ _ x.1;let⟨k,hk⟩:=ih x.2;exact⟨max n k,fun m hm=>⟨hn m oM,hk m oM⟩⟩
theorem KU(hL:Lim c L){l:List n_}{ac:List Nat}{Z:List (Nat×Nat×Nat)}{K:List (Nat×Nat)}{env:T V}{h:a_}{e:Ex}{ae:T V}{h':a_}
 (x:evD L l ac Z K env h=.b e ae h'):∃n,∀m,n<=m->evD (c m) l ac Z K env h=.b e ae h':=by
 unfold evD at x|-;simp[Ey _ L];split at x;cases x;rename_i dl h1 hl;split at x;rename_i af hs hd;let⟨n,hn⟩:=Iq hL _ _ _ _ _ hd;cases ha:Z.all (nU L env l af hs);grind;rw[ha]at x;let⟨k,hk⟩:=La hL _ _ _ _ _ ha;refine⟨max n k,fun m hm=>?_⟩;rw[hn m oM];simp;rw[hk m oM];exact x;cases x
def Lw(b:T V->a_->T6)(bs:Nat->T V->a_->T6):Prop:=∀env h e env' h',b env h=.b e env' h'->∃n,∀m,n<=m->bs m env h=.b e env' h'
theorem yo{b:T V->a_->T6}{bs:Nat->T V->a_->T6}(hb:Lw b bs)(k:Nat):Lw (W4 b k) (fun m=>W4 (bs m) k):=by
 induction k with
 |zero=>exact hb
 |succ k ih=>
  intro env h e Z h' x;have eq:∀(f:T V->a_->T6),W4 f (k+1) env h=match W4 f k env h with
   |.b .a env h=>W4 f k env h
   |r=>r:=fun _=>rfl
  rw[eq]at x;simp[eq];split at x;rename_i ac h1 K;let⟨n,hn⟩:=ih _ _ _ _ _ K;let⟨j,hj⟩:=ih _ _ _ _ _ x;refine⟨max n j,fun m hm=>?_⟩;have a:=hn m oM;have b:=hj m oM;simp at a b;rw[a];exact b;rename_i K;let⟨n,hn⟩:=ih _ _ _ _ _ x;refine⟨n,fun m hm=>?_⟩;have a:=hn m hm;simp at a;rw[a];cases e with
  |a=>exact absurd x (K Z h')
  |_=>rfl
theorem KV(hL:Lim c L):∀(k:IC),Lw (P1 L k) (fun m=>P1 (c m) k):=by
 intro k;induction k with
 |f=>intro env h e Z h' x;exact⟨0,fun m _=>x⟩
 |n l=>intro env h e Z h' x;exact Aj hL l [] env h x
 |e a b iha ihb=>
  intro env h e Z h' x;have eq:∀f:aI,P1 f (.e a b) env h=match P1 f a env h with
   |.b .a env h=>P1 f b env h
   |r=>r:=fun _=>rfl
  rw[eq]at x;simp[eq];split at x;rename_i K h1 h2;let⟨n,hn⟩:=iha _ _ _ _ _ h2;let⟨j,hj⟩:=ihb _ _ _ _ _ x;refine⟨max n j,fun m hm=>?_⟩;have a:=hn m oM;have b:=hj m oM;simp at a b;rw[a];exact b;rename_i h2;let⟨n,hn⟩:=iha _ _ _ _ _ x;refine⟨n,fun m hm=>?_⟩;have a:=hn m hm;simp at a;rw[a];cases e with
  |a=>exact absurd x (h2 Z h')
  |_=>rfl
 |d o a b iha ihb=>
  intro env h e Z h' x;have eq:∀f:aI,P1 f (.d o a b) env h=match E_ [] env o with
   |some (.h t)=>bif t then P1 f a env h else P1 f b env h
   |_=>.a:=fun _=>rfl
  rw[eq]at x;simp[eq];split at x;rename_i t ht;cases t;exact ihb _ _ _ _ _ x;exact iha _ _ _ _ _ x;cases x
 |h id a iha=>
  intro env h e Z h' x;have eq:∀f:aI,P1 f (.h id a) env h=match P1 f a env h with
   |.b (.c i) env h=>bif Nat.beq i id then .b .a env h else .b (.c i) env h
   |r=>r:=fun _=>rfl
  rw[eq]at x;simp[eq];split at x;rename_i i K h1 h2;let⟨n,hn⟩:=iha _ _ _ _ _ h2;refine⟨n,fun m hm=>?_⟩;have a:=hn m hm;simp at a;rw[a];exact x;rename_i h2;let⟨n,hn⟩:=iha _ _ _ _ _ x;refine⟨n,fun m hm=>?_⟩;have a:=hn m hm;simp at a;rw[a];cases e with
  |c i=>exact absurd x (h2 i Z h')
  |_=>rfl
 |o a iha=>
  intro env h e Z h' x;have eq:∀f:aI,P1 f (.o a) env h=match W4 (P1 f a) 48 env h with
   |.b .a _ _=>.a
   |r=>r:=fun _=>rfl
  rw[eq]at x;simp[eq];split at x;cases x;rename_i h2;let⟨n,hn⟩:=yo iha 48 _ _ _ _ _ x;refine⟨n,fun m hm=>?_⟩;have a:=hn m hm;simp at a;rw[a];cases e with
  |a=>exact absurd x (h2 Z h')
  |_=>rfl
 |k i=>intro env h e Z h' x;exact⟨0,fun m _=>x⟩
 |q=>intro env h e Z h' x;exact⟨0,fun m _=>x⟩
 |j a l r iha ihr=>
  intro env h e Z h' x;have eq:∀f:aI,P1 f (.j a l r) env h=match P1 f a env h with
   |.b (.b i) env h=>bif Nat.beq i l then
    (match W4 (fun env h=>match P1 f r env h with
     |.b (.b i) env h=>bif Nat.beq i l then .b .a env h else .b (.b i) env h
     |.b .a env h=>.b (.b l) env h
     |r=>r) 48 env h with
     |.b .a _ _=>.a
     |.b (.b i) env h=>bif Nat.beq i l then .b .a env h else .a
     |r=>r)
    else .a
   |r=>r:=fun _=>rfl
  have ae:Lw (fun env h=>match P1 L r env h with
            |.b (.b i) env h=>bif Nat.beq i l then .b .a env h else .b (.b i) env h
            |.b .a env h=>.b (.b l) env h
            |r=>r) (fun m env h=>match P1 (c m) r env h with
            |.b (.b i) env h=>bif Nat.beq i l then .b .a env h else .b (.b i) env h
            |.b .a env h=>.b (.b l) env h
            |r=>r):=by
   intro env h e Z h' y;simp at y|-;split at y;rename_i i K h1 h2;let⟨n,hn⟩:=ihr _ _ _ _ _ h2;refine⟨n,fun m hm=>?_⟩;have a:=hn m hm;simp at a;rw[a];exact y;rename_i K h1 h2;let⟨n,hn⟩:=ihr _ _ _ _ _ h2;refine⟨n,fun m hm=>?_⟩;have a:=hn m hm;simp at a;rw[a];exact y;rename_i h2 h3;let⟨n,hn⟩:=ihr _ _ _ _ _ y;refine⟨n,fun m hm=>?_⟩;have a:=hn m hm;simp at a;rw[a];cases e with
   |a=>exact absurd y (h3 Z h')
   |b i=>exact absurd y (h2 i Z h')
   |_=>rfl
  rw[eq]at x;simp[eq];split at x;rename_i i K h1 h2;let⟨n,hn⟩:=iha _ _ _ _ _ h2;cases hb:Nat.beq i l;grind;rw[hb]at x;simp at x;split at x;cases x;rename_i j af h3 h4;let⟨k,hk⟩:=yo ae 48 _ _ _ _ _ h4;refine⟨max n k,fun m hm=>?_⟩;have a:=hn m oM;have b:=hk m oM;simp at a b;rw[a];simp[hb];rw[b];exact x;rename_i h3 h4;let⟨k,hk⟩:=yo ae 48 _ _ _ _ _ x;refine⟨max n k,fun m hm=>?_⟩;have a:=hn m oM;have b:=hk m oM;simp at a b;rw[a];simp[hb];rw[b];cases e with
  |a=>exact absurd x (h3 Z h')
  |b i=>exact absurd x (h4 i Z h')
  |_=>rfl
  rename_i h2;let⟨n,hn⟩:=iha _ _ _ _ _ x;refine⟨n,fun m hm=>?_⟩;have a:=hn m hm;simp at a;rw[a];cases e with
  |b i=>exact absurd x (h2 i Z h')
  |_=>rfl
 |p l=>intro env h e Z h' x;exact⟨0,fun m _=>x⟩
 |i l late R reads sets=>intro env h e Z h' x;exact KU hL x
 |s=>intro env h e Z h' x;cases x
 |u g ps as bd iha ihb=>
  intro env h e Z h' x;have eq:∀f:aI,P1 f (.u g ps as bd) env h=match E_ [] env g with
   |some (.E (.func f0) first ac)=>bif Nat.blt f0 YB then
    (match f f0 (first++[.yld h.e]++ac) (V4 h (.d ps as bd env 0 none))with
     |some (_,h2)=>(match h2.S.c_ h.e with
      |some (.d _ _ _ _ st pend)=>bif Nat.beq st 1 then .a else .b (match pend with|some ex=>ex|none=>.a) env (Q6 h2 h.e .b)
      |_=>.a)
     |none=>.a)
    else .a
   |_=>.a:=fun _=>rfl
  rw[eq]at x;simp only[eq];split at x;rename_i f0 first ac hg
  cases hb:Nat.blt f0 YB;grind;rw[hb]at x;simp only[cond_true]at x|-;split at x;rename_i u h2 hc;let⟨n,hn⟩:=hL _ _ _ _ hc;refine⟨n,fun m hm=>?_⟩;rw[hn m hm];exact x;cases x;cases x
 |v a iha=>
  intro env h e Z h' x;have eq:∀f:aI,P1 f (.v a) env h=match P1 f a env h with
   |.b .a env h=>iJ f .a env h
   |.b .d env h=>iJ f .d env h
   |_=>.a:=fun _=>rfl
  rw[eq]at x;simp[eq];have fin:∀ex K h1,iJ L ex K h1=.b e Z h'->∃n,∀m,n<=m->iJ (c m) ex K h1=.b e Z h':=by intro ex K h1 q;unfold iJ at q|-;split at q;exact⟨0,fun _ _=>q⟩;split at q;rename_i hc;let⟨n,hn⟩:=hL _ _ _ _ hc;refine⟨n,fun m hm=>?_⟩;rw[hn m hm];exact q;cases q;cases q
  split at x;rename_i K h1 h2;let⟨n,hn⟩:=iha _ _ _ _ _ h2;let⟨j,hj⟩:=fin _ _ _ x;refine⟨max n j,fun m hm=>?_⟩;have a:=hn m oM;simp at a;rw[a];exact hj m oM;rename_i K h1 h2;let⟨n,hn⟩:=iha _ _ _ _ _ h2;let⟨j,hj⟩:=fin _ _ _ x;refine⟨max n j,fun m hm=>?_⟩;have a:=hn m oM;simp at a;rw[a];exact hj m oM;cases x
end
open Classical in
def ev(ov:aI)(F:T i_):aI:=fun f vs h=>
 if x:∃r,Evt (k? ov F) f vs h r then some (Classical.choose x)else none
theorem Im{ov:aI}{F:T i_}:Lim (k? ov F) (ev ov F):=by intro f vs h r e;unfold ev at e;split at e;grind;cases e
theorem Ik{ov:aI}{F:T i_}{f:Nat}{vs:List V}{h:a_}{r:V×a_}(e:Evt (k? ov F) f vs h r):ev ov F f vs h=some r:=by have x:∃r,Evt (k? ov F) f vs h r:=⟨r,e⟩;unfold ev;rw[dif_pos x];exact congrArg some ((Classical.choose_spec x).b e)
theorem Il{P:Program}{G:Nat}{F:T i_}{ov:aI}(Z:eR P (F? P G) G ov)(hF:DG P G F):eR P (F? P G) G (ev ov F):=by intro f vs h v h' e;let⟨n,K⟩:=Im _ _ _ _ e;exact wE Z hF n f vs h v h' (K n (VZ n))
def tG:List V->V
 |[v]=>v
 |vs=>.D vs
theorem KT{ov:aI}{F:T i_}{f:Nat}{fn:i_}{vs:List V}{h Z:a_}{e:Ex}{env:T V}{rs:List V}(hf:F.c_ f=some fn)(hn:Nat.beq vs.length fn.b=true)
 (hb:P1 (ev ov F) fn.d (gR vs 0 .e) h=.b e env Z) (he:e=.a\/e=.d) (hr:fO env Z fn.a=some rs):ev ov F f vs h=some (tG rs,Z):=by
 apply Ik;let⟨n,K⟩:=KV Im fn.d _ _ _ _ _ hb;refine⟨n+1,fun m hm=>?_⟩;obtain⟨k,rfl⟩:∃k,m=k+1:=⟨m-1,oM⟩;have eq:k? ov F (k+1) f vs h=match F.c_ f with
  |some fn=>bif Nat.beq vs.length fn.b then
   (match P1 (k? ov F k) fn.d (gR vs 0 .e) h with
    |.b .a env h=>match fO env h fn.a with
     |some [v]=>fV v fun v=>some (v,h)
     |some vs=>some (.D vs,h)
     |none=>none
    |.b .d env h=>match fO env h fn.a with
     |some [v]=>fV v fun v=>some (v,h)
     |some vs=>some (.D vs,h)
     |none=>none
    |_=>none)
   else none
  |none=>bif Nat.ble YB f then evY (P1 (k? ov F k)) (f-YB) vs h else ov f vs h:=rfl
 have hk:=K k oM;simp at hk;have fin:(match fO env Z fn.a with
             |some [v]=>fV v fun v=>some (v,Z)
             |some vs=>some (.D vs,Z)
             |none=>none)=some (tG rs,Z):=by
  rw[hr];simp[Ai];cases rs with
  |nil=>rfl
  |cons a t=>cases t with
   |nil=>rfl
   |cons b t=>rfl
 rw[eq,hf];simp[hn];rw[hk];obtain rfl|rfl:=he<;>exact fin
theorem OE{ov:aI}{F:T i_}{f:Nat}{vs:List V}{h:a_}{r:V×a_}(hf:F.c_ f=none)(Z:Nat.ble YB f=false)(e:ov f vs h=some r):ev ov F f vs h=some r:=by
 refine Ik ⟨1,fun m K=>?_⟩;obtain⟨k,rfl⟩:∃k,m=k+1:=⟨m-1,oM⟩;show(match F.c_ f with
  |some fn=>_
  |none=>bif Nat.ble YB f then _ else ov f vs h)=_
 rw[hf];simp[Z];exact e
section
variable {call : aI} {env : T V} {h : a_} {loc : List V}
def OQ(o:Option (V×a_))(K:V->a_->Prop):Prop:=∃v h,o=some (v,h)/\K v h
theorem cF(v:V)(h:a_)(K:V->a_->Prop):OQ (some (v,h)) K↔K v h:=
 ⟨fun⟨_,_,e,k⟩=>by cases e;exact k,fun k=>⟨v,h,rfl,k⟩⟩
def VQ(o:Option V)(K:V->a_->Prop)(h:a_):Prop:=∃v,o=some v/\K v h
theorem mR(v:V)(K:V->a_->Prop)(h:a_):VQ (some v) K h↔K v h:=
 ⟨fun⟨_,e,k⟩=>by cases e;exact k,fun k=>⟨v,rfl,k⟩⟩
def HQ(o:Option a_)(K:V->a_->Prop):Prop:=∃h,o=some h/\K (.D []) h
theorem Dx(h:a_)(K:V->a_->Prop):HQ (some h) K↔K (.D []) h:=
 ⟨fun⟨_,e,k⟩=>by cases e;exact k,fun k=>⟨h,rfl,k⟩⟩
theorem OQ.b{o:Option (V×a_)}{K Z:V->a_->Prop}(a:OQ o K)(b:∀v h,K v h->Z v h):OQ o Z:=by let⟨v,h,e,k⟩:=a;exact⟨v,h,e,b _ _ k⟩
theorem nD(k:Nat):E_ loc env (.l k)=X8 loc k:=rfl
theorem iI(s:Nat):E_ loc env (.v s)=env.c_ s:=rfl
theorem wD(x:V):E_ loc env (.c x)=some x:=rfl
theorem Io(n:Nat):E_ loc env (.g n)=some (.u n 0):=rfl
def lh(a:Option V)(b:Option (List V)):Option (List V):=match a,b with
 |some v,some vs=>some (v::vs)
 |_,_=>none
theorem cC(v:V)(vs:List V):lh (some v) (some vs)=some (v::vs):=rfl
theorem cW:eg loc env []=some []:=rfl
theorem fP(x:H_)(Z:List H_):eg loc env (x::Z)=lh (E_ loc env x) (eg loc env Z):=by show Option.rec (motive:=fun _=>Option (List V)) none (fun v=>Option.rec (motive:=fun _=>Option (List V)) none (fun vs=>some (v::vs)) (eg loc env Z)) (E_ loc env x)=_;cases E_ loc env x<;>cases eg loc env Z<;>rfl
theorem bO(v:V)(l:List V):X8 (v::l) 0=some v:=rfl
theorem cL(v:V)(l:List V)(k:Nat):X8 (v::l) (k+1)=X8 l k:=rfl
theorem iw(i:Nat)(en:T V):gR [] i en=en:=rfl
def PQ(k:PK)(o:Option (List V))(K:V->a_->Prop)(h:a_):Prop:=∃vs,o=some vs/\VQ (aP k vs) K h
theorem mU(k:PK)(vs:List V)(K:V->a_->Prop):PQ k (some vs) K h↔VQ (aP k vs) K h:=
 ⟨fun⟨_,e,k⟩=>by cases e;exact k,fun k=>⟨vs,rfl,k⟩⟩
theorem Ek(k:PK)(Z:List H_)(K:V->a_->Prop):OQ (aU call loc env h (.p k Z)) K↔PQ k (eg loc env Z) K h:=by
 simp[aU,OQ,PQ,VQ];cases eg loc env Z with
 |none=>simp
 |some vs=>cases hx:aP k vs with
  |none=>simp[hx]
  |some v=>simp[hx,and_assoc]
def LQ(h:a_)(n:Nat)(ia:Bool)(o:Option V)(K:V->a_->Prop):Prop:=∃p,o=some p/\VQ (jO h n ia p) K h
theorem sA(n:Nat)(ia:Bool)(p:V)(K:V->a_->Prop):LQ h n ia (some p) K↔VQ (jO h n ia p) K h:=
 ⟨fun⟨_,e,k⟩=>by cases e;exact k,fun k=>⟨p,rfl,k⟩⟩
theorem CI(n:Nat)(Z:Bool)(x:H_)(K:V->a_->Prop):OQ (aU call loc env h (.a n Z x)) K↔LQ h n Z (E_ loc env x) K:=by
 simp[aU,OQ,LQ,VQ];cases E_ loc env x with
 |none=>simp
 |some p=>cases hx:jO h n Z p with
  |none=>simp[hx]
  |some v=>simp[hx,and_assoc]
def SQ(h:a_)(n:Nat)(o u:Option V)(K:V->a_->Prop):Prop:=∃p v,o=some p/\u=some v/\HQ (iP h n p v) K
theorem Dv(n:Nat)(p v:V)(K:V->a_->Prop):SQ h n (some p) (some v) K↔HQ (iP h n p v) K:=
 ⟨fun⟨_,_,e,e2,k⟩=>by cases e;cases e2;exact k,fun k=>⟨p,v,rfl,rfl,k⟩⟩
theorem LD(n:Nat)(x y:H_)(K:V->a_->Prop):OQ (aU call loc env h (.h n x y)) K↔SQ h n (E_ loc env x) (E_ loc env y) K:=by
 simp only[aU,OQ,SQ,HQ];cases E_ loc env x with
 |none=>simp
 |some p=>cases E_ loc env y with
  |none=>simp
  |some v=>cases Z:iP h n p v with
   |none=>simp[Z]
   |some h'=>simp[Z,and_assoc]
theorem LO(zero:List V)(K:V->a_->Prop):OQ (aU call loc env h (.c zero)) K↔K (.u h.e 0) (h_ h zero):=by simp[aU,cF]
def BQ(o:Option V)(K:V->a_->Prop)(h:a_):Prop:=∃v,o=some v/\K (.u h.e 0) (h_ h v.s)
theorem DM(v:V)(K:V->a_->Prop):BQ (some v) K h↔K (.u h.e 0) (h_ h v.s):=
 ⟨fun⟨_,e,k⟩=>by cases e;exact k,fun k=>⟨v,rfl,k⟩⟩
theorem LL(x:H_)(K:V->a_->Prop):OQ (aU call loc env h (.r x)) K↔BQ (E_ loc env x) K h:=by
 simp[aU,OQ,BQ];cases E_ loc env x with
 |none=>simp
 |some v=>simp[and_assoc]
def BsQ(h:a_)(zero:List V)(places:List (Nat×Nat))(len:Nat)(o:Option (List V))(K:V->a_->Prop):Prop:=∃vs,o=some vs/\OQ (kj h zero places len vs) K
theorem AY(zero:List V)(places:List (Nat×Nat))(len:Nat)(vs:List V)(K:V->a_->Prop):BsQ h zero places len (some vs) K↔OQ (kj h zero places len vs) K:=
 ⟨fun⟨_,e,k⟩=>by cases e;exact k,fun k=>⟨vs,rfl,k⟩⟩
theorem LM(zero:List V)(Z:List (Nat×Nat))(len:Nat)(xs:List H_)(K:V->a_->Prop):
 OQ (aU call loc env h (.b zero Z len xs)) K↔BsQ h zero Z len (eg loc env xs) K:=by
 simp[aU,OQ,BsQ];cases eg loc env xs with
 |none=>simp
 |some vs=>simp
def Ci(f:V->V->Option (V×a_))(a b:Option V)(K:V->a_->Prop):Prop:=∃x y,a=some x/\b=some y/\OQ (f x y) K
theorem xj(f:V->V->Option (V×a_))(x y:V)(K:V->a_->Prop):Ci f (some x) (some y) K↔OQ (f x y) K:=
 ⟨fun⟨_,_,e,e2,k⟩=>by cases e;cases e2;exact k,fun k=>⟨x,y,rfl,rfl,k⟩⟩
theorem LH(zero:List V)(bytes:Nat)(x y:H_)(K:V->a_->Prop):
 OQ (aU call loc env h (.g zero bytes x y)) K↔Ci (wS h zero bytes) (E_ loc env x) (E_ loc env y) K:=by
 simp only[aU,OQ,Ci];cases E_ loc env x with
 |none=>simp
 |some l=>cases E_ loc env y with
  |none=>simp
  |some c=>simp
theorem LN(esz bytes:Nat)(x y:H_)(K:V->a_->Prop):
 OQ (aU call loc env h (.i esz bytes x y)) K↔Ci (jQ h esz bytes) (E_ loc env x) (E_ loc env y) K:=by
 simp only[aU,OQ,Ci];cases E_ loc env x with
 |none=>simp
 |some l=>cases E_ loc env y with
  |none=>simp
  |some c=>simp
theorem LJ(esz:Nat)(x y:H_)(K:V->a_->Prop):
 OQ (aU call loc env h (.q esz x y)) K↔Ci (rP h esz) (E_ loc env x) (E_ loc env y) K:=by
 simp only[aU,OQ,Ci];cases E_ loc env x with
 |none=>simp
 |some l=>cases E_ loc env y with
  |none=>simp
  |some c=>simp
def CfQ(call:aI)(f:Nat)(o:Option (List V))(h:a_)(K:V->a_->Prop):Prop:=∃vs,o=some vs/\OQ (call f vs h) K
theorem AW(f:Nat)(vs:List V)(K:V->a_->Prop):CfQ call f (some vs) h K↔OQ (call f vs h) K:=
 ⟨fun⟨_,e,k⟩=>by cases e;exact k,fun k=>⟨vs,rfl,k⟩⟩
theorem LK(f:Nat)(Z:List H_)(K:V->a_->Prop):OQ (aU call loc env h (.d f Z)) K↔CfQ call f (eg loc env Z) h K:=by
 simp[aU,OQ,CfQ];cases eg loc env Z with
 |none=>simp
 |some vs=>simp
def FQ(call:aI)(h:a_)(o:Option V)(vs:Option (List V))(K:V->a_->Prop):Prop:=
 ∃us,vs=some us/\((∃f first caps,o=some (.E (.func f) first caps)/\f<1099511627776/\OQ (call f (first++us++caps) h) K)\/(∃b,o=some (.yld b)/\OQ (call (YB+b) us h) K))
theorem DH(f:Nat)(first caps us:List V)(K:V->a_->Prop):FQ call h (some (.E (.func f) first caps)) (some us) K↔(f<1099511627776/\OQ (call f (first++us++caps) h) K):=
 ⟨fun⟨_,e2,k⟩=>(by
  cases e2;obtain⟨_,_,_,e,k⟩|⟨_,e,_⟩:=k;cases e;exact k;cases e),fun k=>⟨us,rfl,.inl ⟨f,first,caps,rfl,k⟩⟩⟩
theorem LI(x:H_)(xs:List H_)(K:V->a_->Prop):OQ (aU call loc env h (.e x xs)) K↔FQ call h (E_ loc env x) (eg loc env xs) K:=by
 simp only[aU,OQ,FQ];constructor;rintro⟨v,h',e,k⟩;split at e;rename_i f first Z hx
 cases hy:eg loc env xs with
 |none=>rw[hy]at e;cases e
 |some us=>rw[hy]at e;simp only[]at e;cases hb:Nat.blt f YB;grind;rw[hb]at e;simp only[cond_true]at e;exact⟨us,rfl,.inl ⟨f,first,Z,hx,(WB ..).mp hb,v,h',e,k⟩⟩
 grind;cases e;rintro⟨us,e2,⟨f,first,Z,e1,hf,v,h',e,k⟩|⟨b,e1,v,h',e,k⟩⟩;refine⟨v,h',?_,k⟩;rw[e1,e2];have hb:Nat.blt f YB=true:=(WB ..).mpr hf;simp only[hb,cond_true];exact e;grind
def NU(h:a_)(zero:List V)(o:Option V)(K:V->a_->Prop):Prop:=∃v,o=some v/\OQ (B3 h zero v) K
theorem xr(zero:List V)(v:V)(K:V->a_->Prop):NU h zero (some v) K↔OQ (B3 h zero v) K:=
 ⟨fun⟨_,e,k⟩=>by cases e;exact k,fun k=>⟨v,rfl,k⟩⟩
theorem Hv(zero:List V)(x:H_)(K:V->a_->Prop):OQ (aU call loc env h (.l zero x)) K↔NU h zero (E_ loc env x) K:=by
 simp[aU,OQ,NU];cases E_ loc env x with
 |none=>simp
 |some d=>simp
def WS(call:aI)(l:List n_)(loc:List V)(env:T V)(h:a_)(Q:T V->a_->Prop):Prop:=∃env' h',dQ call l loc env h=.b .a env' h'/\Q env' h'
theorem qM(Q:T V->a_->Prop):WS call [] loc env h Q↔Q env h:=
 ⟨fun⟨_,_,e,q⟩=>by cases e;exact q,fun q=>⟨env,h,rfl,q⟩⟩
def kl(call:aI)(l:List n_)(loc:List V)(env:T V)(Q:T V->a_->Prop):V->a_->Prop:=fun v h=>WS call l (v::loc) env h Q
def kv(call:aI)(l:List n_)(loc:List V)(env:T V)(d:Nat)(Q:T V->a_->Prop):V->a_->Prop:=fun v h=>WS call l loc (env.A_ d v) h Q
theorem qA(l:List n_)(Q:T V->a_->Prop)(v:V):kl call l loc env Q v h↔WS call l (v::loc) env h Q:=Yc
theorem qz(l:List n_)(d:Nat)(Q:T V->a_->Prop)(v:V):kv call l loc env d Q v h↔WS call l loc (env.A_ d v) h Q:=Yc
theorem FB(o:Q8)(l:List n_)(Q:T V->a_->Prop):WS call (⟨none,o,none⟩::l) loc env h Q↔OQ (aU call loc env h o) (kl call l loc env Q):=by
 simp[WS,cT,V6,OQ,kl];cases aU call loc env h o with
 |none=>simp
 |some r=>let⟨v,Z⟩:=r;simp[kS,iH,and_assoc]
theorem FA(o:Q8)(d:Nat)(l:List n_)(Q:T V->a_->Prop):WS call (⟨none,o,some d⟩::l) loc env h Q↔OQ (aU call loc env h o) (kv call l loc env d Q):=by
 simp[WS,cT,V6,OQ,kv];cases aU call loc env h o with
 |none=>simp
 |some r=>let⟨v,Z⟩:=r;simp[kS,iH,and_assoc]
def GQ(o:Option V)(want:Bool)(A B:Prop):Prop:=(∃b,o=some (.h b)/\if b=want then A else B)\/((∃l,o=some (.D l))/\B)
theorem qc(b want:Bool)(A B:Prop):GQ (some (.h b)) want A B↔if b=want then A else B:=
 ⟨fun x=>(by
  obtain⟨_,e,k⟩|⟨⟨_,e⟩,_⟩:=x;cases e;exact k;cases e),fun k=>.inl ⟨b,rfl,k⟩⟩
theorem Cl(t:List V)(want:Bool)(A B:Prop):GQ (some (.D t)) want A B↔B:=
 ⟨fun x=>(by
  obtain⟨_,e,k⟩|⟨_,k⟩:=x;cases e;exact k),fun k=>.inr ⟨⟨t,rfl⟩,k⟩⟩
def GS(o:Option V)(want:Bool)(call:aI)(p:Q8)(l:List n_)(loc:List V)(env:T V)(h:a_)(Q:T V->a_->Prop):Prop:=
 GQ o want (OQ (aU call loc env h p) (kl call l loc env Q)) (WS call l (.D []::loc) env h Q)
theorem Dz(b want:Bool)(p:Q8)(l:List n_)(Q:T V->a_->Prop):GS (some (.h b)) want call p l loc env h Q↔
 if b=want then OQ (aU call loc env h p) (kl call l loc env Q)else WS call l (.D []::loc) env h Q:=qc _ _ _ _
theorem Jy(t:List V)(want:Bool)(p:Q8)(l:List n_)(Q:T V->a_->Prop):GS (some (.D t)) want call p l loc env h Q↔WS call l (.D []::loc) env h Q:=Cl _ _ _ _
def GV(o:Option V)(want:Bool)(call:aI)(p:Q8)(d:Nat)(l:List n_)(loc:List V)(env:T V)(h:a_)(Q:T V->a_->Prop):Prop:=
 GQ o want (OQ (aU call loc env h p) (kv call l loc env d Q)) (WS call l loc (env.A_ d (.D [])) h Q)
theorem Dy(b want:Bool)(p:Q8)(d:Nat)(l:List n_)(Q:T V->a_->Prop):GV (some (.h b)) want call p d l loc env h Q↔
 if b=want then OQ (aU call loc env h p) (kv call l loc env d Q)else WS call l loc (env.A_ d (.D [])) h Q:=qc _ _ _ _
theorem Jx(t:List V)(want:Bool)(p:Q8)(d:Nat)(l:List n_)(Q:T V->a_->Prop):GV (some (.D t)) want call p d l loc env h Q↔WS call l loc (env.A_ d (.D [])) h Q:=Cl _ _ _ _
theorem OS(x:H_)(Z:Bool)(o:Q8)(l:List n_)(Q:T V->a_->Prop):WS call (⟨some (x,Z),o,none⟩::l) loc env h Q↔GS (E_ loc env x) Z call o l loc env h Q:=by
 simp only[WS,cT,V6,OQ,GQ,GS,kl];cases E_ loc env x with
 |none=>simp
 |some b=>
  cases b with
  |h b=>
   have hb:(!(xor b Z))=decide (b=Z):=by grind
   simp only[hb];by_cases K:b=Z;simp only[K,decide_true];cases aU call loc env h o with
   |none=>simp
   |some r=>let⟨v,h'⟩:=r;simp[kS,iH,and_assoc]
   simp only[K,decide_false];simp[K,kS,iH]
  |D t=>simp[kS,iH]
  |_=>simp
theorem Mg(x:H_)(Z:Bool)(o:Q8)(d:Nat)(l:List n_)(Q:T V->a_->Prop):WS call (⟨some (x,Z),o,some d⟩::l) loc env h Q↔GV (E_ loc env x) Z call o d l loc env h Q:=by
 simp only[WS,cT,V6,OQ,GQ,GV,kv];cases E_ loc env x with
 |none=>simp
 |some b=>
  cases b with
  |h b=>
   have hb:(!(xor b Z))=decide (b=Z):=by grind
   simp only[hb];by_cases K:b=Z;simp only[K,decide_true];cases aU call loc env h o with
   |none=>simp
   |some r=>let⟨v,h'⟩:=r;simp[kS,iH,and_assoc]
   simp only[K,decide_false];simp[K,kS,iH]
  |D t=>simp[kS,iH]
  |_=>simp
def W(call:aI)(c:IC)(env:T V)(h:a_)(Q:Ex->T V->a_->Prop):Prop:=∃e env' h',P1 call c env h=.b e env' h'/\Q e env' h'
def sP(call:aI)(b:IC)(Q:Ex->T V->a_->Prop):Ex->T V->a_->Prop:=fun e env h=>match e with
 |.a=>W call b env h Q
 |e=>Q e env h
theorem fT(b:IC)(Q:Ex->T V->a_->Prop):sP call b Q .a env h↔W call b env h Q:=Yc
theorem vx(b:IC)(Q:Ex->T V->a_->Prop):sP call b Q .d env h↔Q .d env h:=Yc
theorem sM(b:IC)(i:Nat)(Q:Ex->T V->a_->Prop):sP call b Q (.c i) env h↔Q (.c i) env h:=Yc
theorem sI(b:IC)(i:Nat)(Q:Ex->T V->a_->Prop):sP call b Q (.b i) env h↔Q (.b i) env h:=Yc
theorem Cg(Q:Ex->T V->a_->Prop):W call .f env h Q↔Q .a env h:=
 ⟨fun⟨_,_,_,e,q⟩=>by cases e;exact q,fun q=>⟨_,_,_,rfl,q⟩⟩
theorem xf(Q:Ex->T V->a_->Prop):W call .q env h Q↔Q .d env h:=
 ⟨fun⟨_,_,_,e,q⟩=>by cases e;exact q,fun q=>⟨_,_,_,rfl,q⟩⟩
theorem Jd(i:Nat)(Q:Ex->T V->a_->Prop):W call (.k i) env h Q↔Q (.c i) env h:=
 ⟨fun⟨_,_,_,e,q⟩=>by cases e;exact q,fun q=>⟨_,_,_,rfl,q⟩⟩
theorem Jc(i:Nat)(Q:Ex->T V->a_->Prop):W call (.p i) env h Q↔Q (.b i) env h:=
 ⟨fun⟨_,_,_,e,q⟩=>by cases e;exact q,fun q=>⟨_,_,_,rfl,q⟩⟩
theorem W.mono{c:IC}{Q K:Ex->T V->a_->Prop}(a:W call c env h Q)(b:∀e env h,Q e env h->K e env h):W call c env h K:=by let⟨e,Z,h',x,q⟩:=a;exact⟨e,Z,h',x,b _ _ _ q⟩
theorem yf(a b:IC):P1 call (.e a b) env h=match P1 call a env h with
      |.b .a env h=>P1 call b env h
      |r=>r:=rfl
theorem xe(a b:IC)(Q:Ex->T V->a_->Prop):W call (.e a b) env h Q↔W call a env h (sP call b Q):=by
 constructor;rintro⟨e,Z,h',x,q⟩;rw[yf]at x;split at x;rename_i K h1 h2;exact⟨.a,K,h1,h2,e,Z,h',x,q⟩;rename_i h2;refine⟨e,Z,h',x,?_⟩;cases e with
 |a=>exact absurd x (h2 Z h')
 |_=>exact q
 rintro⟨e,K,h1,x,q⟩;cases e with
 |a=>let⟨e,Z,h',y,q⟩:=q;exact⟨e,Z,h',by rw[yf,x];exact y,q⟩
 |_=>exact⟨_,K,h1,by rw[yf,x],q⟩
def Ma(o:Option V)(call:aI)(a b:IC)(env:T V)(h:a_)(Q:Ex->T V->a_->Prop):Prop:=∃t,o=some (.h t)/\if t=true then W call a env h Q else W call b env h Q
theorem oQ(t:Bool)(a b:IC)(Q:Ex->T V->a_->Prop):Ma (some (.h t)) call a b env h Q↔if t=true then W call a env h Q else W call b env h Q:=
 ⟨fun⟨_,e,k⟩=>by cases e;exact k,fun k=>⟨t,rfl,k⟩⟩
theorem Ch(x:H_)(a b:IC)(Q:Ex->T V->a_->Prop):W call (.d x a b) env h Q↔Ma (E_ [] env x) call a b env h Q:=by
 have eq:P1 call (.d x a b) env h=match E_ [] env x with
  |some (.h t)=>bif t then P1 call a env h else P1 call b env h
  |_=>.a:=rfl
 constructor;rintro⟨e,Z,K,y,q⟩;rw[eq]at y;split at y;rename_i t ht;refine⟨t,ht,?_⟩;cases t;exact⟨e,Z,K,y,q⟩;exact⟨e,Z,K,y,q⟩;cases y;rintro⟨t,ht,k⟩;cases t;let⟨e,Z,K,y,q⟩:=k;exact⟨e,Z,K,by rw[eq,ht];exact y,q⟩;let⟨e,Z,K,y,q⟩:=k;exact⟨e,Z,K,by rw[eq,ht];exact y,q⟩
def uM(id:Nat)(Q:Ex->T V->a_->Prop):Ex->T V->a_->Prop:=fun e env h=>match e with
 |.c i=>if i=id then Q .a env h else Q (.c i) env h
 |e=>Q e env h
theorem rH(id:Nat)(Q:Ex->T V->a_->Prop):uM id Q .a env h↔Q .a env h:=Yc
theorem uL(id:Nat)(Q:Ex->T V->a_->Prop):uM id Q .d env h↔Q .d env h:=Yc
theorem rI(id i:Nat)(Q:Ex->T V->a_->Prop):uM id Q (.b i) env h↔Q (.b i) env h:=Yc
theorem ju(id i:Nat)(Q:Ex->T V->a_->Prop):uM id Q (.c i) env h↔if i=id then Q .a env h else Q (.c i) env h:=Yc
theorem Du(id:Nat)(a:IC)(Q:Ex->T V->a_->Prop):W call (.h id a) env h Q↔W call a env h (uM id Q):=by
 have eq:P1 call (.h id a) env h=match P1 call a env h with
  |.b (.c i) env h=>bif Nat.beq i id then .b .a env h else .b (.c i) env h
  |r=>r:=rfl
 constructor;rintro⟨e,K,h',x,q⟩;rw[eq]at x;split at x;rename_i i Z h1 h2;refine⟨_,_,_,h2,?_⟩;rw[ju];by_cases hi:i=id;subst hi;simp at x;obtain⟨rfl,rfl,rfl⟩:=x;simpa using q;rw[if_neg hi];have:Nat.beq i id=false:=by cases hb:Nat.beq i id;rfl;exact absurd (Wb hb) hi
 rw[this]at x;cases x;exact q;rename_i h2;refine⟨e,K,h',x,?_⟩;cases e with
 |c i=>exact absurd x (h2 i K h')
 |_=>exact q
 rintro⟨e,Z,h1,x,q⟩;cases e with
 |c i=>
  rw[ju]at q;by_cases hi:i=id;rw[if_pos hi]at q;exact⟨.a,Z,h1,by rw[eq,x];subst hi;simp,q⟩;rw[if_neg hi]at q;have:Nat.beq i id=false:=by cases hb:Nat.beq i id;rfl;exact absurd (Wb hb) hi
  exact⟨.c i,Z,h1,by rw[eq,x];simp[this],q⟩
 |_=>exact⟨_,Z,h1,by rw[eq,x],q⟩
theorem xi(l:List n_)(Q:Ex->T V->a_->Prop):W call (.n l) env h Q↔WS call l [] env h (Q .a):=by
 constructor;rintro⟨e,Z,h',x,q⟩;have hn:∀(l:List n_)(K:List V)(env:T V)(h:a_),dQ call l K env h=.b e Z h'->e=.a:=by
  intro l;induction l with
  |nil=>intro K env h x;cases x;rfl
  |cons s l ih=>intro K env h x;rw[cT]at x;split at x;grind;exact ih _ _ _ x;cases x
 have:=hn _ _ _ _ x;subst this;exact⟨Z,h',x,q⟩;rintro⟨Z,h',x,q⟩;exact⟨_,_,_,x,q⟩
def X?(body:T V->a_->T6):Nat->T V->a_->T6
 |0,env,h=>.b .a env h
 |n+1,env,h=>match body env h with
  |.b .a env h=>X? body n env h
  |r=>r
theorem Kt(body:T V->a_->T6):∀(a b:Nat)(env:T V)(h:a_),X? body (a+b) env h=match X? body a env h with
 |.b .a env h=>X? body b env h
 |r=>r:=by
 intro a;induction a with
 |zero=>intro b env h;simp[X?]
 |succ a ih=>
  intro b env h;rw[Nat.succ_add];simp[X?];cases body env h with
  |a=>rfl
  |b e env1 h1=>cases e with
   |a=>exact ih b env1 h1
   |_=>rfl
theorem rY(body:T V->a_->T6)(k:Nat):∀(env:T V)(h:a_),W4 body k env h=X? body (2^k) env h:=by
 induction k with
 |zero=>
  intro env h;show body env h=X? body 1 env h;simp[X?];cases body env h with
  |a=>rfl
  |b e env1 h1=>cases e<;>rfl
 |succ k ih=>
  intro env h;show(match W4 body k env h with
   |.b .a env h=>W4 body k env h
   |r=>r)=_
  rw[Nat.pow_succ,Nat.mul_two,Kt,ih];cases X? body (2^k) env h with
  |a=>rfl
  |b e env1 h1=>cases e with
   |a=>exact ih env1 h1
   |_=>rfl
def nT(I:Nat->T V->a_->Prop)(k:Nat)(Q:Ex->T V->a_->Prop):Ex->T V->a_->Prop:=fun e env h=>match e with
 |.a=>∃k',k'<k/\I k' env h
 |e=>Q e env h
theorem LA(I:Nat->T V->a_->Prop)(k:Nat)(Q:Ex->T V->a_->Prop):nT I k Q .a env h↔∃k',k'<k/\I k' env h:=Yc
theorem tq(I:Nat->T V->a_->Prop)(k:Nat)(Q:Ex->T V->a_->Prop):nT I k Q .d env h↔Q .d env h:=Yc
theorem kN(I:Nat->T V->a_->Prop)(k i:Nat)(Q:Ex->T V->a_->Prop):nT I k Q (.c i) env h↔Q (.c i) env h:=Yc
theorem qT(I:Nat->T V->a_->Prop)(k i:Nat)(Q:Ex->T V->a_->Prop):nT I k Q (.b i) env h↔Q (.b i) env h:=Yc
theorem LU{body:T V->a_->T6}(I:Nat->T V->a_->Prop)(Q:Ex->T V->a_->Prop)
 (hr:∀k env h,I k env h->∃e env' h',body env h=.b e env' h'/\nT I k Q e env' h'):
 ∀(n k:Nat)(env:T V)(h:a_),I k env h->k<n->∃e env' h',X? body n env h=.b e env' h'/\e≠.a/\Q e env' h':=by
 intro n;induction n with
 |zero=>intro k env h _ hk;omega
 |succ n ih=>
  intro k env h hI hk;let⟨e,Z,h1,x,q⟩:=hr k env h hI;simp only[X?,x];cases e with
  |a=>let⟨k',K,q⟩:=q;exact ih k' Z h1 q oM
  |_=>exact⟨_,_,_,rfl,iS,q⟩
theorem aA{body:IC}{Q:Ex->T V->a_->Prop}(I:Nat->T V->a_->Prop)(n:Nat)(K:n<281474976710656)(h0:I n env h)
 (hr:∀k env h,I k env h->W call body env h (nT I k Q)):W call (.o body) env h Q:=by
 have eq:P1 call (.o body) env h=match W4 (P1 call body) 48 env h with
  |.b .a _ _=>.a
  |r=>r:=rfl
 let⟨e,Z,h',x,ne,q⟩:=LU I Q hr (2^48) n env h h0 (eV K);refine⟨e,Z,h',?_,q⟩;rw[eq,rY,x];cases e with
 |a=>exact absurd rfl ne
 |_=>rfl
theorem sw{c r:IC}{l:Nat}{Q:Ex->T V->a_->Prop}(I:Nat->T V->a_->Prop)(n:Nat)(hn:n<281474976710656)
 (h0:W call c env h (fun e env' h'=>match e with
  |.b i=>i=l/\I n env' h'
  |e=>Q e env' h'))
 (hr:∀k env h,I k env h->W call r env h (fun e env' h'=>match e with
  |.b i=>i=l/\∃k',k'<k/\I k' env' h'
  |e=>Q e env' h')):W call (.j c l r) env h Q:=by
 have eq:P1 call (.j c l r) env h=match P1 call c env h with
  |.b (.b i) env h=>bif Nat.beq i l then
   (match W4 (fun env h=>match P1 call r env h with
    |.b (.b i) env h=>bif Nat.beq i l then .b .a env h else .b (.b i) env h
    |.b .a env h=>.b (.b l) env h
    |r=>r) 48 env h with
    |.b .a _ _=>.a
    |.b (.b i) env h=>bif Nat.beq i l then .b .a env h else .a
    |r=>r)
   else .a
  |r=>r:=rfl
 let⟨e,K,h1,x,q⟩:=h0;cases e with
 |b i=>
  obtain⟨rfl,q⟩:=q;let⟨e,env',h',y,ne,q⟩:=LU (body:=fun env h=>match P1 call r env h with
            |.b (.b j) env h=>bif Nat.beq j i then .b .a env h else .b (.b j) env h
            |.b .a env h=>.b (.b i) env h
            |r=>r) I (fun e env' h'=>match e with
             |.b j=>j=i/\Q .a env' h'
             |e=>Q e env' h') (fun k env h hI=>by
   let⟨e,Z,h2,z,q⟩:=hr k env h hI;simp[z];cases e with
   |a=>exact⟨_,_,_,rfl,rfl,q⟩
   |b j=>obtain⟨rfl,k',hk,q⟩:=q;exact⟨.a,Z,h2,iS,k',hk,q⟩
   |_=>exact⟨_,_,_,rfl,q⟩) (2^48) n K h1 q (eV hn)
  cases e with
  |a=>exact absurd rfl ne
  |b j=>obtain⟨rfl,q⟩:=q;refine⟨.a,env',h',?_,q⟩;rw[eq,x];simp only[XU,cond_true,rY];rw[y];simp
  |d=>refine⟨.d,env',h',?_,q⟩;rw[eq,x];simp only[XU,cond_true,rY];rw[y]
  |c j=>refine⟨.c j,env',h',?_,q⟩;rw[eq,x];simp only[XU,cond_true,rY];rw[y]
 |a=>exact⟨_,_,_,by rw[eq,x],q⟩
 |d=>exact⟨_,_,_,by rw[eq,x],q⟩
 |c j=>exact⟨_,_,_,by rw[eq,x],q⟩
theorem Kl(l:List n_):∀(i:Nat)(Z:List V)(h:a_),Q7 call env [] l i Z h=some (l.map fun s=>(s,none),h):=by
 induction l with
 |nil=>intro i Z h;rfl
 |cons s l ih=>intro i Z h;simp[Q7,ih]
def WD(call:aI)(env:T V)(l:List DS)(loc:List V)(hs:List a_)(h:a_)(K:List V->List a_->Prop):Prop:=
 ∃loc' hs',iY call env l loc hs h=some (loc',hs')/\K loc' hs'
theorem Je(hs:List a_)(K:List V->List a_->Prop):WD call env [] loc hs h K↔K loc hs:=
 ⟨fun⟨_,_,e,k⟩=>by cases e;exact k,fun k=>⟨_,_,rfl,k⟩⟩
def kd(call:aI)(env:T V)(l:List DS)(loc:List V)(hs:List a_)(h:a_)(e:Bool)(K:List V->List a_->Prop):V->a_->Prop:=fun v h'=>
 if e=true then WD call env l (v::loc) (h'::hs) h' K else WD call env l (v::loc) hs h K
theorem Om(l:List DS)(Z:List a_)(h0:a_)(K:List V->List a_->Prop)(v:V):kd call env l loc Z h0 true K v h↔WD call env l (v::loc) (h::Z) h K:=by simp[kd]
theorem Oo(l:List DS)(Z:List a_)(h0:a_)(K:List V->List a_->Prop)(v:V):kd call env l loc Z h0 false K v h↔WD call env l (v::loc) Z h0 K:=by simp[kd]
theorem OT(o:Q8)(l:List DS)(Z:List a_)(K:List V->List a_->Prop):WD call env ((⟨none,o,none⟩,none)::l) loc Z h K↔
 OQ (aU call loc env h o) (kd call env l loc Z h (j_ o) K):=by
 simp only[WD,iK,V6,OQ,kd];cases aU call loc env h o with
 |none=>simp
 |some r=>let⟨v,h'⟩:=r;cases j_ o<;>simp[and_assoc]
def GD(o:Option V)(want:Bool)(call:aI)(env:T V)(p:Q8)(l:List DS)(loc:List V)(hs:List a_)(h:a_)(e:Bool)(K:List V->List a_->Prop):Prop:=
 GQ o want (OQ (aU call loc env h p) (kd call env l loc hs h e K)) (if e=true then WD call env l (.D []::loc) (h::hs) h K else WD call env l (.D []::loc) hs h K)
theorem DD(b want:Bool)(p:Q8)(l:List DS)(hs:List a_)(e:Bool)(K:List V->List a_->Prop):GD (some (.h b)) want call env p l loc hs h e K↔
 if b=want then OQ (aU call loc env h p) (kd call env l loc hs h e K)else(if e=true then WD call env l (.D []::loc) (h::hs) h K else WD call env l (.D []::loc) hs h K):=qc _ _ _ _
theorem JA(t:List V)(want:Bool)(p:Q8)(l:List DS)(hs:List a_)(e:Bool)(K:List V->List a_->Prop):GD (some (.D t)) want call env p l loc hs h e K↔
 (if e=true then WD call env l (.D []::loc) (h::hs) h K else WD call env l (.D []::loc) hs h K):=Cl _ _ _ _
theorem OU(x:H_)(Z:Bool)(o:Q8)(l:List DS)(hs:List a_)(K:List V->List a_->Prop):WD call env ((⟨some (x,Z),o,none⟩,none)::l) loc hs h K↔
 GD (E_ loc env x) Z call env o l loc hs h (j_ o) K:=by
 simp only[WD,iK,V6,OQ,GQ,GD,kd];cases E_ loc env x with
 |none=>simp
 |some b=>
  cases b with
  |h b=>
   have hb:(!(xor b Z))=decide (b=Z):=by grind
   simp only[hb];by_cases hw:b=Z;grind;grind
  |D t=>cases j_ o<;>simp
  |_=>simp
theorem dD(s:n_)(u:V)(c:List V)(l:List DS)(Z:List a_)(K:List V->List a_->Prop):WD call env ((s,some (u,c))::l) loc Z h K↔
 ce loc env s.a u c=true/\WD call env l (u::loc) Z h K:=by
 simp[WD,iK];cases ce loc env s.a u c<;>simp
def DE(call:aI)(l:List n_)(reads:List (Nat×Nat×Nat))(sets:List (Nat×Nat))(env:T V)(Q:T V->a_->Prop)(loc:List V)(hs:List a_):Prop:=
 reads.all (nU call env l loc hs)=true/\∃env' h' hs',jn l.length loc sets env=some env'/\hs=h'::hs'/\Q env' h'
theorem Lf(l:List n_)(ac R:List Nat)(Z:List (Nat×Nat×Nat))(K:List (Nat×Nat))(Q:Ex->T V->a_->Prop){dl:List DS}{h1:a_}(hl:Q7 call env ac l 0 [] h=some (dl,h1)):
 WD call env dl [] [h1] h1 (DE call l Z K env (Q .a))->W call (.i l ac R Z K) env h Q:=by
 rintro⟨ak,hs,e,hr,ae,h',af,hset,rfl,q⟩;refine⟨.a,ae,h',?_,q⟩;show evD call l ac Z K env h=_;unfold evD;simp[hl,e,hr,hset]
theorem v8(o:Q8)(v:V):gM call loc env o v []=true↔True:=by simp[gM]
def kr(v:V):V->a_->Prop:=fun u _=>R1 u v=true
theorem HP(v u:V):kr v u h↔R1 u v=true:=Yc
theorem tw(o:Q8)(v:V)(Z:List a_):gM call loc env o v (h::Z)=true↔OQ (aU call loc env h o) (kr v)/\gM call loc env o v Z=true:=by
 simp only[gM,OQ,VY,kr];cases aU call loc env h o with
 |none=>simp
 |some r=>let⟨u,K⟩:=r;simp
mutual
theorem eK:∀(v:V),R1 v v=true
 |.h b=>by cases b<;>rfl
 |.A k n=>by simp only[R1,ew];cases k<;>simp[kX]
 |.f s=>by simp[R1]
 |.O=>rfl
 |.u _ _=>by simp[R1]
 |.r=>rfl
 |.y _ _ _ _=>by simp[R1]
 |.G _ _ _ _=>by simp[R1]
 |.L=>rfl
 |.nilm=>rfl
 |.map _=>by simp[R1]
 |.yld _=>by simp[R1]
 |.sliceZ _ _=>by simp[R1]
 |.R=>rfl
 |.E _ a c=>by simp[R1,d7 a,d7 c]
 |.nili=>rfl
 |.iface _ v=>by simp[R1,eK v]
 |.B l=>by simp[R1,d7 l]
 |.D l=>by simp[R1,d7 l]
theorem d7:∀(v:List V),nL v v=true
 |[]=>rfl
 |v::l=>by simp[nL,eK v,d7 l]
end
theorem vO(n:Nat):jn n loc [] env=some env:=rfl
theorem Ba(n s i:Nat)(r:List (Nat×Nat)):jn n loc ((s,i)::r) env=match X8 loc (n-i-1)with
 |some v=>jn n loc r (env.A_ s v)
 |none=>none:=by
 rw[eZ];rfl
def ao(call:aI)(f:Nat)(vs:List V)(h:a_)(R:V->a_->Prop):Prop:=OQ (call f vs h) R
theorem aa{f:Nat}{vs:List V}{R K:V->a_->Prop}(d:ao call f vs h R)(k:∀v h',R v h'->K v h'):OQ (call f vs h) K:=d.b k
def RsQ(o:Option (List V))(R:V->a_->Prop)(h:a_):Prop:=∃vs,o=some vs/\R (tG vs) h
theorem jS(vs:List V)(R:V->a_->Prop):RsQ (some vs) R h↔R (tG vs) h:=
 ⟨fun⟨_,e,k⟩=>by cases e;exact k,fun k=>⟨vs,rfl,k⟩⟩
def i9(rs:List RV)(R:V->a_->Prop):Ex->T V->a_->Prop:=fun e env h=>(e=.a\/e=.d)/\RsQ (fO env h rs) R h
theorem xn(rs:List RV)(R:V->a_->Prop):i9 rs R .a env h↔RsQ (fO env h rs) R h:=by simp[i9]
theorem dJ(rs:List RV)(R:V->a_->Prop):i9 rs R .d env h↔RsQ (fO env h rs) R h:=by simp[i9]
theorem jL:fO env h []=some []:=rfl
theorem qD(s:Nat)(rs:List RV):fO env h (.t s::rs)=lh (env.c_ s) (fO env h rs):=by
 simp[fO,evR];cases env.c_ s with
 |none=>rfl
 |some v=>cases fO env h rs<;>rfl
theorem In(s n:Nat)(Z:Bool)(rs:List RV):fO env h (.c s n Z::rs)=lh ((env.c_ s).bind fun v=>jO h n Z v) (fO env h rs):=by
 simp[fO,evR];cases env.c_ s with
 |none=>rfl
 |some p=>
  simp;cases jO h n Z p with
  |none=>rfl
  |some v=>cases fO env h rs<;>rfl
theorem wb:tG []=.D []:=rfl
theorem hJ(v:V):tG [v]=v:=rfl
theorem wa(v u:V)(l:List V):tG (v::u::l)=.D (v::u::l):=rfl
theorem ah{ov:aI}{F:T i_}{f n:Nat}{b:IC}{rs:List RV}{vs:List V}{R:V->a_->Prop}(K:W (ev ov F) b (gR vs 0 .e) h (i9 rs R))
 (hf:F.c_ f=some ⟨n,b,rs⟩:=by exact rfl) (hn:Nat.beq vs.length n=true:=by exact rfl):ao (ev ov F) f vs h R:=by
 let⟨e,Z,h',x,he,rs,hr,q⟩:=K;exact⟨_,_,KT hf hn x he hr,q⟩
end
end Go.Ev
namespace Go.Ev
abbrev ZW:=@Go.Ev.OQ.b
end Go.Ev
