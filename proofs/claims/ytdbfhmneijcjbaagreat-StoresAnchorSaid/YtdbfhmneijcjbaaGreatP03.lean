/- An evaluator of the program, and contracts over it: EvV to EvWa. -/
import Derived.Test.YtdbfhmneijcjbaaGreatP02
set_option linter.unusedSimpArgs false
set_option linter.unusedVariables false
set_option linter.constructorNameAsVariable false
set_option linter.unnecessarySimpa false
noncomputable section
namespace Go.Ev
variable {K : LG -> Prop}
def yy:List Nat->List Nat->Bool
 |[],[]=>true
 |a::l,b::r=>Nat.beq a b&&yy l r
 |_,_=>false
theorem wM:∀{l r:List Nat},yy l r=true->l=r
 |[],[],_=>rfl
 |[],_::_,h=>by cases h
 |_::_,[],h=>by cases h
 |a::l,b::r,h=>by simp only[yy,Vd]at h;rw[Vf h.1,wM h.2]
def bU(P:Program)(C:Cx):IC->Code->Bool
 |.i,.skip=>true
 |.i,.label _=>true
 |.o l,.region _ ops false=>iT P C ops ops.toList l []
 |.f a b,.seq x y=>bU P C a x&&bU P C b y
 |.e x a b,.cond c t e=>nA C [] c x&&bU P C a t&&bU P C b e
 |.d id c,.block id' c'=>Nat.beq id id'&&bU P C c c'
 |.n c,.loop c'=>bU P C c c'
 |.k id,.exit id'=>Nat.beq id id'
 |.p,.ret=>true
 |.j c l r,.scope c'=>bU P C c c'&&(match findLabel c' l with
  |some r'=>bU P C r r'
  |none=>false)
 |.q l,.goto l'=>Nat.beq l l'
 |.h l late R reads sets,.region _ ops true=>MX P C ops l late (bOf ops) R reads sets
 |.u,_=>true
 |.s g ps a b,.rangeFunc g' ps' a' b'=>nA C [] g' g&&yy ps'.toList ps&&ps.all (fun p=>C.a.contains p&&Nat.blt p C.N)&&bU P {C with b:=false} a a'&&bU P {C with b:=false} b b'
 |_,_=>false
def j9:Ex->Exit
 |.a=>.normal
 |.d=>.ret
 |.c id=>.exit id
 |.b l=>.goto l
section
variable {P : Program} {Q : Exit -> Act -> World -> Prop} {a : Act} {w : World} {ro : Option Nat}
theorem yp(n:Nat):(FR ro).room n:=fun _ h=>by simp[Fence.wide]at h
theorem yg{b:Frame}{c:Code}{k:List Item}{cs:List Frame}:
 step P (lone (b.atR a (.code (.scope c)::k)) cs w)=.next (lone (b.atR a (.code c::.inScope c::k)) cs w):=
 step_lone_go (by simp[stepG,stepG.exec,Frame.atR])
theorem tD{b:Frame}{c:Code}{k:List Item}{cs:List Frame}:
 step P (lone (b.atR a (.inScope c::k)) cs w)=.next (lone (b.atR a k) cs w):=
 step_lone_go (by simp[stepG,stepG.exec,Frame.atR])
theorem DD{fr:Frame}{cs:List Frame}(ha:fr.about P w=none):(lone fr cs w).fenced P (FR ro):=fenced_calm (n:=0) trivial (yp _) ha
def ng(ro:Option Nat)(P:Program)(c x:Code)(Q:Exit->Act->World->Prop)(a:Act)(w:World):Prop:=
 ∀(b:Frame)(k:List Item)(cs:List Frame),b.roundOf=ro->∃e a' w',Q e a' w'/\ArrivesIn (Machine.fenced P (FR ro)) P (lone (b.atR a (.code x::.inScope c::k)) cs w) b k cs e a' w'
theorem zJ{c:Code}(h:ng ro P c c Q a w):(Code.scope c).wpIn (FR ro) 0 P Q a w:=fun b k cs hro _ _=>
 let⟨e,a',w',q,r⟩:=h b k cs hro;⟨e,a',w',q,.of_steps (.one (DD rfl) yg) r⟩
theorem uG{c x:Code}(h:x.wpIn (FR ro) 0 P (fun e a' w'=>match e with
 |.goto l=>(match findLabel c l with
  |some r=>ng ro P c r Q a' w'
  |none=>Q (.goto l) a' w')
 |e=>Q e a' w') a w):ng ro P c x Q a w:=by
 intro b k cs ab;let⟨e,af,ae,hq,ac⟩:=h b (.inScope c::k) cs ab trivial (yp _);cases e with
 |normal=>exact⟨.normal,af,ae,hq,StepsIn.trans ac (.one (DD rfl) tD)⟩
 |exit id=>exact⟨.exit id,af,ae,hq,fun k' Z=>ac.1 k' (by simpa[exitTo]using Z),fun hr Z=>ac.2 hr (by simpa[exitTo]using Z)⟩
 |goto l=>
  simp at hq;cases K:findLabel c l with
  |none=>rw[K]at hq;exact⟨.goto l,af,ae,hq,fun k' Z=>ac.1 k' (by simp[gotoIn,K,Z]),fun hr Z=>ac.2 hr (by simp[gotoIn,K,Z])⟩
  |some r=>rw[K]at hq;let⟨e,an,ar,ak,aj⟩:=hq b k cs ab;exact⟨e,an,ar,ak,.of_steps (ac.1 _ (by simp[gotoIn,K])) aj⟩
 |ret=>exact⟨.ret,af,ae,hq,ac⟩
 |panic ch=>exact⟨.panic ch,af,ae,hq,ac⟩
 |outgrown=>exact⟨.outgrown,af,ae,hq,ac⟩
def vD(ro:Option Nat)(P:Program)(c:Code)(Q:Exit->Act->World->Prop)(a:Act)(w:World):Prop:=
 ∀(b:Frame)(k:List Item)(cs:List Frame),b.roundOf=ro->∃e a' w',Q e a' w'/\ArrivesIn (Machine.fenced P (FR ro)) P (lone (b.atR a (.code c::.inLoop c::k)) cs w) b k cs e a' w'
theorem BG{c:Code}(h:vD ro P c Q a w):(Code.loop c).wpIn (FR ro) 0 P Q a w:=fun b k cs hro _ _=>
 let⟨e,a',w',q,r⟩:=h b k cs hro;⟨e,a',w',q,.of_steps (.one (DD rfl) stepR_loop) r⟩
theorem ET{c:Code}(h:c.wpIn (FR ro) 0 P (Exit.then (vD ro P c Q) Q) a w):vD ro P c Q a w:=by
 intro b k cs Z;let⟨e,ab,ac,hq,K⟩:=h b (.inLoop c::k) cs Z trivial (yp _);cases e with
 |normal=>let⟨ak,aj,an,af,ae⟩:=hq b k cs Z;exact⟨ak,aj,an,af,.of_steps (StepsIn.trans K (.one (DD rfl) stepR_inLoop)) ae⟩
 |exit id=>exact⟨_,ab,ac,hq,.pass (x:=.inLoop c) rfl (fun _ _=>.inl iS) K⟩
 |goto l=>exact⟨_,ab,ac,hq,.pass (x:=.inLoop c) rfl (fun _ _=>.inl iS) K⟩
 |ret=>exact⟨_,ab,ac,hq,.pass (x:=.inLoop c) rfl (fun _ _=>.inl iS) K⟩
 |panic ch=>exact⟨_,ab,ac,hq,.pass (x:=.inLoop c) rfl (fun _ _=>.inl iS) K⟩
 |outgrown=>exact⟨_,ab,ac,hq,.pass (x:=.inLoop c) rfl (fun _ _=>.inl iS) K⟩
end
def S?(ro:Option Nat)(w:World):Prop:=∀l,ro=some l->∃r,w.heap[l]? =some (.loop r)
theorem S?.b{ro:Option Nat}{m m':M}{h h':b_}{w w':World}(a:S? ro w)(E:P9 m h w m' h' w'):S? ro w':=by
 intro l hl;let⟨r,hr⟩:=a l hl;let⟨Z,h1,K⟩:=E.n l (We.1 hr).1 _ hr;cases Z with
 |loop r'=>exact⟨r',h1⟩
 |_=>cases K
structure f?(K:LG->Prop)(C:Cx)(ro:Option Nat)(B:Nat)(m:M)(h:b_)(w:World)(env:T V)(a:Act):Prop where
 g:V6 K C.G m
 e:T1 C m env a
 h:r_ m h w
 d:W7 C B m w env a.defers
 b:B<=w.heap.size
 r:S? ro w
def Jk(K:LG->Prop)(C:Cx)(ro:Option Nat)(B:Nat)(m:M)(h:b_)(w:World)(R:Act->World->Prop)(env':T V)(h':b_):Prop:=
 ∀a' w' m',f? K C ro B m' h' w' env' a'->P9 m h w m' h' w'->R a' w'
def No(K:LG->Prop)(C:Cx)(ro:Option Nat)(B:Nat)(ev:T V->b_->S9)(W:(Exit->Act->World->Prop)->Act->World->Prop):Prop:=
 ∀(Q:Exit->Act->World->Prop) env h m a w ex env' h',f? K C ro B m h w env a->ev env h=.b ex env' h'->
  Jk K C ro B m h w (Q (j9 ex)) env' h'->W Q a w
theorem Ih(body:T V->b_->S9)(env:T V)(h:b_):V8 body 0 env h=body env h:=rfl
theorem Ba(body:T V->b_->S9)(k:Nat)(env:T V)(h:b_):V8 body (k+1) env h=match V8 body k env h with
 |.b .a env h=>V8 body k env h
 |r=>r:=rfl
theorem BY{P:Program}{C:Cx}{ro:Option Nat}{B:Nat}{body:T V->b_->S9}{c:Code}(hb:No K C ro B body (fun Q a w=>c.wpIn (FR ro) 0 P Q a w))(Q:Exit->Act->World->Prop):
 ∀(k:Nat) env h m a w ex env' h',f? K C ro B m h w env a->V8 body k env h=.b ex env' h'->
  Jk K C ro B m h w (Exit.then (vD ro P c Q) Q (j9 ex)) env' h'->vD ro P c Q a w:=by
 intro k;induction k with
 |zero=>intro env h m a w ex env' h' Z e hL;exact ET (hb _ env h m a w ex env' h' Z e hL)
 |succ k ih=>
  intro env h m a w ex env' h' Z e hL;rw[Ba]at e;cases h1:V8 body k env h with
  |a=>rw[h1]at e;cases e
  |b ac env1 h2=>
   rw[h1]at e;cases ac with
   |a=>simp at e;refine ih env h m a w .a env1 h2 Z h1 (fun a' w' m' ae E'=>?_);exact ih env1 h2 m' a' w' ex env' h' ae e (fun af an ak ab aj=>hL af an ak ab (E'.a aj))
   |d=>simp only[]at e;cases e;exact ih env h m a w _ _ _ Z h1 hL
   |c id=>simp only[]at e;cases e;exact ih env h m a w _ _ _ Z h1 hL
   |b l=>simp only[]at e;cases e;exact ih env h m a w _ _ _ Z h1 hL
def qG(ro:Option Nat)(P:Program)(c:Code)(Q:Exit->Act->World->Prop):Exit->Act->World->Prop:=fun e a' w'=>match e with
 |.goto l=>(match findLabel c l with
  |some r=>ng ro P c r Q a' w'
  |none=>Q (.goto l) a' w')
 |e=>Q e a' w'
def zW(l:Nat)(r:T V->b_->S9):T V->b_->S9:=fun env h=>match r env h with
 |.b (.b i) env h=>bif Nat.beq i l then .b .a env h else .b (.b i) env h
 |.b .a env h=>.b (.b l) env h
 |r=>r
def Z?(l:Nat):Ex->Exit
 |.a=>.goto l
 |.b i=>if i=l then .normal else .goto i
 |.d=>.ret
 |.c id=>.exit id
theorem Az{P:Program}{C:Cx}{ro:Option Nat}{B:Nat}{body:T V->b_->S9}{c r:Code}{l:Nat}(hf:findLabel c l=some r)(hb:No K C ro B body (fun Q a w=>r.wpIn (FR ro) 0 P Q a w))(Q:Exit->Act->World->Prop):
 ∀(k:Nat) env h m a w ex env' h',f? K C ro B m h w env a->V8 (zW l body) k env h=.b ex env' h'->
  Jk K C ro B m h w (qG ro P c Q (Z? l ex)) env' h'->ng ro P c r Q a w:=by
 intro k;induction k with
 |zero=>
  intro env h m a w ex env' h' hC e hL;rw[Ih]at e;unfold zW at e;cases h1:body env h with
  |a=>rw[h1]at e;cases e
  |b Z env1 h2=>
   rw[h1]at e;have fin:j9 Z=Z? l ex->env1=env'->h2=h'->ng ro P c r Q a w:=by rintro e1 rfl rfl;refine uG (hb (qG ro P c Q) env h m a w Z env1 h2 hC h1 ?_);rw[e1];exact hL
   cases Z with
   |a=>simp only[]at e;cases e;exact fin (by simp[Z?,j9]) rfl rfl
   |d=>simp only[]at e;cases e;exact fin rfl rfl rfl
   |c id=>simp only[]at e;cases e;exact fin rfl rfl rfl
   |b i=>
    simp at e;cases hb:Nat.beq i l;rw[hb]at e;simp only[cond_false]at e;cases e;exact fin (by
     have:i≠l:=by intro q;subst q;simp at hb
     simp[Z?,j9,this]) rfl rfl
    rw[hb]at e;simp only[cond_true]at e;cases e;exact fin (by have:=Vf hb;subst this;rfl) rfl rfl
 |succ k ih=>
  intro env h m a w ex env' h' hC e hL;rw[Ba]at e;cases h1:V8 (zW l body) k env h with
  |a=>rw[h1]at e;cases e
  |b Z env1 h2=>
   rw[h1]at e;cases Z with
   |a=>simp at e;refine ih env h m a w .a env1 h2 hC h1 (fun a' w' m' ac E'=>?_);simp[Z?,qG,hf];exact ih env1 h2 m' a' w' ex env' h' ac e (fun ae ak aj ab af=>hL ae ak aj ab (E'.a af))
   |d=>simp only[]at e;cases e;exact ih env h m a w _ _ _ hC h1 hL
   |c id=>simp only[]at e;cases e;exact ih env h m a w _ _ _ hC h1 hL
   |b l=>simp only[]at e;cases e;exact ih env h m a w _ _ _ hC h1 hL
def ZG(P:Program)(G:Nat)(g:LG):Prop:=
 bU P ⟨G,g.a,g.N,false⟩ g.c g.r.assign=true/\bU P ⟨G,g.a,g.N,false⟩ g.d g.r.body=true/\g.r.params.toList=g.b/\g.r.tmps.size=g.N/\
 (∀p∈g.b,g.a.contains p=true/\p<g.N)/\g.a.contains U7=false
theorem W7.y{C:Cx}{B:Nat}{m:M}{w:World}{env:T V}{ds:List Deferred}(D:W7 C B m w env ds):∀d∈ds,d.target≠.collected w.heap.size:=by
 have key:∀l,R9 B m w l->∀d∈l,d.target≠.collected w.heap.size:=by
  intro l;induction l with
  |nil=>intro _ d Z;simp at Z
  |cons x l ih=>rintro⟨⟨r,h1,h2,h3,_⟩,t⟩ d Z;obtain rfl|Z:=Vo.1 Z;grind;exact ih t d Z
 unfold W7 at D;split at D;obtain⟨d1,d,d2,rfl,⟨f,first,caps,ab,A,C',_,_,Z,_⟩,K⟩:=D;intro x hx;rw[Vc,Vo]at hx;obtain q|rfl|q:=hx;exact key _ K x (Vc.2 (.inl q));grind;exact key _ K x (Vc.2 (.inr q));exact key _ D
theorem nj{P:Program}{w:World}{fn:FuncId}{tmps:Array Value}{ps:Array Tmp}{assign body:Code}{l:Nat}{r:Loop}(h:w.heap[l]? =some (.loop r)):
 (Instr.enterLoop fn tmps ps assign body (some l)).run P w=
  .ok (w.heap.size,[]) (w.alloc (.loop {state:=.ready,pending:=none,fn,tmps,params:=ps,assign,body,defers:=r.defers})):=by
 unfold Instr.enterLoop;simp[run_getLoop h]
theorem Ce{P:Program}{C:Cx}{ro:Option Nat}{B:Nat}{m:M}{h:b_}{w:World}{env:T V}{a:Act}(hC:f? K C ro B m h w env a)(fn:FuncId)(ps:Array Tmp)(assign body:Code):
 ∃(l:Nat)(Z:List Deferred)(w1:World)(df:Nat),(Instr.enterLoop fn a.tmps ps assign body ro).run P w=.ok (l,Z) w1/\
  (∀i,i<w.heap.size->w1.heap[i]? =w.heap[i]?)/\w.heap.size<=l/\w.heap.size<=w1.heap.size/\w1.os=w.os/\w1.tape=w.tape/\w1.output=w.output/\
  w1.heap[l]? =some (.loop {state:=.ready,pending:=none,fn,tmps:=a.tmps,params:=ps,assign,body,defers:=df})/\
  (Z=[]\/(Z=[{target:=.collected w.heap.size,args:= #[]}]/\w1.heap[w.heap.size]? =some (.deferred (some []))/\l≠w.heap.size)):=by
 cases ro with
 |none=>refine⟨w.heap.size+1,_,_,w.heap.size,run_enterLoop_outer fn a.tmps ps assign body,fun i hi=>?_,oM,by simp;omega,rfl,rfl,rfl,?_,.inr ⟨rfl,?_,oM⟩⟩;rw[heap_alloc_old _ _ _ oO,heap_alloc_old _ _ _ hi];have:=World.alloc_heap_new (w.alloc (.deferred (some []))) (.loop {state:=.ready,pending:=none,fn,tmps:=a.tmps,params:=ps,assign,body,defers:=w.heap.size});rwa[World.size_alloc]at this;rw[heap_alloc_old _ _ _ iS];exact World.alloc_heap_new w _
 |some lo=>let⟨r,hr⟩:=hC.r lo rfl;refine⟨w.heap.size,_,_,r.defers,nj hr,fun i hi=>heap_alloc_old _ _ _ hi,Ve _,iS,rfl,rfl,rfl,World.alloc_heap_new w _,.inl rfl⟩
theorem kj{P:Program}{C:Cx}{ro:Option Nat}{B:Nat}{call:aL}(hcall:fu P K C.G call)(hK:∀g,ZG P C.G g→K g)(hro:C.b=true→ro=none):∀(ic:IC)(c:Code),bU P C ic c=true→No K C ro B (O_ call ic) (fun Q a w=>c.wpIn (FR ro) 0 P Q a w):=by
 intro ic;induction ic with
 |i=>
  intro c hc Q env h m a w ex env' h' hC e hL;cases e;cases c<;>simp[bU]at hc
  exact wpIn_skip (hL a w m hC (P9.b _ _ _));exact wpIn_label (hL a w m hC (P9.b _ _ _))
 |o l=>
  intro c hc Q env h m a w ex env' h' hC e hL;have e':dV call l [] env h=.b ex env' h':=e;cases c with
  |region id ops dr=>
   cases dr with
   |true=>simp[bU]at hc
   |false=>
    apply wpIn_region;have hs:=zX hcall (Q:=Q) hro ops.toList 0 l [] [] env h m a w ex env' h' iS hc hC.g (fun t s hs=>by simp[fJ]at hs) hC.e hC.h hC.d e'
     (fun a' w' m' hx hE' H' E' hd=>by subst hx;exact hL a' w' m' ⟨hC.g.a E',hE',H',hd,Nat.le_trans hC.b E'.c,hC.r.b E'⟩ E')
    simpa[List.range_eq_range']using hs
  |_=>simp[bU]at hc
 |f x y ihx ihy=>
  intro c hc Q env h m a w ex env' h' hC e hL;cases c<;>simp[bU]at hc;rename_i c1 c2;have e':(match O_ call x env h with|.b .a env h=>O_ call y env h|r=>r)=.b ex env' h':=e
  apply wpIn_seq;cases h1:O_ call x env h with
  |a=>rw[h1]at e';cases e'
  |b ex1 env1 h2=>
   rw[h1]at e';refine ihx c1 hc.1 _ env h m a w ex1 env1 h2 hC h1 (fun a' w' m' hC' E'=>?_);cases ex1 with
   |a=>simp at e';exact ihy c2 hc.2 Q env1 h2 m' a' w' ex env' h' hC' e' (fun a'' w'' m'' hC'' E''=>hL a'' w'' m'' hC'' (E'.a E''))
   |d=>simp only[]at e';cases e';exact hL a' w' m' hC' E'
   |c id=>simp only[]at e';cases e';exact hL a' w' m' hC' E'
   |b l=>simp only[]at e';cases e';exact hL a' w' m' hC' E'
 |e x y z ihy ihz=>
  intro c hc Q env h m a w ex env' h' hC e hL;cases c<;>simp[bU]at hc;rename_i co c1 c2;have e':(match E_ [] env x with|some (.h t)=>bif t then O_ call y env h else O_ call z env h|_=>.a)=.b ex env' h':=e
  split at e';rename_i t ht;have hr:=ij hC.g (σ:=[]) (fun t s hs=>by simp[fJ]at hs) hC.e hc.1.1 ht;simp[m_]at hr;apply wpIn_cond (t:=t) hr;cases t;simp at e';exact ihz c2 hc.2 Q env h m a w ex env' h' hC e' hL;simp at e';exact ihy c1 hc.1.2 Q env h m a w ex env' h' hC e' hL;cases e'
 |d id x ih=>
  intro c hc Q env h m a w ex env' h' hC e hL;cases c<;>simp[bU]at hc;rename_i id' c1;obtain⟨hid,hc⟩:=hc;subst hid;have e':(match O_ call x env h with|.b (.c i) env h=>bif Nat.beq i id then .b .a env h else .b (.c i) env h|r=>r)=S9.b ex env' h':=e
  apply wpIn_block;cases h1:O_ call x env h with
  |a=>rw[h1]at e';cases e'
  |b ex1 env1 h2=>
   rw[h1]at e';refine ih c1 hc _ env h m a w ex1 env1 h2 hC h1 (fun a' w' m' hC' E'=>?_);cases ex1 with
   |a=>simp only[]at e';cases e';exact hL a' w' m' hC' E'
   |d=>simp only[]at e';cases e';exact hL a' w' m' hC' E'
   |b l=>simp only[]at e';cases e';exact hL a' w' m' hC' E'
   |c i=>
    simp at e';cases hb:Nat.beq i id;rw[hb]at e';simp only[cond_false]at e';cases e';have:i≠id:=by intro q;subst q;simp at hb
    simp[j9,Exit.inBlock,if_neg this];exact hL a' w' m' hC' E';rw[hb]at e';simp only[cond_true]at e';cases e';have:=Nat.eq_of_beq_eq_true hb;subst this;simp[j9,Exit.inBlock];exact hL a' w' m' hC' E'
 |n x ih=>
  intro c hc Q env h m a w ex env' h' hC e hL;cases c<;>simp[bU]at hc;rename_i c1;have e':(match V8 (O_ call x) 48 env h with|.b .a _ _=>.a|r=>r)=S9.b ex env' h':=e
  apply BG;cases h1:V8 (O_ call x) 48 env h with
  |a=>rw[h1]at e';cases e'
  |b ex1 env1 h2=>
   rw[h1]at e';refine BY (ih c1 hc) Q 48 env h m a w ex1 env1 h2 hC h1 (fun a' w' m' hC' E'=>?_);cases ex1 with
   |a=>cases e'
   |d=>simp only[]at e';cases e';exact hL a' w' m' hC' E'
   |c i=>simp only[]at e';cases e';exact hL a' w' m' hC' E'
   |b l=>simp only[]at e';cases e';exact hL a' w' m' hC' E'
 |k id=>intro c hc Q env h m a w ex env' h' hC e hL;cases c<;>simp[bU]at hc;subst hc;cases e;exact wpIn_exit (hL a w m hC (P9.b _ _ _))
 |p=>intro c hc Q env h m a w ex env' h' hC e hL;cases c<;>simp[bU]at hc;cases e;exact wpIn_ret (hL a w m hC (P9.b _ _ _))
 |j x l r ihx ihr=>
  intro c hc Q env h m a w ex env' h' hC e hL;cases c<;>simp only[bU,Bool.false_eq_true]at hc;rename_i c1;simp at hc;let⟨hc1,hc2⟩:=hc;split at hc2
  rename_i r' hf;have e':(match O_ call x env h with
   |.b (.b i) env h=>bif Nat.beq i l then
    (match V8 (zW l (O_ call r)) 48 env h with
     |.b .a _ _=>.a
     |.b (.b i) env h=>bif Nat.beq i l then .b .a env h else .a
     |r=>r)
    else .a
   |r=>r)=S9.b ex env' h':=e
  refine zJ (uG ?_);cases h1:O_ call x env h with
  |a=>rw[h1]at e';cases e'
  |b ex1 env1 h2=>
   rw[h1]at e';refine ihx c1 hc1 (qG ro P c1 Q) env h m a w ex1 env1 h2 hC h1 (fun a' w' m' hC' E'=>?_);cases ex1 with
   |a=>simp only[]at e';cases e';exact hL a' w' m' hC' E'
   |d=>simp only[]at e';cases e';exact hL a' w' m' hC' E'
   |c i=>simp only[]at e';cases e';exact hL a' w' m' hC' E'
   |b i=>
    simp at e';cases hb:Nat.beq i l;rw[hb]at e';cases e';rw[hb]at e';simp at e';have:=Nat.eq_of_beq_eq_true hb;subst this;simp[j9,qG,hf];cases h3:V8 (zW i (O_ call r)) 48 env1 h2 with
    |a=>rw[h3]at e';cases e'
    |b ex2 env2 h4=>
     rw[h3]at e';refine Az hf (ihr r' hc2) Q 48 env1 h2 m' a' w' ex2 env2 h4 hC' h3 (fun a'' w'' m'' hC'' E''=>?_);have hE3:=E'.a E'';cases ex2 with
     |a=>cases e'
     |d=>simp only[]at e';cases e';exact hL a'' w'' m'' hC'' hE3
     |c j=>simp only[]at e';cases e';exact hL a'' w'' m'' hC'' hE3
     |b j=>simp at e';cases hj:Nat.beq j i;rw[hj]at e';cases e';rw[hj]at e';simp only[cond_true]at e';cases e';have:=Nat.eq_of_beq_eq_true hj;subst this;simp[Z?,qG];exact hL a'' w'' m'' hC'' hE3
  cases hc2
 |q l=>intro c hc Q env h m a w ex env' h' hC e hL;cases c<;>simp[bU]at hc;subst hc;cases e;exact wpIn_goto (hL a w m hC (P9.b _ _ _))
 |h l late R reads sets=>
  intro c hc Q env h m a w ex env' h' hC e hL;cases c with
  |region id ops dr=>
   cases dr with
   |false=>simp[bU]at hc
   |true=>exact Cg hcall hc hC.g hC.e hC.h e (fun a' w' m' hx hE' H' E' hd hde=>by
    subst hx;exact hL a' w' m' ⟨hC.g.a E',hE',H',by rw[hd];exact(hC.d.bx E').bb hde,Nat.le_trans hC.b E'.c,hC.r.b E'⟩ E')
  |_=>simp[bU]at hc
 |u=>intro c hc Q env h m a w ex env' h' hC e hL;cases e
 |v x ih=>intro c hc;cases c<;>simp[bU]at hc
 |s g ps as bd iha ihb=>
  intro c hc Q env h m a w ex env' h' hC e hL;cases c<;>simp only[bU,Bool.false_eq_true]at hc;rename_i g' ps' as' bd';simp only[Bool.and_eq_true]at hc;let⟨⟨⟨⟨hcg,hps⟩,hpv⟩,hca⟩,hcb⟩:=hc;have e':(match E_ [] env g with
   |some (.I (.func f) first caps)=>bif Nat.blt f YB then
    (match call f (first++[.ak h.i]++caps) (T4 h (.b ps as bd env 0 none))with
     |some (_,h2)=>(match h2.S.c_ h.i with
      |some (.b _ _ _ _ st pend)=>bif Nat.beq st 1 then .a else .b (match pend with|some ex=>ex|none=>.a) env (K_ h2 h.i .d)
      |_=>.a)
     |none=>.a)
    else .a
   |_=>.a)=S9.b ex env' h':=e
  split at e';rename_i f first caps hg
  cases hlt:Nat.blt f YB;rw[hlt]at e';cases e';rw[hlt]at e';simp only[cond_true]at e';split at e';rename_i u h2 hcl;split at e';rename_i ps2 as2 bd2 en2 st pend hb2;cases hst:Nat.beq st 1;rw[hst]at e';simp at e';obtain⟨rfl,rfl,rfl⟩:=e';have hgv:=ij hC.g (σ:=[]) (fun t s hs=>by simp[fJ]at hs) hC.e hcg hg;let⟨f',c',hfe,rf,rc⟩:=hgv;apply wpIn_rangeFunc;intro fn _;let⟨l,mark,w1,df,hent,hk,hge,hsz,hos,htp,hou,hrec,hmark⟩:=Ce (P:=P) hC fn ps' as' bd';have hGL:∃G0:LG,G0={r:={state:=.ready,pending:=none,fn,tmps:=a.tmps,params:=ps',assign:=as',body:=bd',defers:=df},b:=ps,c:=as,d:=bd,a:=C.a,N:=C.N}:=⟨_,rfl⟩;let⟨G0,hG0⟩:=hGL;have hLOK:ZG P C.G G0:=by rw[hG0];refine⟨hca,hcb,wM hps,hC.e.1,fun p hp=>?_,hC.e.2.2⟩;have:=List.all_eq_true.1 hpv p hp;simpa using this
  have H1:r_ (eU m h.i ⟨l,0,0,some G0⟩) (T4 h (.b ps as bd env 0 none)) w1:=by have:=hC.h.v (w1:=w1) (L:=l) (g:=G0) (env:=env) hk hge (by rw[hG0];exact hrec) (by rw[hG0];exact hC.e.2.1);rw[hG0]at this⊢;exact this
  have hle1:=hC.h.f ⟨l,0,0,some G0⟩;have hGl1:V6 K C.G (eU m h.i ⟨l,0,0,some G0⟩):=by refine⟨fun g hg=>let⟨r,hr⟩:=hC.g.1 g hg;⟨r,hle1 _ _ hr⟩,fun p loc g hp hl=>?_⟩;by_cases q:p=h.i;subst q;rw[aB]at hp;cases hp;simp at hl;subst hl;exact hK _ hLOK;rw[aJ _ _ q]at hp;exact hC.g.2 p loc g hp hl
  have hlt':=(Nat.blt_eq ..).mp hlt;let⟨hf,hcc⟩:=(hcall f _ _ u h2 hcl).1 hlt';have hargs:h_ (eU m h.i ⟨l,0,0,some G0⟩) (first++[.ak h.i]++caps) (f'++[.func (.yield l) #[] #[]]++c'):=
   h_.aA (h_.aA (h_.ag hle1 _ _ rf) ⟨_,_,rfl,⟨_,aB _ _ _,rfl⟩,rfl⟩) (h_.ag hle1 _ _ rc)
  have hcalls:=(hcc _ w1 _ hargs H1 hGl1).1;refine⟨l,mark,w1,{target:=.fn (.func f) (List.toArray c'),args:=List.toArray (f'++[.func (.yield l) #[] #[]])},w1,f,List.toArray (f'++[.func (.yield l) #[] #[]]++c'),w1,hent,?_,fun _ _=>trivial,?_,fun q=>absurd q (by simp[Fence.wide]),?_⟩;simp only[resolve,hfe,Deferred.ofValue,Sem.run_pure];congr 1;simp[Act.eval];simp only[invoke];rw[(iS:(List.toArray (f'++[Value.func (.yield l) #[] #[]])++List.toArray c')=List.toArray (f'++[.func (.yield l) #[] #[]]++c'))];exact gW hf;have hcl2:CallsIn Fence.wide 0 P f (List.toArray (f'++[.func (.yield l) #[] #[]]++c')) w1 (nw (eU m h.i ⟨l,0,0,some G0⟩) (T4 h (.b ps as bd env 0 none)) w1 u h2):=callsIn_wide.2 hcalls;apply CallsIn.mono (F:=FR ro) (n:=0) hcl2;rintro en w3 ⟨x,m2,rfl,rx,H2,E2⟩;have hm2:=E2.j h.i _ (aB m h.i ⟨l,0,0,some G0⟩);let⟨g2,hg2,_,_,_,hr2,_⟩:=H2.n hm2 hb2;have hnb:(l? st)≠.busy:=by
   intro q;match st,hst,q with
   |0,_,q=>cases q
   |1,hst,_=>cases hst
   |2,_,q=>cases q
   |n+3,_,q=>cases q
  have hend:=run_endLoop (P:=P) hr2 hnb;refine⟨_,_,hend,?_⟩;have H3:=H2.A hm2 hb2 (.loop {({g2.r with state:=l? st,pending:=pend.map ju}:Loop)with state:=.exhausted});have E3:=P9.p (o:=.loop {({g2.r with state:=l? st,pending:=pend.map ju}:Loop)with state:=.exhausted}) hC.h hk hge hsz hos htp hou E2;have hD3:W7 C B (eU m2 h.i ⟨l,0,0,none⟩) (w3.putObj l (.loop {({g2.r with state:=l? st,pending:=pend.map ju}:Loop)with state:=.exhausted})) env (mark++a.defers):=by
   have hD:=hC.d.bx E3;obtain rfl|⟨rfl,hmk,hlne⟩:=hmark;exact hD;have hoff1:M? (eU m h.i ⟨l,0,0,some G0⟩) w.heap.size:=by intro p loc hp;by_cases q:p=h.i;subst q;rw[aB]at hp;cases hp;exact hlne;rw[aJ _ _ q]at hp;have:=hC.h.a p loc hp;omega
   have hltm:=(Array.getElem?_eq_some_iff.1 hmk).1;refine hD.bQ hC.b ?_ ?_ hC.d.y;rw[World.putObj_heap_other (Ne.symm hlne)];exact(E2.e _ hoff1 hltm).trans hmk;intro p loc hp;by_cases q:p=h.i;subst q;rw[aB]at hp;cases hp;exact hlne;rw[aJ _ _ q]at hp;exact hoff1.bx E2 hltm p loc hp
  have hC3:f? K C ro B (eU m2 h.i ⟨l,0,0,none⟩) (K_ h2 h.i .d) (w3.putObj l (.loop {({g2.r with state:=l? st,pending:=pend.map ju}:Loop)with state:=.exhausted})) env {a with defers:=mark++a.defers}:=
   ⟨hC.g.a E3,⟨hC.e.1,fun s v hs=>(hC.e.2.1 s v hs).imp id fun q=>⟨q.1,m_.ag E3.j _ _ q.2⟩,hC.e.2.2⟩,H3,hD3,Nat.le_trans hC.b E3.c,hC.r.b E3⟩
  have fin:=hL _ _ _ hC3 E3;cases pend with
  |none=>exact fin
  |some ex=>
   cases ex with
   |a=>exact wpIn_skip fin
   |d=>exact wpIn_ret fin
   |c id=>exact wpIn_exit fin
   |b t=>exact wpIn_goto fin
  rw[hst]at e';cases e';cases e';cases e';cases e'
def lT(P:Program)(vars:List Nat):List ResultVar->List RV->Bool
 |[],[]=>true
 |.tmp t::rs,.t s::qs=>Nat.beq t s&&vars.contains t&&lT P vars rs qs
 |.cell a t::rs,.c s n ia::qs=>Nat.beq a s&&vars.contains a&&dR P t n&&qo P t ia&&lT P vars rs qs
 |_,_=>false
def Ma(P:Program)(G:Nat)(vars:List Nat)(n:Nat)(b:IC)(c:Code):Bool:=
 match b with
 |.v b=>bU P ⟨G,vars,n,true⟩ b c
 |b=>bU P ⟨G,vars,n,false⟩ b c
def DA(P:Program)(G:Nat)(f:Nat)(fn:l_):Bool:=
 match P.funcs[f]? with
 |some fd=>(match fd.body with
  |some c=>Ma P G fn.c fd.ntmps fn.d c&& !fn.c.contains U7&&Nat.blt f YB&&(List.range fn.b).all (fun i=>fn.c.contains i)&&Nat.ble fn.b fd.ntmps&&lT P fn.c fd.results.toList fn.a&& !(fd.name== "runtime.NumGoroutine")
  |none=>false)
 |none=>false
def Ec(P:Program)(G:Nat)(F:T l_):Prop:=∀f fn,F.c_ f=some fn->DA P G f fn=true
theorem iU(v:V)(vs:List V)(i:Nat)(en:T V):gV (v::vs) i en=gV vs (i+1) (en.B_ i v):=rfl
theorem rA:∀(vs:List V)(i:Nat)(en:T V)(s:Nat),(gV vs i en).c_ s=if i<=s/\s<i+vs.length then vs[s-i]? else en.c_ s
 |[],i,en,s=>by rw[if_neg iS];rfl
 |v::vs,i,en,s=>by rw[iU,rA vs (i+1),WB];simp only[Vy];by_cases c:s=i;grind;grind
section
variable {P : Program} {C : Cx} {m : M} {h : b_} {w : World} {env : T V} {a : Act}
def wz(tmps:Array Value):ResultVar->Sem Value
 |.tmp t=>pure (tmps.getD t undef)
 |.cell a t=>do loadVar t (<-asAddr (tmps.getD a undef))
theorem jr(H:r_ m h w)(hE:T1 C m env a):∀(rs:List ResultVar)(qs:List RV)(vs:List V),lT P C.a rs qs=true→fQ env h qs=some vs→
 ∃xs,(rs.mapM (wz a.tmps)).run P w=.ok xs w∧h_ m vs xs
 |[],[],vs,_,e=>by cases e;exact⟨[],rfl,rfl⟩
 |[],_::_,_,hc,_=>by simp[lT]at hc
 |r::rs,[],_,hc,_=>by cases r<;>simp[lT]at hc
 |.tmp t::rs,.c _ _ _::qs,_,hc,_=>by simp[lT]at hc
 |.cell _ _::rs,.t _::qs,_,hc,_=>by simp[lT]at hc
 |.tmp t::rs,.t s::qs,vs,hc,e=>by
  simp only[lT,Bool.and_eq_true]at hc;have:=Nat.eq_of_beq_eq_true hc.1.1;subst this;simp only[fQ,evR]at e;cases h1:env.c_ t with
  |none=>rw[h1]at e;cases e
  |some v=>
   rw[h1]at e;simp only[]at e;cases h2:fQ env h qs with
   |none=>rw[h2]at e;cases e
   |some us=>rw[h2]at e;cases e;obtain⟨xs,hx,rx⟩:=jr H hE rs qs us hc.2 h2;refine⟨a.tmps.getD t undef::xs,?_,⟨_,_,rfl,hE.bq hc.1.2 h1,rx⟩⟩;simp only[List.mapM_cons,Sem.run_bind,wz,Sem.run_pure,Result.andThen_ok,hx]
 |.cell ad t::rs,.c s n ia::qs,vs,hc,e=>by
  simp only[lT,Bool.and_eq_true]at hc;obtain⟨⟨⟨⟨h0,hva⟩,hsz⟩,hag⟩,hc⟩:=hc;have:=Nat.eq_of_beq_eq_true h0;subst this;simp only[fQ,evR]at e;cases h1:env.c_ ad with
  |none=>rw[h1]at e;cases e
  |some p=>
   rw[h1]at e;simp only[]at e;cases h3:jN h n ia p with
   |none=>rw[h3]at e;cases e
   |some v=>
    rw[h3]at e;simp only[]at e;cases h2:fQ env h qs with
    |none=>rw[h2]at e;cases e
    |some us=>
     rw[h2]at e;cases e;obtain⟨xs,hx,rx⟩:=jr H hE rs qs us hc h2;have hp:=hE.bq hva h1;unfold jN at h3;split at h3;rename_i b k;let⟨loc,hm,hpe⟩:=hp;cases ia;simp only[cond_false]at h3;let⟨x,hx1,rx1⟩:=H.s hm h3;refine⟨x::xs,?_,⟨_,_,rfl,rx1,rx⟩⟩;simp only[List.mapM_cons,Sem.run_bind,wz,hpe,asAddr,loadVar,jk hag,Sem.run_pure,Result.andThen_ok,Bool.false_eq_true,if_false,run_load,hx1,hx];simp only[cond_true]at h3;cases h4:aq h b k n with
     |none=>rw[h4]at h3;cases h3
     |some ws=>rw[h4]at h3;cases h3;let⟨ys,hy,ry,_⟩:=H.h P hm h4;refine⟨.agg (List.toArray ys)::xs,?_,⟨_,_,rfl,⟨_,rfl,ry⟩,rx⟩⟩;simp only[List.mapM_cons,Sem.run_bind,wz,hpe,asAddr,loadVar,jk hag,cQ hsz,Sem.run_pure,Result.andThen_ok,if_true,hy,hx]
     cases h3
theorem Ag{fd:Func}{tmps:Array Value}{xs:List Value}(Z:(fd.results.toList.mapM (wz tmps)).run P w=.ok xs w):
 (results fd tmps).run P w=.ok (if h:xs.length=1 then xs[0]else .tuple (List.toArray xs)) w:=by
 have e:results fd tmps=(do let vs <-fd.results.mapM (wz tmps);pure (if h:vs.size=1 then vs[0]else .tuple vs)):=by unfold results;congr 1
 rw[e];simp only[Vr,Array.mapM_eq_mapM_toList,Sem.run_map,Z,Vh,Vz];congr 1
end
section
variable {P : Program} {F : Fence} {n : Nat}
theorem kY{fn:Func}{tmps:Array Value}{R:Ending->World->Prop}:∀(ds:List Deferred)(u:FrameMode)(w:World)(fr:Frame)
 (cs:List Frame),fr.mode=u->fr.defers=ds->fr.tmps=tmps->P.funcs[fr.fn]? =some fn->F.fn fr.fn->F.room (cs.length+1+n)->LeavesInM F n P fn tmps R ds u w->
 ∃e w' fr',R e w'/\ComesIn (Machine.fenced P F) P (lone fr cs w) (lone fr' cs w') e/\fr'.fn=fr.fn/\fr'.kind=fr.kind/\fr'.going P w' e:=by
 intro ds;induction ds with
 |nil=>
  intro u w fr cs hu hd ht hf hb Z h;cases u with
  |run=>exact h.elim
  |returning=>let⟨v,hr,hR⟩:=h;exact⟨.returned v,w,fr,hR,StepsIn.refl _,rfl,rfl,hu,hd,fn,hf,ht▸hr⟩
  |panicking chain=>exact⟨.panicked chain,w,fr,h,StepsIn.refl _,rfl,rfl,hu,hd,fn,hf⟩
 |cons d ds ih=>
  intro u w fr cs hu hd ht hf hb Z h;let⟨aH,h⟩:=h;obtain⟨r,w',ab,ae,af⟩|⟨hn,fv,cap,f,ar,ab,ak,ac,an,aj⟩:=h;have h1:=step_collected (cs:=cs) (hu▸aH) hd ab ae;have i1:(lone fr cs w).fenced P F:=fenced_out hb Z (hu▸aH) hd (fun g hg=>by rw[ab]at hg;simp[Target.leads]at hg);let⟨e',a1,fr',a2,a0,ay,a3⟩:=ih u w' {fr with defers:=[]++ds} cs hu rfl ht hf hb Z af;exact⟨e',a1,fr',a2,ComesIn.of_steps (.one i1 h1) a0,ay,a3⟩;have h1:=step_defer (cs:=cs) (hu▸aH) hd ab ak;have i1:(lone fr cs w).fenced P F:=fenced_out hb Z (hu▸aH) hd ac;have K:F.room (({fr with defers:=ds}::cs).length+1+(n-1)):=Fence.room_enter Z hn;let⟨e,u',w',frX,hR,ax,a6,a5,a4⟩:=aj {fr with defers:=ds} cs hu K;cases e with
  |outgrown=>exact⟨.outgrown,w',fr,hR,Outgrown.of_steps (.one h1) ax,rfl,rfl,trivial⟩
  |returned v=>have i2:(lone frX ({{fr with defers:=ds}with mode:=u'}::cs) w').fenced P F:=fenced_going (n:=n-1) (a5▸an) K a4;have h2:=step_going_returned (c:={{fr with defers:=ds}with mode:=u'}) (cs:=cs) a6 a4;let⟨e',a1,fr',a2,a0,ay,a3⟩:=ih (settle u') w' {{{fr with defers:=ds}with mode:=u'}with mode:=settle u'} cs rfl rfl ht hf hb Z hR;exact⟨e',a1,fr',a2,ComesIn.of_steps (.head i1 h1 (StepsIn.trans ax (.one i2 h2))) a0,ay,a3⟩
  |panicked chain=>have i2:(lone frX ({{fr with defers:=ds}with mode:=u'}::cs) w').fenced P F:=fenced_going (n:=n-1) (a5▸an) K a4;have h2:=step_going_panicked (c:={{fr with defers:=ds}with mode:=u'}) (cs:=cs) a4;let⟨e',a1,fr',a2,a0,ay,a3⟩:=ih (raised u' chain) w' {{{fr with defers:=ds}with mode:=u'}with mode:=raised u' chain} cs rfl rfl ht hf hb Z hR;exact⟨e',a1,fr',a2,ComesIn.of_steps (.head i1 h1 (StepsIn.trans ax (.one i2 h2))) a0,ay,a3⟩
theorem lU{f:FuncId}{fn:Func}{c:Code}{K:Array Value}{u:FrameMode}{w:World}{R:Ending->World->Prop}
 (hf:P.funcs[f]? =some fn) (hb:fn.body=some c) (hF:F.fn f)
 (h:c.wpIn F n P (bodyPostM F n P fn R) {tmps:=K++Array.replicate (fn.ntmps-K.size) undef,defers:=[]} w) (ac:F.round=none:=by rfl):
 CallsDIn F n P f K u w fun e u' w'=>u'=u/\R e w':=by
 refine⟨hF,fun Z cs hu hr=>?_⟩;let b:Frame:={(default:Frame)with fn:=f,kind:=.deferred,roundOf:=none};have ab:Frame.enter P f K .deferred=
  b.atR {tmps:=K++Array.replicate (fn.ntmps-K.size) undef,defers:=[]} [.code c]:=by
  simp[Frame.enter,Frame.atR,hf,hb,b]
 have hc:({Z with mode:=u}:Frame)=Z:=by subst hu;rfl
 let⟨e,a',w',hq,ae⟩:=h b [] (Z::cs) ac.symm hF hr;rw[<-ab]at ae;cases e with
 |normal=>let⟨e',aj,fr',hR,hs,ak,hk,hl⟩:=kY a'.defers .returning w' {b.atR a' []with mode:=.returning} (Z::cs) rfl rfl rfl hf hF hr hq;exact⟨e',u,aj,fr',⟨rfl,hR⟩,(by rw[hc];exact ComesIn.of_steps (StepsIn.trans ae (.one (fenced_calm (fr:=b.atR a' []) hF hr rfl) (stepR_end rfl))) hs),hk,ak,hl⟩
 |ret=>let⟨an,af⟩:=ae.1 rfl;let⟨e',aj,fr',hR,hs,ak,hk,hl⟩:=kY a'.defers .returning w' {b.atR a' an with mode:=.returning} (Z::cs) rfl rfl rfl hf hF hr hq;exact⟨e',u,aj,fr',⟨rfl,hR⟩,(by rw[hc];exact ComesIn.of_steps af hs),hk,ak,hl⟩
 |panic chain=>let⟨an,af⟩:=ae;let⟨e',aj,fr',hR,hs,ak,hk,hl⟩:=kY a'.defers (.panicking chain) w' {b.atR a' an with mode:=.panicking chain} (Z::cs) rfl rfl rfl hf hF hr hq;exact⟨e',u,aj,fr',⟨rfl,hR⟩,(by rw[hc];exact ComesIn.of_steps af hs),hk,ak,hl⟩
 |exit id=>exact hq.elim
 |goto l=>exact hq.elim
 |outgrown=>exact⟨.outgrown,u,w',b,⟨rfl,hq⟩,ae.resolve_left iX,rfl,rfl,trivial⟩
end
section
variable {P : Program} {fd : Func} {tmps : Array Value} {R : Ending -> World -> Prop} {B : Nat} {m0 : M} {h0 : b_} {w0 : World} {m : M} {h : b_}
theorem j8(hB:w0.heap.size<=B){rest:List Deferred}:∀(ds:List Deferred)(w:World),R9 B m w (ds++rest)->r_ m h w->P9 m0 h0 w0 m h w->
 (∀w',r_ m h w'->P9 m0 h0 w0 m h w'->R9 B m w' rest->LeavesInM Fence.wide 0 P fd tmps R rest .returning w')->LeavesInM Fence.wide 0 P fd tmps R (ds++rest) .returning w
 |[],w,hM,H,E,hr=>hr w H E hM
 |d::ds,w,⟨⟨r,h1,h2,h3,h4,h5⟩,t⟩,H,E,hr=>⟨iS,.inl ⟨r,_,by rw[h1],run_takeDeferred h3,j8 hB ds _ (t.ZK h5) (H.p h4 _) (E.i oM _) hr⟩⟩
theorem nD(hB:w0.heap.size<=B){d:Deferred}{d2:List Deferred}:∀(ds:List Deferred)(w:World),R9 B m w (ds++d2)->r_ m h w->P9 m0 h0 w0 m h w->
 (∀w',r_ m h w'->P9 m0 h0 w0 m h w'->R9 B m w' d2->LeavesInM Fence.wide 0 P fd tmps R (d::d2) .returning w')->LeavesInM Fence.wide 0 P fd tmps R (ds++d::d2) .returning w
 |[],w,hM,H,E,hr=>hr w H E hM
 |x::ds,w,⟨⟨r,h1,h2,h3,h4,h5⟩,t⟩,H,E,hr=>⟨iS,.inl ⟨r,_,by rw[h1],run_takeDeferred h3,nD hB ds _ (R9.ZK h5 t) (H.p h4 _) (E.i oM _) hr⟩⟩
end
theorem xG{C:Cx}{m:M}(hV:C.a.contains U7=false):∀(ps:List Nat)(vs:List V)(env:T V)(tm:Array Value)(xs:List Value),h_ m vs xs→vs.length=ps.length→tm.size=C.N→(∀p∈ps,C.a.contains p=true∧p<C.N)→
 (∀s v,env.c_ s=some v→s=U7∨(C.a.contains s=true∧m_ m v (tm.getD s undef)))→
 T1 C m (nQ ps vs env) {tmps:=(ps.zip xs).foldl (fun t (p:Nat×Value)=>t.setIfInBounds p.1 p.2) tm,defers:=[]}
 |[],[],env,tm,xs,_,_,hs,_,he=>⟨hs,he,hV⟩
 |[],_::_,_,_,_,_,hl,_,_,_=>by simp at hl
 |_::_,[],_,_,_,_,hl,_,_,_=>by simp at hl
 |p::ps,v::vs,env,tm,_,⟨x,xs,rfl,rx,rxs⟩,hl,hs,hp,he=>by have hpp:=hp p iS;simp only[nQ,List.zip_cons_cons,List.foldl_cons];refine xG hV ps vs (env.B_ p v) (tm.setIfInBounds p x) xs rxs (eV hl) (eV hs) (fun q hq=>hp q iX) (fun s u hu=>?_);rw[T.S1]at hu;by_cases c:s=p;rw[if_pos c]at hu;cases hu;subst c;refine .inr ⟨hpp.1,?_⟩;rw[Array.getD_eq_getD_getElem?,Array.getElem?_setIfInBounds_self_of_lt oM];exact rx;rw[if_neg c]at hu;refine(he s u hu).imp id fun q=>⟨q.1,?_⟩;rw[Array.getD_eq_getD_getElem?,Array.getElem?_setIfInBounds_ne (Ne.symm c),←Array.getD_eq_getD_getElem?];exact q.2
theorem AA{P:Program}{l:Nat}{R:Ending->World->Prop}{ex:Ex}{a:Act}{w:World}
 (h:∀jump,(jump=match ex with|.a=>none|ex=>some (ju ex))->∃v w',(Instr.endRound l jump).run P w=.ok v w'/\R (.returned v) w'):roundPost P l R (j9 ex) a w:=by
 cases ex<;>exact h _ rfl
theorem Af{P:Program}{G:Nat}{call:aL}(ac:fu P (ZG P G) G call){b:Nat}{vs:List V}{h h':b_}{v:V}(e:ZV (O_ call) b vs h=some (v,h')):
 ∀m w (Z:List Value) loc,m b=some loc→h_ m vs Z→r_ m h w→V6 (ZG P G) G m→
 ∃r:Loop,w.heap[loc.a]? =some (.loop r)∧Z.length=r.params.size∧
  RoundIn Fence.wide 0 P loc.a r.fn ((r.params.zip (List.toArray Z)).foldl (fun tmps (t,a)=>tmps.setIfInBounds t a) r.tmps) r.assign r.body w (nw m h w v h'):=by
 intro m w Z loc hm hv H hG;unfold ZV at e;split at e;rename_i ps as bd env hb;cases hl:Nat.beq vs.length ps.length;grind;rw[hl]at e;simp at e;have aj:=Nat.eq_of_beq_eq_true hl;let⟨g,hg,g1,g2,g3,hr,a5⟩:=H.n hm hb;subst g1;subst g2;subst g3;let⟨k1,k2,k3,k4,k5,k6⟩:=hG.2 b loc g hm hg;have a3:g.r.params.size=g.b.length:=by rw[←k3];simp
 refine⟨_,hr,by rw[hv.T,aj];exact a3.symm,?_⟩;split at e;rename_i ak h1 a0;split at e;rename_i bi ba bf bc p1 a4;split at e;rename_i ex ar h2 ax;split at e;rename_i bn bm bo bk bj bp af;have a7:((g.r.params.zip (List.toArray Z)).foldl (fun tmps (t,a)=>tmps.setIfInBounds t a) g.r.tmps)=(g.b.zip Z).foldl (fun t (p:Nat×Value)=>t.setIfInBounds p.1 p.2) g.r.tmps:=by rw[←Array.foldl_toList,Array.toList_zip,k3]
 have hE:=xG (C:=⟨G,g.a,g.N,false⟩) k6 g.b vs env g.r.tmps Z hv aj k4 k5 a5;apply roundIn_of_wpIn (F:=Fence.wide) trivial;have bg:f? (ZG P G) ⟨G,g.a,g.N,false⟩ (some loc.a) 0 m h w (nQ g.b vs env) {tmps:=(g.b.zip Z).foldl (fun t (p:Nat×Value)=>t.setIfInBounds p.1 p.2) g.r.tmps,defers:=[]}:=
  ⟨hG,hE,H,trivial,Nat.zero_le _,fun l hl=>by cases hl;exact⟨_,hr⟩⟩
 rw[a7];refine kj (C:=⟨G,g.a,g.N,false⟩) (ro:=some loc.a) (B:=0) ac (fun _ x=>x) (fun q=>by cases q) g.c g.r.assign k1 _ _ h m _ w .a ak h1 bg a0 (fun a1 w1 m1 hC1 E1=>?_);have an:=E1.j _ _ hm;let⟨g',ae,_,_,_,a8,_⟩:=hC1.h.n an a4;rw[hg]at ae;cases ae;let⟨bh,K⟩:=hC1.h.o an a4 hg 1 p1;refine⟨_,run_beginRound a8 rfl,?_⟩;have a6:f? (ZG P G) ⟨G,g.a,g.N,false⟩ (some loc.a) 0 m1 (K_ h1 b (.b bi ba bf bc 1 p1)) (w1.putObj loc.a (.loop {g.r with state:=l? 1,pending:=p1.map ju})) ak a1:=
  ⟨hC1.g,hC1.e,bh,hC1.d.bx K,Nat.zero_le _,hC1.r.b K⟩
 refine kj (C:=⟨G,g.a,g.N,false⟩) (ro:=some loc.a) (B:=0) ac (fun _ x=>x) (fun q=>by cases q) g.d g.r.body k2 _ _ _ m1 a1 _ ex ar h2 a6 ax (fun a2 w2 m2 hC2 E2=>?_);have ab:=E2.j _ _ an;let⟨g',ae,_,_,_,a9,_⟩:=hC2.h.n ab af;rw[hg]at ae;cases ae;refine AA fun ay hj=>?_;have aH:=run_endRound (P:=P) ay a9;refine⟨_,_,aH,?_⟩;cases ex with
 |a=>simp at e;obtain⟨rfl,rfl⟩:=e;let⟨H3,E3⟩:=hC2.h.o ab af hg 0 none;subst hj;exact⟨_,m2,rfl,rfl,H3,(E1.a K).a (E2.a E3)⟩
 |d=>simp at e;obtain⟨rfl,rfl⟩:=e;let⟨H3,E3⟩:=hC2.h.o ab af hg 2 (some .d);subst hj;exact⟨_,m2,rfl,rfl,H3,(E1.a K).a (E2.a E3)⟩
 |c id=>simp at e;obtain⟨rfl,rfl⟩:=e;let⟨H3,E3⟩:=hC2.h.o ab af hg 2 (some (.c id));subst hj;exact⟨_,m2,rfl,rfl,H3,(E1.a K).a (E2.a E3)⟩
 |b t=>simp at e;obtain⟨rfl,rfl⟩:=e;let⟨H3,E3⟩:=hC2.h.o ab af hg 2 (some (.b t));subst hj;exact⟨_,m2,rfl,rfl,H3,(E1.a K).a (E2.a E3)⟩
 cases e;cases e;cases e;cases e;cases e
theorem T1.ag{C:Cx}{m m':M}(l:Le m m'){env:T V}{a:Act}(hE:T1 C m env a):T1 C m' env a:=
 ⟨hE.1,fun s v hs=>(hE.2.1 s v hs).imp id fun q=>⟨q.1,WA l _ _ q.2⟩,hE.2.2⟩
theorem xj{P:Program}{G:Nat}{call:aL}(ae:fu P (ZG P G) G call){C:Cx}(a0:C.G=G){fd:Func}{af:List RV}(aH:lT P C.a fd.results.toList af=true){m m':M}{h h0 h1 h':b_}{w w':World}{env:T V}{a:Act}{v:V}{ex:Ex}
 (hC:f? (ZG P G) C none w.heap.size m' h0 w' env a) (E:P9 m h w m' h0 w') (ac:(C.b=true->iF call ex env h0=.b ex env h1)/\(C.b=false->h1=h0))
 (Z:(match fQ env h1 af with
  |some [v]=>fV v fun v=>some (v,h1)
  |some vs=>some (.G vs,h1)
  |none=>none)=some (v,h')):LeavesInM Fence.wide 0 P fd a.tmps (nw m h w v h') a.defers .returning w':=by
 have fin:∀mf wf,r_ mf h1 wf->P9 m h w mf h1 wf->T1 C mf env a->LeavesInM Fence.wide 0 P fd a.tmps (nw m h w v h') [] .returning wf:=by
  intro mf wf Hf Ef a2;cases hr:fQ env h1 af with
  |none=>rw[hr]at Z;cases Z
  |some us=>
   rw[hr]at Z;let⟨xs,hx,rx⟩:=jr (P:=P) Hf a2 _ _ _ aH hr;refine⟨_,Ag hx,_,mf,rfl,?_⟩;have K:=rx.T;match us,Z,rx,K with
   |[],Z,rx,K=>simp at Z;obtain⟨rfl,rfl⟩:=Z;rw[dif_neg (by simp at K;simp[K])];exact⟨⟨xs,rfl,rx⟩,Hf,Ef⟩
   |[u],Z,rx,K=>simp[AR]at Z;obtain⟨rfl,rfl⟩:=Z;rw[dif_pos (eV K)];obtain⟨x,rfl,r1⟩:=cF rx;exact⟨r1,Hf,Ef⟩
   |u1::u2::us,Z,rx,K=>simp at Z;obtain⟨rfl,rfl⟩:=Z;rw[dif_neg (by simp at K;omega)];exact⟨⟨xs,rfl,rx⟩,Hf,Ef⟩
 have hD:=hC.d;have noC:R9 w.heap.size m' w' a.defers->h1=h0->LeavesInM Fence.wide 0 P fd a.tmps (nw m h w v h') a.defers .returning w':=by rintro hM rfl;have:=j8 (P:=P) (fd:=fd) (tmps:=a.tmps) (R:=nw m h w v h') (B:=w.heap.size) (m0:=m) (h0:=h) (w0:=w) (m:=m') (h:=h1) (Ve _) (rest:=[]) a.defers w' (eV hM) hC.h E (fun w'' H'' E'' _=>fin m' w'' H'' E'' hC.e);simpa using this
 unfold W7 at hD;split at hD;rename_i dv ab a4;obtain⟨d1,d,d2,a3,⟨f,first,caps,an,A,C',rfl,ax,hd,ra,rc⟩,hM⟩:=hD;have he:=ac.1 ab;unfold iF at he;rw[a4]at he;simp only[]at he;split at he;rename_i u h2 a5;simp at he;subst he;rw[a3];refine nD (m0:=m) (h0:=h) (w0:=w) (m:=m') (h:=h0) (Ve _) d1 w' hM hC.h E (fun w1 H1 E1 ar=>?_);let⟨hf,a6⟩:=(ae f _ _ u h2 a5).1 ax;have ak:h_ m' (first++an++caps) (A++C'):=Xw ra rc;have ay:=(a6 m' w1 _ ak H1 (a0▸hC.g)).2 .returning;refine⟨iS,.inr ⟨fun q=>absurd q (by simp[Fence.wide]),.func f,List.toArray C',f,List.toArray (A++C'),by rw[hd],?_,fun _ _=>trivial,?_⟩⟩;rw[hd];simp only[invoke];rw[(iS:(List.toArray A++List.toArray C')=List.toArray (A++C'))];exact gW hf;apply CallsDIn.mono ay;rintro en u' w2 ⟨rfl,x,m2,rfl,rx,H2,E2⟩;have a1:=ar.bx E2;have:=j8 (P:=P) (fd:=fd) (tmps:=a.tmps) (R:=nw m h w v h') (B:=w.heap.size) (m0:=m) (h0:=h) (w0:=w) (m:=m2) (h:=h2) (Ve _) (rest:=[]) d2 w2 (eV a1) H2 (E1.a E2) (fun w3 H3 E3 _=>fin m2 w3 H3 E3 (hC.e.ag E2.j));simpa[settle]using this;cases he;rename_i hn;apply noC hD;cases ab:C.b;exact ac.2 ab;have aj:env.c_ U7=none:=by
  cases q:env.c_ U7 with
  |none=>rfl
  |some v=>exact absurd q (hn v ab)
 have he:=ac.1 ab;unfold iF at he;rw[aj]at he;simp at he;exact he.symm
theorem xf{P:Program}{G:Nat}{F:T l_}{ov:aL}(a0:fu P (ZG P G) G ov)(hF:Ec P G F):∀n,fu P (ZG P G) G (Y7 ov F n):=by
 intro n;induction n with
 |zero=>intro f vs h v h' e;cases e
 |succ n ih=>
  intro f vs h v h' e;have e':(match F.c_ f with
   |some fn=>bif Nat.beq vs.length fn.b then
    (match O_ (Y7 ov F n) fn.d (gV vs 0 .e) h with
     |.b .a env h=>(match fQ env h fn.a with
      |some [v]=>fV v fun v=>some (v,h)
      |some vs=>some (.G vs,h)
      |none=>none)
     |.b .d env h=>(match fQ env h fn.a with
      |some [v]=>fV v fun v=>some (v,h)
      |some vs=>some (.G vs,h)
      |none=>none)
     |_=>none)
    else none
   |none=>bif Nat.ble YB f then ZV (O_ (Y7 ov F n)) (f-YB) vs h else ov f vs h)=some (v,h'):=e
  cases hg:F.c_ f with
  |none=>rw[hg]at e';simp at e';cases hy:Nat.ble YB f;rw[hy]at e';simp at e';refine⟨(a0 f vs h v h' e').1,fun q=>?_⟩;have:=XS q;rw[hy]at this;cases this;rw[hy]at e';simp at e';have a2:=Vj hy;exact⟨fun q=>absurd q oM,fun _=>Af ih e'⟩
  |some fn=>
   rw[hg]at e';simp at e';cases hl:Nat.beq vs.length fn.b;grind;rw[hl]at e';simp at e';have a1:=Vf hl;have hc:=hF f fn hg;unfold DA at hc;split at hc;rename_i fd aj;split at hc;rename_i c ab;simp only[Vd,WM,VE]at hc;let⟨⟨⟨⟨⟨⟨a4,a8⟩,a9⟩,a5⟩,ar⟩,a7⟩,a6⟩:=hc;have ar:=Vj ar;refine⟨fun _=>⟨⟨fd,aj,by rw[ab];rfl,a6⟩,fun m w K hv H hG=>?_⟩,fun q=>absurd q oM⟩;have a3:=hv.T;have ax:c.wpIn Fence.wide 0 P (bodyPostM Fence.wide 0 P fd (nw m h w v h')) {tmps:=List.toArray K++Array.replicate (fd.ntmps-(List.toArray K).size) undef,defers:=[]} w:=by
    have hE:∀df,T1 ⟨G,fn.c,fd.ntmps,df⟩ m (gV vs 0 .e) {tmps:=List.toArray K++Array.replicate (fd.ntmps-(List.toArray K).size) undef,defers:=[]}:=by
     intro df;refine⟨by simp;omega,fun s u hs=>?_,a8⟩;rw[rA]at hs;split at hs;rename_i hr;simp only[Yl,VR]at hs hr;let⟨x,hx,rx⟩:=hv.c_ s u hs;refine .inr ⟨Wo.1 a5 s oO,?_⟩;have:(List.toArray K++Array.replicate (fd.ntmps-(List.toArray K).size) undef).getD s undef=x:=by rw[VP,Yb oO];simp[hx]
     rw[this];exact rx;cases hs
    have aH:(gV vs 0 .e).c_ U7=none:=by
     cases q:(gV vs 0 .e).c_ U7 with
     |none=>rfl
     |some u=>rw[rA]at q;split at q;grind;cases q
    have hC:∀df,f? (ZG P G) ⟨G,fn.c,fd.ntmps,df⟩ none w.heap.size m h w (gV vs 0 .e) {tmps:=List.toArray K++Array.replicate (fd.ntmps-(List.toArray K).size) undef,defers:=[]}:=
     fun df=>⟨hG,hE df,H,by unfold W7;rw[aH];cases df<;>exact trivial,Ve _,fun l hl=>by cases hl⟩
    have fin:∀ex Z h1,(ex=.a\/ex=.d)->O_ (Y7 ov F n) fn.d (gV vs 0 .e) h=.b ex Z h1->
     (match fQ Z h1 fn.a with
      |some [v]=>fV v fun v=>some (v,h1)
      |some vs=>some (.G vs,h1)
      |none=>none)=some (v,h')->
     c.wpIn Fence.wide 0 P (bodyPostM Fence.wide 0 P fd (nw m h w v h')) {tmps:=List.toArray K++Array.replicate (fd.ntmps-(List.toArray K).size) undef,defers:=[]} w:=by
     intro ex Z h1 ay an af;unfold Ma at a4;split at a4;rename_i b hb;rw[hb]at an;have ae:(match O_ (Y7 ov F n) b (gV vs 0 .e) h with
      |.b .a env h=>iF (Y7 ov F n) .a env h
      |.b .d env h=>iF (Y7 ov F n) .d env h
      |_=>.a)=S9.b ex Z h1:=an
     have hh:∃h0,O_ (Y7 ov F n) b (gV vs 0 .e) h=.b ex Z h0/\iF (Y7 ov F n) ex Z h0=.b ex Z h1:=by
      have key:∀ak ac h0,iF (Y7 ov F n) ak ac h0=.b ex Z h1->ak=ex/\ac=Z:=by intro ak ac h0 q;unfold iF at q;split at q;grind;grind;cases q
      split at ae;grind;grind;cases ae
     let⟨h0,q1,q2⟩:=hh;refine kj (C:=⟨G,fn.c,fd.ntmps,true⟩) (ro:=none) ih (fun _ x=>x) (fun _=>rfl) b c a4 _ _ h m _ w ex Z h0 (hC true) q1 (fun a' w' m' hC' E'=>?_);have:=xj (C:=⟨G,fn.c,fd.ntmps,true⟩) ih rfl a7 hC' E' ⟨fun _=>q2,fun q=>by cases q⟩ af;obtain rfl|rfl:=ay;exact this;exact this;refine kj (C:=⟨G,fn.c,fd.ntmps,false⟩) (ro:=none) ih (fun _ x=>x) (fun _=>rfl) fn.d c a4 _ _ h m _ w ex Z h1 (hC false) an (fun a' w' m' hC' E'=>?_);have:=xj (C:=⟨G,fn.c,fd.ntmps,false⟩) (ex:=ex) ih rfl a7 hC' E' ⟨fun q=>(by cases q),fun _=>rfl⟩ af;obtain rfl|rfl:=ay;exact this;exact this
    split at e';grind;grind;cases e'
   exact⟨callsIn_wide.1 (callsIn_of_wp_marks aj ab trivial ax),fun u=>lU aj ab trivial ax⟩;cases hc;cases hc
def F?(c:Nat->aL)(f:Nat)(vs:List V)(h:b_)(r:V×b_):Prop:=∃n,∀m,n<=m->c m f vs h=some r
theorem F?.b{c:Nat->aL}{f:Nat}{vs:List V}{h:b_}{r s:V×b_}(a:F? c f vs h r)(b:F? c f vs h s):r=s:=by let⟨n,K⟩:=a;let⟨k,Z⟩:=b;have e:=K (max n k) (Nat.le_max_left _ _);rw[Z (max n k) (Nat.le_max_right _ _)]at e;cases e;rfl
section
variable {c : Nat -> aL} {L : aL}
def i?(c:Nat->aL)(L:aL):Prop:=∀f vs h r,L f vs h=some r->F? c f vs h r
theorem uN(K:i? c L){Z:List V}{env:T V}{h:b_}{o:Q_}{r:V×b_}(e:aS L Z env h o=some r):
 ∃n,∀m,n<=m->aS (c m) Z env h o=some r:=by
 cases o;case c f xs=>
  simp[aS]at e|-;cases hx:eP Z env xs with
  |none=>rw[hx]at e;cases e
  |some vs=>rw[hx]at e;exact K _ _ _ _ e
 case e x xs=>
  simp only[aS]at e|-;split at e;split at e;rename_i f first caps h1 _ vs h2
  cases hb:Nat.blt f YB;grind;rw[hb]at e;simp only[cond_true]at e|-;exact K _ _ _ _ e;cases e;split at e;exact K _ _ _ _ e;cases e;cases e
 all_goals exact⟨0,fun m _=>e⟩
theorem AT(hL:i? c L):∀(l:List n_)(K:List V)(env:T V)(h:b_){e:Ex}{Z:T V}{h':b_},dV L l K env h=.b e Z h'->
 ∃n,∀m,n<=m->dV (c m) l K env h=.b e Z h':=by
 intro l;induction l with
 |nil=>intro K env h e Z h' x;exact⟨0,fun m _=>x⟩
 |cons s l ih=>intro K env h e Z h' x;rw[dd]at x;simp[dd];split at x;rename_i hg;split at x;rename_i v h1 ho;let⟨n,hn⟩:=uN hL ho;let⟨k,hk⟩:=ih _ _ _ x;refine⟨max n k,fun m hm=>?_⟩;rw[hn m oM];exact hk m oM;cases x;exact ih _ _ _ x;cases x
theorem AH(a b:aL)(Z:List V)(env:T V)(h:b_)(s:n_):wZ a Z env h s=wZ b Z env h s:=by let⟨g,o,d⟩:=s;cases o<;>rfl
theorem EJ(a b:aL)(env:T V)(K:List Nat):∀(l:List n_)(i:Nat)(Z:List V)(h:b_),Q8 a env K l i Z h=Q8 b env K l i Z h:=by
 intro l;induction l with
 |nil=>intro i Z h;rfl
 |cons s l ih=>intro i Z h;simp[Q8,AH a b,ih]
theorem iG(call:aL)(env:T V)(s:DS)(l:List DS)(Z:List V)(K:List b_)(h:b_):iZ call env (s::l) Z K h=
      match s.2 with
      |some (u,c)=>bif cI Z env s.1.a u c then iZ call env l (u::Z) K h else none
      |none=>
       match V3 Z env s.1.c with
       |some true=>match aS call Z env h s.1.a with
        |some (v,h')=>bif g_ s.1.a then iZ call env l (v::Z) (h'::K) h' else iZ call env l (v::Z) K h
        |none=>none
       |some false=>bif g_ s.1.a then iZ call env l (.G []::Z) (h::K) h else iZ call env l (.G []::Z) K h
       |none=>none:=by
 show(match s.2 with
  |some (u,c)=>bif cI Z env s.1.a u c then iZ call env l (u::Z) K h else none
  |none=>
   match V3 Z env s.1.c with
   |some true=>match aS call Z env h s.1.a with
    |some (v,h')=>fV v fun v=>bif g_ s.1.a then iZ call env l (v::Z) (h'::K) h' else iZ call env l (v::Z) K h
    |none=>none
   |some false=>bif g_ s.1.a then iZ call env l (.G []::Z) (h::K) h else iZ call env l (.G []::Z) K h
   |none=>none)=_
 simp[AR]
theorem Ib(hL:i? c L)(env:T V):∀(l:List DS)(Z:List V)(hs:List b_)(h:b_){r:List V×List b_},iZ L env l Z hs h=some r->
 ∃n,∀m,n<=m->iZ (c m) env l Z hs h=some r:=by
 intro l;induction l with
 |nil=>intro Z hs h r x;exact⟨0,fun m _=>x⟩
 |cons s l ih=>
  intro Z hs h r x;rw[iG]at x;simp[iG];let⟨s1,s2⟩:=s;cases s2 with
  |some uc=>let⟨u,cs⟩:=uc;simp at x|-;cases hl:cI Z env s1.a u cs;grind;rw[hl]at x;simp at x|-;exact ih _ _ _ x
  |none=>simp at x|-;split at x;rename_i hg;split at x;rename_i v h1 ho;let⟨n,hn⟩:=uN hL ho;cases K:g_ s1.a;rw[K]at x;simp at x;let⟨k,hk⟩:=ih _ _ _ x;refine⟨max n k,fun m hm=>?_⟩;rw[hn m oM];simp;exact hk m oM;rw[K]at x;simp at x;let⟨k,hk⟩:=ih _ _ _ x;refine⟨max n k,fun m hm=>?_⟩;rw[hn m oM];simp;exact hk m oM;cases x;rename_i hg;cases K:g_ s1.a;rw[K]at x;simp at x|-;exact ih _ _ _ x;rw[K]at x;simp at x|-;exact ih _ _ _ x;cases x
theorem EB(hL:i? c L)(Z:List V)(env:T V)(o:Q_)(v:V):∀(K:List b_),gU L Z env o v K=true->
 ∃n,∀m,n<=m->gU (c m) Z env o v K=true:=by
 intro K;induction K with
 |nil=>intro _;exact⟨0,fun _ _=>rfl⟩
 |cons h K ih=>intro x;simp[gU]at x|-;let⟨a,b⟩:=x;let⟨k,hk⟩:=ih b;split at a;rename_i u _ ho;let⟨n,hn⟩:=uN hL ho;refine⟨max n k,fun m hm=>⟨?_,hk m oM⟩⟩;rw[hn m oM];exact a;cases a
theorem Hb(hL:i? c L)(env:T V)(l:List n_)(Z:List V)(K:List b_)(r:Nat×Nat×Nat)(x:oG L env l Z K r=true):
 ∃n,∀m,n<=m->oG (c m) env l Z K r=true:=by
 let⟨i,lo,hi⟩:=r;simp[oG]at x|-;split at x;rename_i s v loc' _ _;split at x;rename_i hg;let⟨n,hn⟩:=EB hL _ _ _ _ _ x;exact⟨n,fun m hm=>hn m hm⟩;rename_i hg;exact⟨0,fun m _=>rfl⟩;cases x
theorem KZ(hL:i? c L)(env:T V)(l:List n_)(Z:List V)(K:List b_):∀(rs:List (Nat×Nat×Nat)),rs.all (oG L env l Z K)=true->
 ∃n,∀m,n<=m->rs.all (oG (c m) env l Z K)=true:=by
 intro rs;induction rs with
 |nil=>intro _;exact⟨0,fun _ _=>rfl⟩
 |cons r rs ih=>intro x;simp only[Xi,Vd]at x|-;let⟨n,hn⟩:=Hb hL _ _ _ _ _ x.1;let⟨k,hk⟩:=ih x.2;exact⟨max n k,fun m hm=>⟨hn m oM,hk m oM⟩⟩
theorem KD(hL:i? c L){l:List n_}{ac:List Nat}{Z:List (Nat×Nat×Nat)}{ab:List (Nat×Nat)}{env:T V}{h:b_}{e:Ex}{K:T V}{h':b_}
 (x:j? L l ac Z ab env h=.b e K h'):∃n,∀m,n<=m->j? (c m) l ac Z ab env h=.b e K h':=by
 unfold j? at x|-;simp[EJ _ L];split at x;cases x;rename_i dl h1 hl;split at x;rename_i ae hs hd;let⟨n,hn⟩:=Ib hL _ _ _ _ _ hd;cases ha:Z.all (oG L env l ae hs);grind;rw[ha]at x;let⟨k,hk⟩:=KZ hL _ _ _ _ _ ha;refine⟨max n k,fun m hm=>?_⟩;rw[hn m oM];simp;rw[hk m oM];exact x;cases x
def Lt(b:T V->b_->S9)(bs:Nat->T V->b_->S9):Prop:=∀env h e env' h',b env h=.b e env' h'->∃n,∀m,n<=m->bs m env h=.b e env' h'
theorem yZ{b:T V->b_->S9}{bs:Nat->T V->b_->S9}(hb:Lt b bs)(k:Nat):Lt (V8 b k) (fun m=>V8 (bs m) k):=by
 induction k with
 |zero=>exact hb
 |succ k ih=>
  intro env h e Z h' x;have eq:∀(f:T V->b_->S9),V8 f (k+1) env h=match V8 f k env h with
   |.b .a env h=>V8 f k env h
   |r=>r:=fun _=>rfl
  rw[eq]at x;simp[eq];split at x;rename_i ab h1 K;let⟨n,hn⟩:=ih _ _ _ _ _ K;let⟨j,hj⟩:=ih _ _ _ _ _ x;refine⟨max n j,fun m hm=>?_⟩;have a:=hn m oM;have b:=hj m oM;simp at a b;rw[a];exact b;rename_i K;let⟨n,hn⟩:=ih _ _ _ _ _ x;refine⟨n,fun m hm=>?_⟩;have a:=hn m hm;simp at a;rw[a];cases e with
  |a=>exact absurd x (K Z h')
  |_=>rfl
theorem yU(hL:i? c L):∀(k:IC),Lt (O_ L k) (fun m=>O_ (c m) k):=by
 intro k;induction k with
 |i=>intro env h e Z h' x;exact⟨0,fun m _=>x⟩
 |o l=>intro env h e Z h' x;exact AT hL l [] env h x
 |f a b iha ihb=>
  intro env h e Z h' x;have eq:∀f:aL,O_ f (.f a b) env h=match O_ f a env h with
   |.b .a env h=>O_ f b env h
   |r=>r:=fun _=>rfl
  rw[eq]at x;simp[eq];split at x;rename_i K h1 h2;let⟨n,hn⟩:=iha _ _ _ _ _ h2;let⟨j,hj⟩:=ihb _ _ _ _ _ x;refine⟨max n j,fun m hm=>?_⟩;have a:=hn m oM;have b:=hj m oM;simp at a b;rw[a];exact b;rename_i h2;let⟨n,hn⟩:=iha _ _ _ _ _ x;refine⟨n,fun m hm=>?_⟩;have a:=hn m hm;simp at a;rw[a];cases e with
  |a=>exact absurd x (h2 Z h')
  |_=>rfl
 |e o a b iha ihb=>
  intro env h e Z h' x;have eq:∀f:aL,O_ f (.e o a b) env h=match E_ [] env o with
   |some (.h t)=>bif t then O_ f a env h else O_ f b env h
   |_=>.a:=fun _=>rfl
  rw[eq]at x;simp[eq];split at x;rename_i t ht;cases t;exact ihb _ _ _ _ _ x;exact iha _ _ _ _ _ x;cases x
 |d id a iha=>
  intro env h e Z h' x;have eq:∀f:aL,O_ f (.d id a) env h=match O_ f a env h with
   |.b (.c i) env h=>bif Nat.beq i id then .b .a env h else .b (.c i) env h
   |r=>r:=fun _=>rfl
  rw[eq]at x;simp[eq];split at x;rename_i i K h1 h2;let⟨n,hn⟩:=iha _ _ _ _ _ h2;refine⟨n,fun m hm=>?_⟩;have a:=hn m hm;simp at a;rw[a];exact x;rename_i h2;let⟨n,hn⟩:=iha _ _ _ _ _ x;refine⟨n,fun m hm=>?_⟩;have a:=hn m hm;simp at a;rw[a];cases e with
  |c i=>exact absurd x (h2 i Z h')
  |_=>rfl
 |n a iha=>
  intro env h e Z h' x;have eq:∀f:aL,O_ f (.n a) env h=match V8 (O_ f a) 48 env h with
   |.b .a _ _=>.a
   |r=>r:=fun _=>rfl
  rw[eq]at x;simp[eq];split at x;cases x;rename_i h2;let⟨n,hn⟩:=yZ iha 48 _ _ _ _ _ x;refine⟨n,fun m hm=>?_⟩;have a:=hn m hm;simp at a;rw[a];cases e with
  |a=>exact absurd x (h2 Z h')
  |_=>rfl
 |k i=>intro env h e Z h' x;exact⟨0,fun m _=>x⟩
 |p=>intro env h e Z h' x;exact⟨0,fun m _=>x⟩
 |j a l r iha ihr=>
  intro env h e Z h' x;have eq:∀f:aL,O_ f (.j a l r) env h=match O_ f a env h with
   |.b (.b i) env h=>bif Nat.beq i l then
    (match V8 (fun env h=>match O_ f r env h with
     |.b (.b i) env h=>bif Nat.beq i l then .b .a env h else .b (.b i) env h
     |.b .a env h=>.b (.b l) env h
     |r=>r) 48 env h with
     |.b .a _ _=>.a
     |.b (.b i) env h=>bif Nat.beq i l then .b .a env h else .a
     |r=>r)
    else .a
   |r=>r:=fun _=>rfl
  have ab:Lt (fun env h=>match O_ L r env h with
            |.b (.b i) env h=>bif Nat.beq i l then .b .a env h else .b (.b i) env h
            |.b .a env h=>.b (.b l) env h
            |r=>r) (fun m env h=>match O_ (c m) r env h with
            |.b (.b i) env h=>bif Nat.beq i l then .b .a env h else .b (.b i) env h
            |.b .a env h=>.b (.b l) env h
            |r=>r):=by
   intro env h e Z h' y;simp at y|-;split at y;rename_i i K h1 h2;let⟨n,hn⟩:=ihr _ _ _ _ _ h2;refine⟨n,fun m hm=>?_⟩;have a:=hn m hm;simp at a;rw[a];exact y;rename_i K h1 h2;let⟨n,hn⟩:=ihr _ _ _ _ _ h2;refine⟨n,fun m hm=>?_⟩;have a:=hn m hm;simp at a;rw[a];exact y;rename_i h2 h3;let⟨n,hn⟩:=ihr _ _ _ _ _ y;refine⟨n,fun m hm=>?_⟩;have a:=hn m hm;simp at a;rw[a];cases e with
   |a=>exact absurd y (h3 Z h')
   |b i=>exact absurd y (h2 i Z h')
   |_=>rfl
  rw[eq]at x;simp[eq];split at x;rename_i i K h1 h2;let⟨n,hn⟩:=iha _ _ _ _ _ h2;cases hb:Nat.beq i l;grind;rw[hb]at x;simp at x;split at x;cases x;rename_i j ac h3 h4;let⟨k,hk⟩:=yZ ab 48 _ _ _ _ _ h4;refine⟨max n k,fun m hm=>?_⟩;have a:=hn m oM;have b:=hk m oM;simp at a b;rw[a];simp[hb];rw[b];exact x;rename_i h3 h4;let⟨k,hk⟩:=yZ ab 48 _ _ _ _ _ x;refine⟨max n k,fun m hm=>?_⟩;have a:=hn m oM;have b:=hk m oM;simp at a b;rw[a];simp[hb];rw[b];cases e with
  |a=>exact absurd x (h3 Z h')
  |b i=>exact absurd x (h4 i Z h')
  |_=>rfl
  rename_i h2;let⟨n,hn⟩:=iha _ _ _ _ _ x;refine⟨n,fun m hm=>?_⟩;have a:=hn m hm;simp at a;rw[a];cases e with
  |b i=>exact absurd x (h2 i Z h')
  |_=>rfl
 |q l=>intro env h e Z h' x;exact⟨0,fun m _=>x⟩
 |h l late R reads sets=>intro env h e Z h' x;exact KD hL x
 |u=>intro env h e Z h' x;cases x
 |s g ps as bd iha ihb=>
  intro env h e Z h' x;have eq:∀f:aL,O_ f (.s g ps as bd) env h=match E_ [] env g with
   |some (.I (.func f0) first caps)=>bif Nat.blt f0 YB then
    (match f f0 (first++[.ak h.i]++caps) (T4 h (.b ps as bd env 0 none))with
     |some (_,h2)=>(match h2.S.c_ h.i with
      |some (.b _ _ _ _ st pend)=>bif Nat.beq st 1 then .a else .b (match pend with|some ex=>ex|none=>.a) env (K_ h2 h.i .d)
      |_=>.a)
     |none=>.a)
    else .a
   |_=>.a:=fun _=>rfl
  rw[eq]at x;simp only[eq];split at x;rename_i f0 first caps hg
  cases hb:Nat.blt f0 YB;grind;rw[hb]at x;simp only[cond_true]at x|-;split at x;rename_i u h2 hc;let⟨n,hn⟩:=hL _ _ _ _ hc;refine⟨n,fun m hm=>?_⟩;rw[hn m hm];exact x;cases x;cases x
 |v a iha=>
  intro env h e Z h' x;have eq:∀f:aL,O_ f (.v a) env h=match O_ f a env h with
   |.b .a env h=>iF f .a env h
   |.b .d env h=>iF f .d env h
   |_=>.a:=fun _=>rfl
  rw[eq]at x;simp[eq];have fin:∀ex K h1,iF L ex K h1=.b e Z h'->∃n,∀m,n<=m->iF (c m) ex K h1=.b e Z h':=by intro ex K h1 q;unfold iF at q|-;split at q;exact⟨0,fun _ _=>q⟩;split at q;rename_i hc;let⟨n,hn⟩:=hL _ _ _ _ hc;refine⟨n,fun m hm=>?_⟩;rw[hn m hm];exact q;cases q;cases q
  split at x;rename_i K h1 h2;let⟨n,hn⟩:=iha _ _ _ _ _ h2;let⟨j,hj⟩:=fin _ _ _ x;refine⟨max n j,fun m hm=>?_⟩;have a:=hn m oM;simp at a;rw[a];exact hj m oM;rename_i K h1 h2;let⟨n,hn⟩:=iha _ _ _ _ _ h2;let⟨j,hj⟩:=fin _ _ _ x;refine⟨max n j,fun m hm=>?_⟩;have a:=hn m oM;simp at a;rw[a];exact hj m oM;cases x
theorem KC(hL:i? c L){b:Nat}{vs:List V}{h:b_}{r:V×b_}(e:ZV (O_ L) b vs h=some r):∃n,∀m,n<=m->ZV (O_ (c m)) b vs h=some r:=by unfold ZV at e|-;split at e;rename_i ps as bd env hb;cases hl:Nat.beq vs.length ps.length;grind;rw[hl]at e;simp at e|-;split at e;rename_i ae h1 ab;let⟨n,hn⟩:=yU hL as _ _ _ _ _ ab;split at e;rename_i ak aj af an p1 K;split at e;rename_i ex ac h2 Z;let⟨j,hj⟩:=yU hL bd _ _ _ _ _ Z;refine⟨max n j,fun m hm=>?_⟩;have a:=hn m oM;have b:=hj m oM;simp at a b;rw[a];simp[K];rw[b];exact e;cases e;cases e;cases e;cases e
end
open Classical in
def ev(ov:aL)(F:T l_):aL:=fun f vs h=>
 if x:∃r,F? (Y7 ov F) f vs h r then some (Classical.choose x)else none
theorem Cc{ov:aL}{F:T l_}:i? (Y7 ov F) (ev ov F):=by intro f vs h r e;unfold ev at e;split at e;grind;cases e
theorem Cb{ov:aL}{F:T l_}{f:Nat}{vs:List V}{h:b_}{r:V×b_}(e:F? (Y7 ov F) f vs h r):ev ov F f vs h=some r:=by have x:∃r,F? (Y7 ov F) f vs h r:=⟨r,e⟩;unfold ev;rw[dif_pos x];exact congrArg some ((Classical.choose_spec x).b e)
theorem H8{P:Program}{G:Nat}{F:T l_}{ov:aL}(Z:fu P (ZG P G) G ov)(K:Ec P G F):fu P (ZG P G) G (ev ov F):=by intro f vs h v h' e;let⟨n,hn⟩:=Cc _ _ _ _ e;exact xf Z K n f vs h v h' (hn n (Ve n))
def uj:List V->V
 |[v]=>v
 |vs=>.G vs
theorem KA{ov:aL}{F:T l_}{f:Nat}{fn:l_}{vs:List V}{h Z:b_}{e:Ex}{env:T V}{rs:List V}(hf:F.c_ f=some fn)(hn:Nat.beq vs.length fn.b=true)
 (hb:O_ (ev ov F) fn.d (gV vs 0 .e) h=.b e env Z) (he:e=.a\/e=.d) (hr:fQ env Z fn.a=some rs):ev ov F f vs h=some (uj rs,Z):=by
 apply Cb;let⟨n,ab⟩:=yU Cc fn.d _ _ _ _ _ hb;refine⟨n+1,fun m hm=>?_⟩;obtain⟨k,rfl⟩:∃k,m=k+1:=⟨m-1,oM⟩;have eq:Y7 ov F (k+1) f vs h=match F.c_ f with
  |some fn=>bif Nat.beq vs.length fn.b then
   (match O_ (Y7 ov F k) fn.d (gV vs 0 .e) h with
    |.b .a env h=>match fQ env h fn.a with
     |some [v]=>fV v fun v=>some (v,h)
     |some vs=>some (.G vs,h)
     |none=>none
    |.b .d env h=>match fQ env h fn.a with
     |some [v]=>fV v fun v=>some (v,h)
     |some vs=>some (.G vs,h)
     |none=>none
    |_=>none)
   else none
  |none=>bif Nat.ble YB f then ZV (O_ (Y7 ov F k)) (f-YB) vs h else ov f vs h:=rfl
 have K:=ab k oM;simp at K;have fin:(match fQ env Z fn.a with
             |some [v]=>fV v fun v=>some (v,Z)
             |some vs=>some (.G vs,Z)
             |none=>none)=some (uj rs,Z):=by
  rw[hr];simp[AR];cases rs with
  |nil=>rfl
  |cons a t=>cases t with
   |nil=>rfl
   |cons b t=>rfl
 rw[eq,hf];simp[hn];rw[K];obtain rfl|rfl:=he<;>exact fin
theorem Oi{ov:aL}{F:T l_}{f:Nat}{vs:List V}{h:b_}{r:V×b_}(K:F.c_ f=none)(Z:Nat.ble YB f=false)(e:ov f vs h=some r):ev ov F f vs h=some r:=by
 refine Cb ⟨1,fun m hm=>?_⟩;obtain⟨k,rfl⟩:∃k,m=k+1:=⟨m-1,oM⟩;show(match F.c_ f with
  |some fn=>_
  |none=>bif Nat.ble YB f then _ else ov f vs h)=_
 rw[K];simp[Z];exact e
theorem AS{ov:aL}{F:T l_}{b:Nat}{vs:List V}{h:b_}{r:V×b_}(Z:F.c_ (YB+b)=none)(e:ZV (O_ (ev ov F)) b vs h=some r):ev ov F (YB+b) vs h=some r:=by
 let⟨n,hn⟩:=KC Cc e;refine Cb ⟨n+1,fun m K=>?_⟩;obtain⟨k,rfl⟩:∃k,m=k+1:=⟨m-1,oM⟩;show(match F.c_ (YB+b)with
  |some fn=>_
  |none=>bif Nat.ble YB (YB+b)then ZV (O_ (Y7 ov F k)) (YB+b-YB) vs h else ov (YB+b) vs h)=_
 rw[Z];simp[XS (Nat.le_add_right YB b)];exact hn k oM
section
variable {call : aL} {env : T V} {h : b_} {loc : List V}
def OQ(o:Option (V×b_))(K:V->b_->Prop):Prop:=∃v h,o=some (v,h)/\K v h
theorem cU(v:V)(h:b_)(K:V->b_->Prop):OQ (some (v,h)) K↔K v h:=
 ⟨fun⟨_,_,e,k⟩=>by cases e;exact k,fun k=>⟨v,h,rfl,k⟩⟩
def VQ(o:Option V)(K:V->b_->Prop)(h:b_):Prop:=∃v,o=some v/\K v h
theorem tc(v:V)(K:V->b_->Prop)(h:b_):VQ (some v) K h↔K v h:=
 ⟨fun⟨_,e,k⟩=>by cases e;exact k,fun k=>⟨v,rfl,k⟩⟩
def HQ(o:Option b_)(K:V->b_->Prop):Prop:=∃h,o=some h/\K (.G []) h
theorem D7(h:b_)(K:V->b_->Prop):HQ (some h) K↔K (.G []) h:=
 ⟨fun⟨_,e,k⟩=>by cases e;exact k,fun k=>⟨h,rfl,k⟩⟩
theorem OQ.b{o:Option (V×b_)}{K Z:V->b_->Prop}(a:OQ o K)(b:∀v h,K v h->Z v h):OQ o Z:=by let⟨v,h,e,k⟩:=a;exact⟨v,h,e,b _ _ k⟩
theorem rU(k:Nat):E_ loc env (.l k)=X0 loc k:=rfl
theorem jn(s:Nat):E_ loc env (.v s)=env.c_ s:=rfl
theorem Du(x:V):E_ loc env (.c x)=some x:=rfl
theorem LX(n:Nat):E_ loc env (.g n)=some (.u n 0):=rfl
def lQ(a:Option V)(b:Option (List V)):Option (List V):=match a,b with
 |some v,some vs=>some (v::vs)
 |_,_=>none
theorem dg(v:V)(vs:List V):lQ (some v) (some vs)=some (v::vs):=rfl
theorem dP:eP loc env []=some []:=rfl
theorem gR(x:G_)(xs:List G_):eP loc env (x::xs)=lQ (E_ loc env x) (eP loc env xs):=by show Option.rec (motive:=fun _=>Option (List V)) none (fun v=>Option.rec (motive:=fun _=>Option (List V)) none (fun vs=>some (v::vs)) (eP loc env xs)) (E_ loc env x)=_;cases E_ loc env x<;>cases eP loc env xs<;>rfl
theorem bX(v:V)(l:List V):X0 (v::l) 0=some v:=rfl
theorem db(v:V)(l:List V)(k:Nat):X0 (v::l) (k+1)=X0 l k:=rfl
theorem mX(i:Nat)(en:T V):gV [] i en=en:=rfl
def PQ(k:PK)(o:Option (List V))(K:V->b_->Prop)(h:b_):Prop:=∃vs,o=some vs/\VQ (aP k vs) K h
theorem tf(k:PK)(vs:List V)(K:V->b_->Prop):PQ k (some vs) K h↔VQ (aP k vs) K h:=
 ⟨fun⟨_,e,k⟩=>by cases e;exact k,fun k=>⟨vs,rfl,k⟩⟩
theorem JM(k:PK)(xs:List G_)(K:V->b_->Prop):OQ (aS call loc env h (.p k xs)) K↔PQ k (eP loc env xs) K h:=by
 simp[aS,OQ,PQ,VQ];cases eP loc env xs with
 |none=>simp
 |some vs=>cases Z:aP k vs with
  |none=>simp[Z]
  |some v=>simp[Z,and_assoc]
def LQ(h:b_)(n:Nat)(ia:Bool)(o:Option V)(K:V->b_->Prop):Prop:=∃p,o=some p/\VQ (jN h n ia p) K h
theorem zG(n:Nat)(ia:Bool)(p:V)(K:V->b_->Prop):LQ h n ia (some p) K↔VQ (jN h n ia p) K h:=
 ⟨fun⟨_,e,k⟩=>by cases e;exact k,fun k=>⟨p,rfl,k⟩⟩
theorem Hl(n:Nat)(Z:Bool)(x:G_)(K:V->b_->Prop):OQ (aS call loc env h (.a n Z x)) K↔LQ h n Z (E_ loc env x) K:=by
 simp[aS,OQ,LQ,VQ];cases E_ loc env x with
 |none=>simp
 |some p=>cases hx:jN h n Z p with
  |none=>simp[hx]
  |some v=>simp[hx,and_assoc]
def SQ(h:b_)(n:Nat)(o u:Option V)(K:V->b_->Prop):Prop:=∃p v,o=some p/\u=some v/\HQ (gT h n p v) K
theorem D4(n:Nat)(p v:V)(K:V->b_->Prop):SQ h n (some p) (some v) K↔HQ (gT h n p v) K:=
 ⟨fun⟨_,_,e,e2,k⟩=>by cases e;cases e2;exact k,fun k=>⟨p,v,rfl,rfl,k⟩⟩
theorem LD(n:Nat)(x y:G_)(K:V->b_->Prop):OQ (aS call loc env h (.g n x y)) K↔SQ h n (E_ loc env x) (E_ loc env y) K:=by
 simp only[aS,OQ,SQ,HQ];cases E_ loc env x with
 |none=>simp
 |some p=>cases E_ loc env y with
  |none=>simp
  |some v=>cases Z:gT h n p v with
   |none=>simp[Z]
   |some h'=>simp[Z,and_assoc]
theorem LM(zero:List V)(K:V->b_->Prop):OQ (aS call loc env h (.d zero)) K↔K (.u h.i 0) (k_ h zero):=by simp[aS,cU]
def BQ(o:Option V)(K:V->b_->Prop)(h:b_):Prop:=∃v,o=some v/\K (.u h.i 0) (k_ h v.s)
theorem Ek(v:V)(K:V->b_->Prop):BQ (some v) K h↔K (.u h.i 0) (k_ h v.s):=
 ⟨fun⟨_,e,k⟩=>by cases e;exact k,fun k=>⟨v,rfl,k⟩⟩
theorem LJ(x:G_)(K:V->b_->Prop):OQ (aS call loc env h (.r x)) K↔BQ (E_ loc env x) K h:=by
 simp[aS,OQ,BQ];cases E_ loc env x with
 |none=>simp
 |some v=>simp[and_assoc]
def BsQ(h:b_)(zero:List V)(places:List (Nat×Nat))(len:Nat)(o:Option (List V))(K:V->b_->Prop):Prop:=∃vs,o=some vs/\OQ (kw h zero places len vs) K
theorem BF(zero:List V)(places:List (Nat×Nat))(len:Nat)(vs:List V)(K:V->b_->Prop):BsQ h zero places len (some vs) K↔OQ (kw h zero places len vs) K:=
 ⟨fun⟨_,e,k⟩=>by cases e;exact k,fun k=>⟨vs,rfl,k⟩⟩
theorem LK(zero:List V)(Z:List (Nat×Nat))(len:Nat)(xs:List G_)(K:V->b_->Prop):
 OQ (aS call loc env h (.b zero Z len xs)) K↔BsQ h zero Z len (eP loc env xs) K:=by
 simp[aS,OQ,BsQ];cases eP loc env xs with
 |none=>simp
 |some vs=>simp
def CJ(f:V->V->Option (V×b_))(a b:Option V)(K:V->b_->Prop):Prop:=∃x y,a=some x/\b=some y/\OQ (f x y) K
theorem xU(f:V->V->Option (V×b_))(x y:V)(K:V->b_->Prop):CJ f (some x) (some y) K↔OQ (f x y) K:=
 ⟨fun⟨_,_,e,e2,k⟩=>by cases e;cases e2;exact k,fun k=>⟨x,y,rfl,rfl,k⟩⟩
theorem LE(zero:List V)(bytes:Nat)(x y:G_)(K:V->b_->Prop):
 OQ (aS call loc env h (.h zero bytes x y)) K↔CJ (xI h zero bytes) (E_ loc env x) (E_ loc env y) K:=by
 simp only[aS,OQ,CJ];cases E_ loc env x with
 |none=>simp
 |some l=>cases E_ loc env y with
  |none=>simp
  |some c=>simp
theorem LL(esz bytes:Nat)(x y:G_)(K:V->b_->Prop):
 OQ (aS call loc env h (.i esz bytes x y)) K↔CJ (jO h esz bytes) (E_ loc env x) (E_ loc env y) K:=by
 simp only[aS,OQ,CJ];cases E_ loc env x with
 |none=>simp
 |some l=>cases E_ loc env y with
  |none=>simp
  |some c=>simp
theorem LH(esz:Nat)(x y:G_)(K:V->b_->Prop):
 OQ (aS call loc env h (.q esz x y)) K↔CJ (nR h esz) (E_ loc env x) (E_ loc env y) K:=by
 simp only[aS,OQ,CJ];cases E_ loc env x with
 |none=>simp
 |some l=>cases E_ loc env y with
  |none=>simp
  |some c=>simp
def CfQ(call:aL)(f:Nat)(o:Option (List V))(h:b_)(K:V->b_->Prop):Prop:=∃vs,o=some vs/\OQ (call f vs h) K
theorem BE(f:Nat)(vs:List V)(K:V->b_->Prop):CfQ call f (some vs) h K↔OQ (call f vs h) K:=
 ⟨fun⟨_,e,k⟩=>by cases e;exact k,fun k=>⟨vs,rfl,k⟩⟩
theorem LI(f:Nat)(xs:List G_)(K:V->b_->Prop):OQ (aS call loc env h (.c f xs)) K↔CfQ call f (eP loc env xs) h K:=by
 simp[aS,OQ,CfQ];cases eP loc env xs with
 |none=>simp
 |some vs=>simp
def FQ(call:aL)(h:b_)(o:Option V)(vs:Option (List V))(K:V->b_->Prop):Prop:=
 ∃us,vs=some us/\((∃f first caps,o=some (.I (.func f) first caps)/\f<1099511627776/\OQ (call f (first++us++caps) h) K)\/(∃b,o=some (.ak b)/\OQ (call (YB+b) us h) K))
theorem Ee(f:Nat)(first caps us:List V)(K:V->b_->Prop):FQ call h (some (.I (.func f) first caps)) (some us) K↔(f<1099511627776/\OQ (call f (first++us++caps) h) K):=
 ⟨fun⟨_,e2,k⟩=>(by
  cases e2;obtain⟨_,_,_,e,k⟩|⟨_,e,_⟩:=k;cases e;exact k;cases e),fun k=>⟨us,rfl,.inl ⟨f,first,caps,rfl,k⟩⟩⟩
theorem CM(b:Nat)(us:List V)(K:V->b_->Prop):FQ call h (some (.ak b)) (some us) K↔OQ (call (YB+b) us h) K:=
 ⟨fun⟨_,e2,k⟩=>(by
  cases e2;obtain⟨_,_,_,e,_⟩|⟨_,e,k⟩:=k;cases e;cases e;exact k),fun k=>⟨us,rfl,.inr ⟨b,rfl,k⟩⟩⟩
theorem LF(x:G_)(xs:List G_)(K:V->b_->Prop):OQ (aS call loc env h (.e x xs)) K↔FQ call h (E_ loc env x) (eP loc env xs) K:=by
 simp only[aS,OQ,FQ];constructor;rintro⟨v,h',e,k⟩;split at e;rename_i f first caps hx
 cases hy:eP loc env xs with
 |none=>rw[hy]at e;cases e
 |some us=>rw[hy]at e;simp only[]at e;cases Z:Nat.blt f YB;grind;rw[Z]at e;simp only[cond_true]at e;exact⟨us,rfl,.inl ⟨f,first,caps,hx,(VE ..).mp Z,v,h',e,k⟩⟩
 grind;cases e;rintro⟨us,e2,⟨f,first,caps,e1,hf,v,h',e,k⟩|⟨b,e1,v,h',e,k⟩⟩;refine⟨v,h',?_,k⟩;rw[e1,e2];have Z:Nat.blt f YB=true:=(VE ..).mpr hf;simp only[Z,cond_true];exact e;grind
def NF(h:b_)(zero:List V)(o:Option V)(K:V->b_->Prop):Prop:=∃v,o=some v/\OQ (CB h zero v) K
theorem xX(zero:List V)(v:V)(K:V->b_->Prop):NF h zero (some v) K↔OQ (CB h zero v) K:=
 ⟨fun⟨_,e,k⟩=>by cases e;exact k,fun k=>⟨v,rfl,k⟩⟩
theorem Hn(zero:List V)(x:G_)(K:V->b_->Prop):OQ (aS call loc env h (.l zero x)) K↔NF h zero (E_ loc env x) K:=by
 simp[aS,OQ,NF];cases E_ loc env x with
 |none=>simp
 |some d=>simp
def WS(call:aL)(l:List n_)(loc:List V)(env:T V)(h:b_)(Q:T V->b_->Prop):Prop:=∃env' h',dV call l loc env h=.b .a env' h'/\Q env' h'
theorem zF(Q:T V->b_->Prop):WS call [] loc env h Q↔Q env h:=
 ⟨fun⟨_,_,e,q⟩=>by cases e;exact q,fun q=>⟨env,h,rfl,q⟩⟩
def kl(call:aL)(l:List n_)(loc:List V)(env:T V)(Q:T V->b_->Prop):V->b_->Prop:=fun v h=>WS call l (v::loc) env h Q
def kv(call:aL)(l:List n_)(loc:List V)(env:T V)(d:Nat)(Q:T V->b_->Prop):V->b_->Prop:=fun v h=>WS call l loc (env.B_ d v) h Q
theorem yH(l:List n_)(Q:T V->b_->Prop)(v:V):kl call l loc env Q v h↔WS call l (v::loc) env h Q:=Xf
theorem yG(l:List n_)(d:Nat)(Q:T V->b_->Prop)(v:V):kv call l loc env d Q v h↔WS call l loc (env.B_ d v) h Q:=Xf
theorem Lc(o:Q_)(l:List n_)(Q:T V->b_->Prop):WS call (⟨none,o,none⟩::l) loc env h Q↔OQ (aS call loc env h o) (kl call l loc env Q):=by
 simp[WS,dd,V3,OQ,kl];cases aS call loc env h o with
 |none=>simp
 |some r=>let⟨v,Z⟩:=r;simp[kV,iB,and_assoc]
theorem La(o:Q_)(d:Nat)(l:List n_)(Q:T V->b_->Prop):WS call (⟨none,o,some d⟩::l) loc env h Q↔OQ (aS call loc env h o) (kv call l loc env d Q):=by
 simp[WS,dd,V3,OQ,kv];cases aS call loc env h o with
 |none=>simp
 |some r=>let⟨v,Z⟩:=r;simp[kV,iB,and_assoc]
def GQ(o:Option V)(want:Bool)(A B:Prop):Prop:=(∃b,o=some (.h b)/\if b=want then A else B)\/((∃l,o=some (.G l))/\B)
theorem qA(b want:Bool)(A B:Prop):GQ (some (.h b)) want A B↔if b=want then A else B:=
 ⟨fun x=>(by
  obtain⟨_,e,k⟩|⟨⟨_,e⟩,_⟩:=x;cases e;exact k;cases e),fun k=>.inl ⟨b,rfl,k⟩⟩
theorem CL(t:List V)(want:Bool)(A B:Prop):GQ (some (.G t)) want A B↔B:=
 ⟨fun x=>(by
  obtain⟨_,e,k⟩|⟨_,k⟩:=x;cases e;exact k),fun k=>.inr ⟨⟨t,rfl⟩,k⟩⟩
def GS(o:Option V)(want:Bool)(call:aL)(p:Q_)(l:List n_)(loc:List V)(env:T V)(h:b_)(Q:T V->b_->Prop):Prop:=
 GQ o want (OQ (aS call loc env h p) (kl call l loc env Q)) (WS call l (.G []::loc) env h Q)
theorem D9(b want:Bool)(p:Q_)(l:List n_)(Q:T V->b_->Prop):GS (some (.h b)) want call p l loc env h Q↔
 if b=want then OQ (aS call loc env h p) (kl call l loc env Q)else WS call l (.G []::loc) env h Q:=qA _ _ _ _
theorem Jp(t:List V)(want:Bool)(p:Q_)(l:List n_)(Q:T V->b_->Prop):GS (some (.G t)) want call p l loc env h Q↔WS call l (.G []::loc) env h Q:=CL _ _ _ _
def GV(o:Option V)(want:Bool)(call:aL)(p:Q_)(d:Nat)(l:List n_)(loc:List V)(env:T V)(h:b_)(Q:T V->b_->Prop):Prop:=
 GQ o want (OQ (aS call loc env h p) (kv call l loc env d Q)) (WS call l loc (env.B_ d (.G [])) h Q)
theorem D8(b want:Bool)(p:Q_)(d:Nat)(l:List n_)(Q:T V->b_->Prop):GV (some (.h b)) want call p d l loc env h Q↔
 if b=want then OQ (aS call loc env h p) (kv call l loc env d Q)else WS call l loc (env.B_ d (.G [])) h Q:=qA _ _ _ _
theorem Jo(t:List V)(want:Bool)(p:Q_)(d:Nat)(l:List n_)(Q:T V->b_->Prop):GV (some (.G t)) want call p d l loc env h Q↔WS call l loc (env.B_ d (.G [])) h Q:=CL _ _ _ _
theorem Oy(x:G_)(Z:Bool)(o:Q_)(l:List n_)(Q:T V->b_->Prop):WS call (⟨some (x,Z),o,none⟩::l) loc env h Q↔GS (E_ loc env x) Z call o l loc env h Q:=by
 simp only[WS,dd,V3,OQ,GQ,GS,kl];cases E_ loc env x with
 |none=>simp
 |some b=>
  cases b with
  |h b=>
   have hb:(!(xor b Z))=decide (b=Z):=by grind
   simp only[hb];by_cases K:b=Z;simp only[K,decide_true];cases aS call loc env h o with
   |none=>simp
   |some r=>let⟨v,h'⟩:=r;simp[kV,iB,and_assoc]
   simp only[K,decide_false];simp[K,kV,iB]
  |G t=>simp[kV,iB]
  |_=>simp
theorem Me(x:G_)(Z:Bool)(o:Q_)(d:Nat)(l:List n_)(Q:T V->b_->Prop):WS call (⟨some (x,Z),o,some d⟩::l) loc env h Q↔GV (E_ loc env x) Z call o d l loc env h Q:=by
 simp only[WS,dd,V3,OQ,GQ,GV,kv];cases E_ loc env x with
 |none=>simp
 |some b=>
  cases b with
  |h b=>
   have hb:(!(xor b Z))=decide (b=Z):=by grind
   simp only[hb];by_cases K:b=Z;simp only[K,decide_true];cases aS call loc env h o with
   |none=>simp
   |some r=>let⟨v,h'⟩:=r;simp[kV,iB,and_assoc]
   simp only[K,decide_false];simp[K,kV,iB]
  |G t=>simp[kV,iB]
  |_=>simp
def W(call:aL)(c:IC)(env:T V)(h:b_)(Q:Ex->T V->b_->Prop):Prop:=∃e env' h',O_ call c env h=.b e env' h'/\Q e env' h'
def zU(call:aL)(b:IC)(Q:Ex->T V->b_->Prop):Ex->T V->b_->Prop:=fun e env h=>match e with
 |.a=>W call b env h Q
 |e=>Q e env h
theorem jV(b:IC)(Q:Ex->T V->b_->Prop):zU call b Q .a env h↔W call b env h Q:=Xf
theorem wi(b:IC)(Q:Ex->T V->b_->Prop):zU call b Q .d env h↔Q .d env h:=Xf
theorem tA(b:IC)(i:Nat)(Q:Ex->T V->b_->Prop):zU call b Q (.c i) env h↔Q (.c i) env h:=Xf
theorem tw(b:IC)(i:Nat)(Q:Ex->T V->b_->Prop):zU call b Q (.b i) env h↔Q (.b i) env h:=Xf
theorem IZ(Q:Ex->T V->b_->Prop):W call .i env h Q↔Q .a env h:=
 ⟨fun⟨_,_,_,e,q⟩=>by cases e;exact q,fun q=>⟨_,_,_,rfl,q⟩⟩
theorem DZ(Q:Ex->T V->b_->Prop):W call .p env h Q↔Q .d env h:=
 ⟨fun⟨_,_,_,e,q⟩=>by cases e;exact q,fun q=>⟨_,_,_,rfl,q⟩⟩
theorem I3(i:Nat)(Q:Ex->T V->b_->Prop):W call (.k i) env h Q↔Q (.c i) env h:=
 ⟨fun⟨_,_,_,e,q⟩=>by cases e;exact q,fun q=>⟨_,_,_,rfl,q⟩⟩
theorem I1(i:Nat)(Q:Ex->T V->b_->Prop):W call (.q i) env h Q↔Q (.b i) env h:=
 ⟨fun⟨_,_,_,e,q⟩=>by cases e;exact q,fun q=>⟨_,_,_,rfl,q⟩⟩
theorem W.ag{c:IC}{Q Q':Ex->T V->b_->Prop}(a:W call c env h Q)(b:∀e env h,Q e env h->Q' e env h):W call c env h Q':=by let⟨e,Z,K,x,q⟩:=a;exact⟨e,Z,K,x,b _ _ _ q⟩
theorem yT(a b:IC):O_ call (.f a b) env h=match O_ call a env h with
      |.b .a env h=>O_ call b env h
      |r=>r:=rfl
theorem DX(a b:IC)(Q:Ex->T V->b_->Prop):W call (.f a b) env h Q↔W call a env h (zU call b Q):=by
 constructor;rintro⟨e,Z,h',x,q⟩;rw[yT]at x;split at x;rename_i K h1 h2;exact⟨.a,K,h1,h2,e,Z,h',x,q⟩;rename_i h2;refine⟨e,Z,h',x,?_⟩;cases e with
 |a=>exact absurd x (h2 Z h')
 |_=>exact q
 rintro⟨e,K,h1,x,q⟩;cases e with
 |a=>let⟨e,Z,h',y,q⟩:=q;exact⟨e,Z,h',by rw[yT,x];exact y,q⟩
 |_=>exact⟨_,K,h1,by rw[yT,x],q⟩
def L6(o:Option V)(call:aL)(a b:IC)(env:T V)(h:b_)(Q:Ex->T V->b_->Prop):Prop:=∃t,o=some (.h t)/\if t=true then W call a env h Q else W call b env h Q
theorem uS(t:Bool)(a b:IC)(Q:Ex->T V->b_->Prop):L6 (some (.h t)) call a b env h Q↔if t=true then W call a env h Q else W call b env h Q:=
 ⟨fun⟨_,e,k⟩=>by cases e;exact k,fun k=>⟨t,rfl,k⟩⟩
theorem I4(x:G_)(a b:IC)(Q:Ex->T V->b_->Prop):W call (.e x a b) env h Q↔L6 (E_ [] env x) call a b env h Q:=by
 have eq:O_ call (.e x a b) env h=match E_ [] env x with
  |some (.h t)=>bif t then O_ call a env h else O_ call b env h
  |_=>.a:=rfl
 constructor;rintro⟨e,Z,K,y,q⟩;rw[eq]at y;split at y;rename_i t ht;refine⟨t,ht,?_⟩;cases t;exact⟨e,Z,K,y,q⟩;exact⟨e,Z,K,y,q⟩;cases y;rintro⟨t,ht,k⟩;cases t;let⟨e,Z,K,y,q⟩:=k;exact⟨e,Z,K,by rw[eq,ht];exact y,q⟩;let⟨e,Z,K,y,q⟩:=k;exact⟨e,Z,K,by rw[eq,ht];exact y,q⟩
def vj(id:Nat)(Q:Ex->T V->b_->Prop):Ex->T V->b_->Prop:=fun e env h=>match e with
 |.c i=>if i=id then Q .a env h else Q (.c i) env h
 |e=>Q e env h
theorem sd(id:Nat)(Q:Ex->T V->b_->Prop):vj id Q .a env h↔Q .a env h:=Xf
theorem vh(id:Nat)(Q:Ex->T V->b_->Prop):vj id Q .d env h↔Q .d env h:=Xf
theorem sf(id i:Nat)(Q:Ex->T V->b_->Prop):vj id Q (.b i) env h↔Q (.b i) env h:=Xf
theorem jq(id i:Nat)(Q:Ex->T V->b_->Prop):vj id Q (.c i) env h↔if i=id then Q .a env h else Q (.c i) env h:=Xf
theorem D1(K:Nat)(a:IC)(Q:Ex->T V->b_->Prop):W call (.d K a) env h Q↔W call a env h (vj K Q):=by
 have eq:O_ call (.d K a) env h=match O_ call a env h with
  |.b (.c i) env h=>bif Nat.beq i K then .b .a env h else .b (.c i) env h
  |r=>r:=rfl
 constructor;rintro⟨e,ab,h',x,q⟩;rw[eq]at x;split at x;rename_i i Z h1 h2;refine⟨_,_,_,h2,?_⟩;rw[jq];by_cases hi:i=K;subst hi;simp at x;obtain⟨rfl,rfl,rfl⟩:=x;simpa using q;rw[if_neg hi];have:Nat.beq i K=false:=by cases hb:Nat.beq i K;rfl;exact absurd (Vf hb) hi
 rw[this]at x;cases x;exact q;rename_i h2;refine⟨e,ab,h',x,?_⟩;cases e with
 |c i=>exact absurd x (h2 i ab h')
 |_=>exact q
 rintro⟨e,Z,h1,x,q⟩;cases e with
 |c i=>
  rw[jq]at q;by_cases hi:i=K;rw[if_pos hi]at q;exact⟨.a,Z,h1,by rw[eq,x];subst hi;simp,q⟩;rw[if_neg hi]at q;have:Nat.beq i K=false:=by cases hb:Nat.beq i K;rfl;exact absurd (Vf hb) hi
  exact⟨.c i,Z,h1,by rw[eq,x];simp[this],q⟩
 |_=>exact⟨_,Z,h1,by rw[eq,x],q⟩
theorem D0(l:List n_)(Q:Ex->T V->b_->Prop):W call (.o l) env h Q↔WS call l [] env h (Q .a):=by
 constructor;rintro⟨e,Z,h',x,q⟩;have hn:∀(l:List n_)(K:List V)(env:T V)(h:b_),dV call l K env h=.b e Z h'->e=.a:=by
  intro l;induction l with
  |nil=>intro K env h x;cases x;rfl
  |cons s l ih=>intro K env h x;rw[dd]at x;split at x;grind;exact ih _ _ _ x;cases x
 have:=hn _ _ _ _ x;subst this;exact⟨Z,h',x,q⟩;rintro⟨Z,h',x,q⟩;exact⟨_,_,_,x,q⟩
def ZW(body:T V->b_->S9):Nat->T V->b_->S9
 |0,env,h=>.b .a env h
 |n+1,env,h=>match body env h with
  |.b .a env h=>ZW body n env h
  |r=>r
theorem Ke(body:T V->b_->S9):∀(a b:Nat)(env:T V)(h:b_),ZW body (a+b) env h=match ZW body a env h with
 |.b .a env h=>ZW body b env h
 |r=>r:=by
 intro a;induction a with
 |zero=>intro b env h;simp[ZW]
 |succ a ih=>
  intro b env h;rw[Nat.succ_add];simp[ZW];cases body env h with
  |a=>rfl
  |b e env1 h1=>cases e with
   |a=>exact ih b env1 h1
   |_=>rfl
theorem sV(body:T V->b_->S9)(k:Nat):∀(env:T V)(h:b_),V8 body k env h=ZW body (2^k) env h:=by
 induction k with
 |zero=>
  intro env h;show body env h=ZW body 1 env h;simp[ZW];cases body env h with
  |a=>rfl
  |b e env1 h1=>cases e<;>rfl
 |succ k ih=>
  intro env h;show(match V8 body k env h with
   |.b .a env h=>V8 body k env h
   |r=>r)=_
  rw[Nat.pow_succ,Nat.mul_two,Ke,ih];cases ZW body (2^k) env h with
  |a=>rfl
  |b e env1 h1=>cases e with
   |a=>exact ih env1 h1
   |_=>rfl
def oF(I:Nat->T V->b_->Prop)(k:Nat)(Q:Ex->T V->b_->Prop):Ex->T V->b_->Prop:=fun e env h=>match e with
 |.a=>∃k',k'<k/\I k' env h
 |e=>Q e env h
theorem Ly(I:Nat->T V->b_->Prop)(k:Nat)(Q:Ex->T V->b_->Prop):oF I k Q .a env h↔∃k',k'<k/\I k' env h:=Xf
theorem tU(I:Nat->T V->b_->Prop)(k:Nat)(Q:Ex->T V->b_->Prop):oF I k Q .d env h↔Q .d env h:=Xf
theorem kQ(I:Nat->T V->b_->Prop)(k i:Nat)(Q:Ex->T V->b_->Prop):oF I k Q (.c i) env h↔Q (.c i) env h:=Xf
theorem rJ(I:Nat->T V->b_->Prop)(k i:Nat)(Q:Ex->T V->b_->Prop):oF I k Q (.b i) env h↔Q (.b i) env h:=Xf
theorem LP{body:T V->b_->S9}(I:Nat->T V->b_->Prop)(Q:Ex->T V->b_->Prop)
 (K:∀k env h,I k env h->∃e env' h',body env h=.b e env' h'/\oF I k Q e env' h'):
 ∀(n k:Nat)(env:T V)(h:b_),I k env h->k<n->∃e env' h',ZW body n env h=.b e env' h'/\e≠.a/\Q e env' h':=by
 intro n;induction n with
 |zero=>intro k env h _ hk;omega
 |succ n ih=>
  intro k env h Z hk;let⟨e,ab,h1,x,q⟩:=K k env h Z;simp only[ZW,x];cases e with
  |a=>let⟨k',ac,q⟩:=q;exact ih k' ab h1 q oM
  |_=>exact⟨_,_,_,rfl,iS,q⟩
theorem aC{body:IC}{Q:Ex->T V->b_->Prop}(I:Nat->T V->b_->Prop)(n:Nat)(K:n<281474976710656)(h0:I n env h)
 (Z:∀k env h,I k env h->W call body env h (oF I k Q)):W call (.n body) env h Q:=by
 have eq:O_ call (.n body) env h=match V8 (O_ call body) 48 env h with
  |.b .a _ _=>.a
  |r=>r:=rfl
 let⟨e,ab,h',x,ne,q⟩:=LP I Q Z (2^48) n env h h0 (eV K);refine⟨e,ab,h',?_,q⟩;rw[eq,sV,x];cases e with
 |a=>exact absurd rfl ne
 |_=>rfl
theorem DY{c r:IC}{l:Nat}{Q:Ex->T V->b_->Prop}(I:Nat->T V->b_->Prop)(n:Nat)(K:n<281474976710656)
 (h0:W call c env h (fun e env' h'=>match e with
  |.b i=>i=l/\I n env' h'
  |e=>Q e env' h'))
 (hr:∀k env h,I k env h->W call r env h (fun e env' h'=>match e with
  |.b i=>i=l/\∃k',k'<k/\I k' env' h'
  |e=>Q e env' h')):W call (.j c l r) env h Q:=by
 have eq:O_ call (.j c l r) env h=match O_ call c env h with
  |.b (.b i) env h=>bif Nat.beq i l then
   (match V8 (fun env h=>match O_ call r env h with
    |.b (.b i) env h=>bif Nat.beq i l then .b .a env h else .b (.b i) env h
    |.b .a env h=>.b (.b l) env h
    |r=>r) 48 env h with
    |.b .a _ _=>.a
    |.b (.b i) env h=>bif Nat.beq i l then .b .a env h else .a
    |r=>r)
   else .a
  |r=>r:=rfl
 let⟨e,ab,h1,x,q⟩:=h0;cases e with
 |b i=>
  obtain⟨rfl,q⟩:=q;let⟨e,env',h',y,ne,q⟩:=LP (body:=fun env h=>match O_ call r env h with
            |.b (.b j) env h=>bif Nat.beq j i then .b .a env h else .b (.b j) env h
            |.b .a env h=>.b (.b i) env h
            |r=>r) I (fun e env' h'=>match e with
             |.b j=>j=i/\Q .a env' h'
             |e=>Q e env' h') (fun k env h Z=>by
   let⟨e,ac,h2,z,q⟩:=hr k env h Z;simp[z];cases e with
   |a=>exact⟨_,_,_,rfl,rfl,q⟩
   |b j=>obtain⟨rfl,k',hk,q⟩:=q;exact⟨.a,ac,h2,iS,k',hk,q⟩
   |_=>exact⟨_,_,_,rfl,q⟩) (2^48) n ab h1 q (eV K)
  cases e with
  |a=>exact absurd rfl ne
  |b j=>obtain⟨rfl,q⟩:=q;refine⟨.a,env',h',?_,q⟩;rw[eq,x];simp only[WO,cond_true,sV];rw[y];simp
  |d=>refine⟨.d,env',h',?_,q⟩;rw[eq,x];simp only[WO,cond_true,sV];rw[y]
  |c j=>refine⟨.c j,env',h',?_,q⟩;rw[eq,x];simp only[WO,cond_true,sV];rw[y]
 |a=>exact⟨_,_,_,by rw[eq,x],q⟩
 |d=>exact⟨_,_,_,by rw[eq,x],q⟩
 |c j=>exact⟨_,_,_,by rw[eq,x],q⟩
theorem J5(l:List n_):∀(i:Nat)(Z:List V)(h:b_),Q8 call env [] l i Z h=some (l.map fun s=>(s,none),h):=by
 induction l with
 |nil=>intro i Z h;rfl
 |cons s l ih=>intro i Z h;simp[Q8,ih]
def WD(call:aL)(env:T V)(l:List DS)(loc:List V)(hs:List b_)(h:b_)(K:List V->List b_->Prop):Prop:=
 ∃loc' hs',iZ call env l loc hs h=some (loc',hs')/\K loc' hs'
theorem I5(hs:List b_)(K:List V->List b_->Prop):WD call env [] loc hs h K↔K loc hs:=
 ⟨fun⟨_,_,e,k⟩=>by cases e;exact k,fun k=>⟨_,_,rfl,k⟩⟩
def kd(call:aL)(env:T V)(l:List DS)(loc:List V)(hs:List b_)(h:b_)(e:Bool)(K:List V->List b_->Prop):V->b_->Prop:=fun v h'=>
 if e=true then WD call env l (v::loc) (h'::hs) h' K else WD call env l (v::loc) hs h K
theorem N8(l:List DS)(Z:List b_)(h0:b_)(K:List V->List b_->Prop)(v:V):kd call env l loc Z h0 true K v h↔WD call env l (v::loc) (h::Z) h K:=by simp[kd]
theorem Ob(l:List DS)(Z:List b_)(h0:b_)(K:List V->List b_->Prop)(v:V):kd call env l loc Z h0 false K v h↔WD call env l (v::loc) Z h0 K:=by simp[kd]
theorem Oz(o:Q_)(l:List DS)(Z:List b_)(K:List V->List b_->Prop):WD call env ((⟨none,o,none⟩,none)::l) loc Z h K↔
 OQ (aS call loc env h o) (kd call env l loc Z h (g_ o) K):=by
 simp only[WD,iG,V3,OQ,kd];cases aS call loc env h o with
 |none=>simp
 |some r=>let⟨v,h'⟩:=r;cases g_ o<;>simp[and_assoc]
def GD(o:Option V)(want:Bool)(call:aL)(env:T V)(p:Q_)(l:List DS)(loc:List V)(hs:List b_)(h:b_)(e:Bool)(K:List V->List b_->Prop):Prop:=
 GQ o want (OQ (aS call loc env h p) (kd call env l loc hs h e K)) (if e=true then WD call env l (.G []::loc) (h::hs) h K else WD call env l (.G []::loc) hs h K)
theorem Eb(b want:Bool)(p:Q_)(l:List DS)(hs:List b_)(e:Bool)(K:List V->List b_->Prop):GD (some (.h b)) want call env p l loc hs h e K↔
 if b=want then OQ (aS call loc env h p) (kd call env l loc hs h e K)else(if e=true then WD call env l (.G []::loc) (h::hs) h K else WD call env l (.G []::loc) hs h K):=qA _ _ _ _
theorem Jr(t:List V)(want:Bool)(p:Q_)(l:List DS)(hs:List b_)(e:Bool)(K:List V->List b_->Prop):GD (some (.G t)) want call env p l loc hs h e K↔
 (if e=true then WD call env l (.G []::loc) (h::hs) h K else WD call env l (.G []::loc) hs h K):=CL _ _ _ _
theorem OA(x:G_)(Z:Bool)(o:Q_)(l:List DS)(hs:List b_)(K:List V->List b_->Prop):WD call env ((⟨some (x,Z),o,none⟩,none)::l) loc hs h K↔
 GD (E_ loc env x) Z call env o l loc hs h (g_ o) K:=by
 simp only[WD,iG,V3,OQ,GQ,GD,kd];cases E_ loc env x with
 |none=>simp
 |some b=>
  cases b with
  |h b=>
   have hb:(!(xor b Z))=decide (b=Z):=by grind
   simp only[hb];by_cases hw:b=Z;grind;grind
  |G t=>cases g_ o<;>simp
  |_=>simp
theorem de(s:n_)(u:V)(c:List V)(l:List DS)(Z:List b_)(K:List V->List b_->Prop):WD call env ((s,some (u,c))::l) loc Z h K↔
 cI loc env s.a u c=true/\WD call env l (u::loc) Z h K:=by
 simp[WD,iG];cases cI loc env s.a u c<;>simp
def DE(call:aL)(l:List n_)(reads:List (Nat×Nat×Nat))(sets:List (Nat×Nat))(env:T V)(Q:T V->b_->Prop)(loc:List V)(hs:List b_):Prop:=
 reads.all (oG call env l loc hs)=true/\∃env' h' hs',i9 l.length loc sets env=some env'/\hs=h'::hs'/\Q env' h'
theorem K9(l:List n_)(ab R:List Nat)(Z:List (Nat×Nat×Nat))(K:List (Nat×Nat))(Q:Ex->T V->b_->Prop){dl:List DS}{h1:b_}(hl:Q8 call env ab l 0 [] h=some (dl,h1)):
 WD call env dl [] [h1] h1 (DE call l Z K env (Q .a))->W call (.h l ab R Z K) env h Q:=by
 rintro⟨af,hs,e,hr,ac,h',ae,hset,rfl,q⟩;refine⟨.a,ac,h',?_,q⟩;show j? call l ab Z K env h=_;unfold j?;simp[hl,e,hr,hset]
theorem wC(o:Q_)(v:V):gU call loc env o v []=true↔True:=by simp[gU]
def kr(v:V):V->b_->Prop:=fun u _=>R4 u v=true
theorem HH(v u:V):kr v u h↔R4 u v=true:=Xf
theorem tV(o:Q_)(v:V)(Z:List b_):gU call loc env o v (h::Z)=true↔OQ (aS call loc env h o) (kr v)/\gU call loc env o v Z=true:=by
 simp only[gU,OQ,Vd,kr];cases aS call loc env h o with
 |none=>simp
 |some r=>let⟨u,K⟩:=r;simp
mutual
theorem eW:∀(v:V),R4 v v=true
 |.h b=>by cases b<;>rfl
 |.C k n=>by simp only[R4,fC];cases k<;>simp[lE]
 |.f s=>by simp[R4]
 |.K=>rfl
 |.u _ _=>by simp[R4]
 |.j=>rfl
 |.z _ _ _ _=>by simp[R4]
 |.L _ _ _ _=>by simp[R4]
 |.F=>rfl
 |.af=>rfl
 |.ad _=>by simp[R4]
 |.ak _=>by simp[R4]
 |.aa _ _=>by simp[R4]
 |.R=>rfl
 |.I _ a c=>by simp[R4,eN a,eN c]
 |.am=>rfl
 |.ah _ v=>by simp[R4,eW v]
 |.B l=>by simp[R4,eN l]
 |.G l=>by simp[R4,eN l]
theorem eN:∀(v:List V),nT v v=true
 |[]=>rfl
 |v::l=>by simp[nT,eW v,eN l]
end
theorem wp(n:Nat):i9 n loc [] env=some env:=rfl
theorem BK(n s i:Nat)(r:List (Nat×Nat)):i9 n loc ((s,i)::r) env=match X0 loc (n-i-1)with
 |some v=>i9 n loc r (env.B_ s v)
 |none=>none:=by
 rw[gN];rfl
def av(call:aL)(f:Nat)(vs:List V)(h:b_)(R:V->b_->Prop):Prop:=OQ (call f vs h) R
theorem aa{f:Nat}{vs:List V}{R K:V->b_->Prop}(d:av call f vs h R)(k:∀v h',R v h'->K v h'):OQ (call f vs h) K:=d.b k
def RsQ(o:Option (List V))(R:V->b_->Prop)(h:b_):Prop:=∃vs,o=some vs/\R (uj vs) h
theorem qt(vs:List V)(R:V->b_->Prop):RsQ (some vs) R h↔R (uj vs) h:=
 ⟨fun⟨_,e,k⟩=>by cases e;exact k,fun k=>⟨vs,rfl,k⟩⟩
def jz(rs:List RV)(R:V->b_->Prop):Ex->T V->b_->Prop:=fun e env h=>(e=.a\/e=.d)/\RsQ (fQ env h rs) R h
theorem xV(rs:List RV)(R:V->b_->Prop):jz rs R .a env h↔RsQ (fQ env h rs) R h:=by simp[jz]
theorem qv(rs:List RV)(R:V->b_->Prop):jz rs R .d env h↔RsQ (fQ env h rs) R h:=by simp[jz]
theorem pW:fQ env h []=some []:=rfl
theorem yS(s:Nat)(rs:List RV):fQ env h (.t s::rs)=lQ (env.c_ s) (fQ env h rs):=by
 simp[fQ,evR];cases env.c_ s with
 |none=>rfl
 |some v=>cases fQ env h rs<;>rfl
theorem H9(s n:Nat)(Z:Bool)(rs:List RV):fQ env h (.c s n Z::rs)=lQ ((env.c_ s).bind fun v=>jN h n Z v) (fQ env h rs):=by
 simp[fQ,evR];cases env.c_ s with
 |none=>rfl
 |some p=>
  simp;cases jN h n Z p with
  |none=>rfl
  |some v=>cases fQ env h rs<;>rfl
theorem wG:uj []=.G []:=rfl
theorem mF(v:V):uj [v]=v:=rfl
theorem wF(v u:V)(l:List V):uj (v::u::l)=.G (v::u::l):=rfl
theorem ai{ov:aL}{F:T l_}{f n:Nat}{b:IC}{rs:List RV}{vs:List V}{R:V->b_->Prop}(Z:W (ev ov F) b (gV vs 0 .e) h (jz rs R))
 (K:F.c_ f=some ⟨n,b,rs⟩:=by exact rfl) (hn:Nat.beq vs.length n=true:=by exact rfl):av (ev ov F) f vs h R:=by
 let⟨e,ab,h',x,he,rs,hr,q⟩:=Z;exact⟨_,_,KA K hn x he hr,q⟩
end
end Go.Ev
namespace Go.Ev
abbrev Xk:=@Go.Ev.OQ.b
end Go.Ev
