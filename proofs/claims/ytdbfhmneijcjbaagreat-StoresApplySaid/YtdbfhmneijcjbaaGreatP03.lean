/- An evaluator of the program, and contracts over it: EvV to EvWa. -/
import Derived.Test.YtdbfhmneijcjbaaGreatP02
set_option linter.unusedSimpArgs false
set_option linter.unusedVariables false
set_option linter.constructorNameAsVariable false
set_option linter.unnecessarySimpa false
namespace Go.Ev
variable {K : LG -> Prop}
def wK:List Nat->List Nat->Bool
 |[],[]=>true
 |a::l,b::r=>Nat.beq a b&&wK l r
 |_,_=>false
theorem uQ:∀{l r:List Nat},wK l r=true->l=r
 |[],[],_=>rfl
 |[],_::_,h=>by cases h
 |_::_,[],h=>by cases h
 |a::l,b::r,h=>by simp only[wK,RU]at h;rw[RY h.1,uQ h.2]
def bP(P:Program)(C:Cx):IC->Code->Bool
 |.skip,.skip=>true
 |.skip,.label _=>true
 |.ops l,.region _ ops false=>gZ P C ops ops.toList l []
 |.seq a b,.seq x y=>bP P C a x&&bP P C b y
 |.cond x a b,.cond c t e=>mg C [] c x&&bP P C a t&&bP P C b e
 |.block id c,.block id' c'=>Nat.beq id id'&&bP P C c c'
 |.loop c,.loop c'=>bP P C c c'
 |.exit id,.exit id'=>Nat.beq id id'
 |.ret,.ret=>true
 |.scope c l r,.scope c'=>bP P C c c'&&(match findLabel c' l with
  |some r'=>bP P C r r'
  |none=>false)
 |.goto l,.goto l'=>Nat.beq l l'
 |.dops l late R reads sets,.region _ ops true=>Kq P C ops l late (bOf ops) R reads sets
 |.bad,_=>true
 |.rf g ps a b,.rangeFunc g' ps' a' b'=>mg C [] g' g&&wK ps'.toList ps&&ps.all (fun p=>C.vars.contains p&&Nat.blt p C.N)&&bP P {C with df:=false} a a'&&bP P {C with df:=false} b b'
 |_,_=>false
def jE:Ex->Exit
 |.norm=>.normal
 |.ret=>.ret
 |.exit id=>.exit id
 |.goto l=>.goto l
section
variable {P : Program} {Q : Exit -> Act -> World -> Prop} {a : Act} {w : World} {ro : Option Nat}
theorem wG(n:Nat):(FR ro).room n:=fun _ h=>by simp[Fence.wide]at h
theorem wA{b:Frame}{c:Code}{k:List Item}{cs:List Frame}:
 step P (lone (b.atR a (.code (.scope c)::k)) cs w)=.next (lone (b.atR a (.code c::.inScope c::k)) cs w):=
 step_lone_go (by simp[stepG,stepG.exec,Frame.atR])
theorem rg{b:Frame}{c:Code}{k:List Item}{cs:List Frame}:
 step P (lone (b.atR a (.inScope c::k)) cs w)=.next (lone (b.atR a k) cs w):=
 step_lone_go (by simp[stepG,stepG.exec,Frame.atR])
theorem BR{fr:Frame}{cs:List Frame}(ha:fr.about P w=none):(lone fr cs w).fenced P (FR ro):=fenced_calm (n:=0) trivial (wG _) ha
def lU(ro:Option Nat)(P:Program)(c x:Code)(Q:Exit->Act->World->Prop)(a:Act)(w:World):Prop:=
 ∀(b:Frame)(k:List Item)(cs:List Frame),b.roundOf=ro->∃e a' w',Q e a' w'/\ArrivesIn (Machine.fenced P (FR ro)) P (lone (b.atR a (.code x::.inScope c::k)) cs w) b k cs e a' w'
theorem xP{c:Code}(h:lU ro P c c Q a w):(Code.scope c).wpIn (FR ro) 0 P Q a w:=fun b k cs hro _ _=>
 let⟨e,a',w',q,r⟩:=h b k cs hro;⟨e,a',w',q,.of_steps (.one (BR rfl) wA) r⟩
theorem sD{c x:Code}(h:x.wpIn (FR ro) 0 P (fun e a' w'=>match e with
 |.goto l=>(match findLabel c l with
  |some r=>lU ro P c r Q a' w'
  |none=>Q (.goto l) a' w')
 |e=>Q e a' w') a w):lU ro P c x Q a w:=by
 intro b k cs K;let⟨e,a₁,w₁,hq,harr⟩:=h b (.inScope c::k) cs K trivial (wG _);cases e with
 |normal=>exact⟨.normal,a₁,w₁,hq,StepsIn.trans harr (.one (BR rfl) rg)⟩
 |exit id=>exact⟨.exit id,a₁,w₁,hq,fun k' Z=>harr.1 k' (by simpa[exitTo]using Z),fun hr Z=>harr.2 hr (by simpa[exitTo]using Z)⟩
 |goto l=>
  simp only[]at hq;cases hf:findLabel c l with
  |none=>rw[hf]at hq;exact⟨.goto l,a₁,w₁,hq,fun k' Z=>harr.1 k' (by simp[gotoIn,hf,Z]),fun hr Z=>harr.2 hr (by simp[gotoIn,hf,Z])⟩
  |some r=>rw[hf]at hq;let⟨e,a₂,w₂,hq₂,harr₂⟩:=hq b k cs K;exact⟨e,a₂,w₂,hq₂,.of_steps (harr.1 _ (by simp[gotoIn,hf])) harr₂⟩
 |ret=>exact⟨.ret,a₁,w₁,hq,harr⟩
 |panic ch=>exact⟨.panic ch,a₁,w₁,hq,harr⟩
 |outgrown=>exact⟨.outgrown,a₁,w₁,hq,harr⟩
def tO(ro:Option Nat)(P:Program)(c:Code)(Q:Exit->Act->World->Prop)(a:Act)(w:World):Prop:=
 ∀(b:Frame)(k:List Item)(cs:List Frame),b.roundOf=ro->∃e a' w',Q e a' w'/\ArrivesIn (Machine.fenced P (FR ro)) P (lone (b.atR a (.code c::.inLoop c::k)) cs w) b k cs e a' w'
theorem z8{c:Code}(h:tO ro P c Q a w):(Code.loop c).wpIn (FR ro) 0 P Q a w:=fun b k cs hro _ _=>
 let⟨e,a',w',q,r⟩:=h b k cs hro;⟨e,a',w',q,.of_steps (.one (BR rfl) stepR_loop) r⟩
theorem C8{c:Code}(h:c.wpIn (FR ro) 0 P (Exit.then (tO ro P c Q) Q) a w):tO ro P c Q a w:=by
 intro b k cs Z;let⟨e,a₁,w₁,hq,harr⟩:=h b (.inLoop c::k) cs Z trivial (wG _);cases e with
 |normal=>let⟨e₂,a₂,w₂,hq₂,harr₂⟩:=hq b k cs Z;exact⟨e₂,a₂,w₂,hq₂,.of_steps (StepsIn.trans harr (.one (BR rfl) stepR_inLoop)) harr₂⟩
 |exit id=>exact⟨_,a₁,w₁,hq,.pass (x:=.inLoop c) rfl (fun _ _=>.inl iS) harr⟩
 |goto l=>exact⟨_,a₁,w₁,hq,.pass (x:=.inLoop c) rfl (fun _ _=>.inl iS) harr⟩
 |ret=>exact⟨_,a₁,w₁,hq,.pass (x:=.inLoop c) rfl (fun _ _=>.inl iS) harr⟩
 |panic ch=>exact⟨_,a₁,w₁,hq,.pass (x:=.inLoop c) rfl (fun _ _=>.inl iS) harr⟩
 |outgrown=>exact⟨_,a₁,w₁,hq,.pass (x:=.inLoop c) rfl (fun _ _=>.inl iS) harr⟩
end
def RoOK(ro:Option Nat)(w:World):Prop:=∀l,ro=some l->∃r,w.heap[l]? =some (.loop r)
theorem RoOK.ext{ro:Option Nat}{m Z:M}{h K:Heap}{w w':World}(a:RoOK ro w)(E:Ext m h w Z K w'):RoOK ro w':=by
 intro l hl;let⟨r,hr⟩:=a l hl;let⟨x',h1,h2⟩:=E.out l (Tn.1 hr).1 _ hr;cases x' with
 |loop r'=>exact⟨r',h1⟩
 |_=>cases h2
structure Cir(K:LG->Prop)(C:Cx)(ro:Option Nat)(B:Nat)(m:M)(h:Heap)(w:World)(env:T V)(a:Act):Prop where
 g:Glob K C.G m
 e:ERel C m env a
 h:HRel m h w
 d:DsR C B m w env a.defers
 b:B<=w.heap.size
 r:RoOK ro w
def Hx(K:LG->Prop)(C:Cx)(ro:Option Nat)(B:Nat)(m:M)(h:Heap)(w:World)(R:Act->World->Prop)(env':T V)(h':Heap):Prop:=
 ∀a' w' m',Cir K C ro B m' h' w' env' a'->Ext m h w m' h' w'->R a' w'
def KJ(K:LG->Prop)(C:Cx)(ro:Option Nat)(B:Nat)(ev:T V->Heap->Out)(W:(Exit->Act->World->Prop)->Act->World->Prop):Prop:=
 ∀(Q:Exit->Act->World->Prop) env h m a w ex env' h',Cir K C ro B m h w env a->ev env h=.ok ex env' h'->
  Hx K C ro B m h w (Q (jE ex)) env' h'->W Q a w
theorem FV(body:T V->Heap->Out)(env:T V)(h:Heap):dbl body 0 env h=body env h:=rfl
theorem zj(body:T V->Heap->Out)(k:Nat)(env:T V)(h:Heap):dbl body (k+1) env h=match dbl body k env h with
 |.ok .norm env h=>dbl body k env h
 |r=>r:=rfl
theorem Ao{P:Program}{C:Cx}{ro:Option Nat}{B:Nat}{body:T V->Heap->Out}{c:Code}(hb:KJ K C ro B body (fun Q a w=>c.wpIn (FR ro) 0 P Q a w))(Q:Exit->Act->World->Prop):
 ∀(k:Nat) env h m a w ex env' h',Cir K C ro B m h w env a->dbl body k env h=.ok ex env' h'->
  Hx K C ro B m h w (Exit.then (tO ro P c Q) Q (jE ex)) env' h'->tO ro P c Q a w:=by
 intro k;induction k with
 |zero=>intro env h m a w ex env' h' Z e hL;exact C8 (hb _ env h m a w ex env' h' Z e hL)
 |succ k ih=>
  intro env h m a w ex env' h' Z e hL;rw[zj]at e;cases h1:dbl body k env h with
  |fail=>rw[h1]at e;cases e
  |ok ak env1 h2=>
   rw[h1]at e;cases ak with
   |norm=>simp only[]at e;refine ih env h m a w .norm env1 h2 Z h1 (fun a' w' m' ax E'=>?_);exact ih env1 h2 m' a' w' ex env' h' ax e (fun ar ae af ac an=>hL ar ae af ac (E'.trans an))
   |ret=>simp only[]at e;cases e;exact ih env h m a w _ _ _ Z h1 hL
   |exit id=>simp only[]at e;cases e;exact ih env h m a w _ _ _ Z h1 hL
   |goto l=>simp only[]at e;cases e;exact ih env h m a w _ _ _ Z h1 hL
def pD(ro:Option Nat)(P:Program)(c:Code)(Q:Exit->Act->World->Prop):Exit->Act->World->Prop:=fun e a' w'=>match e with
 |.goto l=>(match findLabel c l with
  |some r=>lU ro P c r Q a' w'
  |none=>Q (.goto l) a' w')
 |e=>Q e a' w'
noncomputable def xY(l:Nat)(r:T V->Heap->Out):T V->Heap->Out:=fun env h=>match r env h with
 |.ok (.goto i) env h=>bif Nat.beq i l then .ok .norm env h else .ok (.goto i) env h
 |.ok .norm env h=>.ok (.goto l) env h
 |r=>r
def dec(l:Nat):Ex->Exit
 |.norm=>.goto l
 |.goto i=>if i=l then .normal else .goto i
 |.ret=>.ret
 |.exit id=>.exit id
theorem yG{P:Program}{C:Cx}{ro:Option Nat}{B:Nat}{body:T V->Heap->Out}{c r:Code}{l:Nat}(hf:findLabel c l=some r)(hb:KJ K C ro B body (fun Q a w=>r.wpIn (FR ro) 0 P Q a w))(Q:Exit->Act->World->Prop):
 ∀(k:Nat) env h m a w ex env' h',Cir K C ro B m h w env a->dbl (xY l body) k env h=.ok ex env' h'->
  Hx K C ro B m h w (pD ro P c Q (dec l ex)) env' h'->lU ro P c r Q a w:=by
 intro k;induction k with
 |zero=>
  intro env h m a w ex env' h' hC e hL;rw[FV]at e;unfold xY at e;cases h1:body env h with
  |fail=>rw[h1]at e;cases e
  |ok Z env1 h2=>
   rw[h1]at e;have ac:jE Z=dec l ex->env1=env'->h2=h'->lU ro P c r Q a w:=by rintro e1 rfl rfl;refine sD (hb (pD ro P c Q) env h m a w Z env1 h2 hC h1 ?_);rw[e1];exact hL
   cases Z with
   |norm=>simp only[]at e;cases e;exact ac (by simp[dec,jE]) rfl rfl
   |ret=>simp only[]at e;cases e;exact ac rfl rfl rfl
   |exit id=>simp only[]at e;cases e;exact ac rfl rfl rfl
   |goto i=>
    simp only[]at e;cases hb:Nat.beq i l;rw[hb]at e;simp only[cond_false]at e;cases e;exact ac (by
     have:i≠l:=by intro q;subst q;simp at hb
     simp[dec,jE,this]) rfl rfl
    rw[hb]at e;simp only[cond_true]at e;cases e;exact ac (by have:=RY hb;subst this;rfl) rfl rfl
 |succ k ih=>
  intro env h m a w ex env' h' hC e hL;rw[zj]at e;cases h1:dbl (xY l body) k env h with
  |fail=>rw[h1]at e;cases e
  |ok Z env1 h2=>
   rw[h1]at e;cases Z with
   |norm=>simp only[]at e;refine ih env h m a w .norm env1 h2 hC h1 (fun a' w' m' ax E'=>?_);simp only[dec,pD,hf];exact ih env1 h2 m' a' w' ex env' h' ax e (fun ar af ak ae an=>hL ar af ak ae (E'.trans an))
   |ret=>simp only[]at e;cases e;exact ih env h m a w _ _ _ hC h1 hL
   |exit id=>simp only[]at e;cases e;exact ih env h m a w _ _ _ hC h1 hL
   |goto l=>simp only[]at e;cases e;exact ih env h m a w _ _ _ hC h1 hL
def LOK(P:Program)(G:Nat)(g:LG):Prop:=
 bP P ⟨G,g.vars,g.N,false⟩ g.as g.r.assign=true/\bP P ⟨G,g.vars,g.N,false⟩ g.bd g.r.body=true/\g.r.params.toList=g.ps/\g.r.tmps.size=g.N/\
 (∀p∈g.ps,g.vars.contains p=true/\p<g.N)/\g.vars.contains DSL=false
theorem DsR.fresh{C:Cx}{B:Nat}{m:M}{w:World}{env:T V}{ds:List Deferred}(D:DsR C B m w env ds):∀d∈ds,d.target≠.collected w.heap.size:=by
 have key:∀l,Marks B m w l->∀d∈l,d.target≠.collected w.heap.size:=by
  intro l;induction l with
  |nil=>intro _ d Z;simp at Z
  |cons x l ih=>rintro⟨⟨r,h1,h2,h3,_⟩,t⟩ d Z;obtain rfl|Z:=Sk.1 Z;grind;exact ih t d Z
 unfold DsR at D;split at D;obtain⟨d1,d,d2,rfl,⟨f,first,caps,ac,A,C',_,_,Z,_⟩,q3⟩:=D;intro x K;rw[pi,Sk]at K;obtain q|rfl|q:=K;exact key _ q3 x (pi.2 (.inl q));grind;exact key _ q3 x (pi.2 (.inr q));exact key _ D
theorem lW{P:Program}{w:World}{fn:FuncId}{tmps:Array Value}{ps:Array Tmp}{assign body:Code}{l:Nat}{r:Loop}(h:w.heap[l]? =some (.loop r)):
 (Instr.enterLoop fn tmps ps assign body (some l)).run P w=
  .ok (w.heap.size,[]) (w.alloc (.loop {state:=.ready,pending:=none,fn,tmps,params:=ps,assign,body,defers:=r.defers})):=by
 unfold Instr.enterLoop;simp only[Sq,run_getLoop h,run_newObj_alloc,Result.andThen,Sy]
theorem AA{P:Program}{C:Cx}{ro:Option Nat}{B:Nat}{m:M}{h:Heap}{w:World}{env:T V}{a:Act}(hC:Cir K C ro B m h w env a)(fn:FuncId)(ps:Array Tmp)(assign body:Code):
 ∃(l:Nat)(Z:List Deferred)(w1:World)(df:Nat),(Instr.enterLoop fn a.tmps ps assign body ro).run P w=.ok (l,Z) w1/\
  (∀i,i<w.heap.size->w1.heap[i]? =w.heap[i]?)/\w.heap.size<=l/\w.heap.size<=w1.heap.size/\w1.os=w.os/\w1.tape=w.tape/\w1.output=w.output/\
  w1.heap[l]? =some (.loop {state:=.ready,pending:=none,fn,tmps:=a.tmps,params:=ps,assign,body,defers:=df})/\
  (Z=[]\/(Z=[{target:=.collected w.heap.size,args:= #[]}]/\w1.heap[w.heap.size]? =some (.deferred (some []))/\l≠w.heap.size)):=by
 cases ro with
 |none=>refine⟨w.heap.size+1,_,_,w.heap.size,run_enterLoop_outer fn a.tmps ps assign body,fun i hi=>?_,oM,by simp;omega,rfl,rfl,rfl,?_,.inr ⟨rfl,?_,oM⟩⟩;rw[heap_alloc_old _ _ _ oO,heap_alloc_old _ _ _ hi];have:=World.alloc_heap_new (w.alloc (.deferred (some []))) (.loop {state:=.ready,pending:=none,fn,tmps:=a.tmps,params:=ps,assign,body,defers:=w.heap.size});rwa[World.size_alloc]at this;rw[heap_alloc_old _ _ _ iS];exact World.alloc_heap_new w _
 |some lo=>let⟨r,hr⟩:=hC.r lo rfl;refine⟨w.heap.size,_,_,r.defers,lW hr,fun i hi=>heap_alloc_old _ _ _ hi,RW _,iS,rfl,rfl,rfl,World.alloc_heap_new w _,.inl rfl⟩
theorem jG{P:Program}{C:Cx}{ro:Option Nat}{B:Nat}{call:aI}(hcall:eN P K C.G call)(hK:∀g,LOK P C.G g→K g)(hro:C.df=true→ro=none):∀(ic:IC)(c:Code),bP P C ic c=true→KJ K C ro B (evC call ic) (fun Q a w=>c.wpIn (FR ro) 0 P Q a w):=by
 intro ic;induction ic with
 |skip=>
  intro c hc Q env h m a w ex env' h' hC e hL;cases e;cases c<;>simp[bP]at hc
  exact wpIn_skip (hL a w m hC (Ext.refl _ _ _));exact wpIn_label (hL a w m hC (Ext.refl _ _ _))
 |ops l=>
  intro c hc Q env h m a w ex env' h' hC e hL;have e':dM call l [] env h=.ok ex env' h':=e;cases c with
  |region id ops dr=>
   cases dr with
   |true=>simp[bP]at hc
   |false=>
    apply wpIn_region;have hs:=xZ hcall (Q:=Q) hro ops.toList 0 l [] [] env h m a w ex env' h' iS hc hC.g (fun t s hs=>by simp[fc]at hs) hC.e hC.h hC.d e'
     (fun a' w' m' hx hE' H' E' hd=>by subst hx;exact hL a' w' m' ⟨hC.g.ext E',hE',H',hd,Nat.le_trans hC.b E'.size,hC.r.ext E'⟩ E')
    simpa[List.range_eq_range']using hs
  |_=>simp[bP]at hc
 |seq x y ihx ihy=>
  intro c hc Q env h m a w ex env' h' hC e hL;cases c<;>simp[bP]at hc;rename_i c1 c2;have e':(match evC call x env h with|.ok .norm env h=>evC call y env h|r=>r)=.ok ex env' h':=e
  apply wpIn_seq;cases h1:evC call x env h with
  |fail=>rw[h1]at e';cases e'
  |ok ex1 env1 h2=>
   rw[h1]at e';refine ihx c1 hc.1 _ env h m a w ex1 env1 h2 hC h1 (fun a' w' m' hC' E'=>?_);cases ex1 with
   |norm=>simp only[]at e';exact ihy c2 hc.2 Q env1 h2 m' a' w' ex env' h' hC' e' (fun a'' w'' m'' hC'' E''=>hL a'' w'' m'' hC'' (E'.trans E''))
   |ret=>simp only[]at e';cases e';exact hL a' w' m' hC' E'
   |exit id=>simp only[]at e';cases e';exact hL a' w' m' hC' E'
   |goto l=>simp only[]at e';cases e';exact hL a' w' m' hC' E'
 |cond x y z ihy ihz=>
  intro c hc Q env h m a w ex env' h' hC e hL;cases c<;>simp[bP]at hc;rename_i co c1 c2;have e':(match evO [] env x with|some (.bool t)=>bif t then evC call y env h else evC call z env h|_=>.fail)=.ok ex env' h':=e
  split at e';rename_i t ht;have hr:=gI hC.g (σ:=[]) (fun t s hs=>by simp[fc]at hs) hC.e hc.1.1 ht;simp only[VRel]at hr;apply wpIn_cond (t:=t) hr;cases t;simp only[cond_false]at e';exact ihz c2 hc.2 Q env h m a w ex env' h' hC e' hL;simp only[cond_true]at e';exact ihy c1 hc.1.2 Q env h m a w ex env' h' hC e' hL;cases e'
 |block id x ih=>
  intro c hc Q env h m a w ex env' h' hC e hL;cases c<;>simp[bP]at hc;rename_i id' c1;obtain⟨hid,hc⟩:=hc;subst hid;have e':(match evC call x env h with|.ok (.exit i) env h=>bif Nat.beq i id then .ok .norm env h else .ok (.exit i) env h|r=>r)=Out.ok ex env' h':=e
  apply wpIn_block;cases h1:evC call x env h with
  |fail=>rw[h1]at e';cases e'
  |ok ex1 env1 h2=>
   rw[h1]at e';refine ih c1 hc _ env h m a w ex1 env1 h2 hC h1 (fun a' w' m' hC' E'=>?_);cases ex1 with
   |norm=>simp only[]at e';cases e';exact hL a' w' m' hC' E'
   |ret=>simp only[]at e';cases e';exact hL a' w' m' hC' E'
   |goto l=>simp only[]at e';cases e';exact hL a' w' m' hC' E'
   |exit i=>
    simp only[]at e';cases hb:Nat.beq i id;rw[hb]at e';simp only[cond_false]at e';cases e';have:i≠id:=by intro q;subst q;simp at hb
    simp only[jE,Exit.inBlock,if_neg this];exact hL a' w' m' hC' E';rw[hb]at e';simp only[cond_true]at e';cases e';have:=Nat.eq_of_beq_eq_true hb;subst this;simp only[jE,Exit.inBlock,if_true];exact hL a' w' m' hC' E'
 |loop x ih=>
  intro c hc Q env h m a w ex env' h' hC e hL;cases c<;>simp[bP]at hc;rename_i c1;have e':(match dbl (evC call x) 48 env h with|.ok .norm _ _=>.fail|r=>r)=Out.ok ex env' h':=e
  apply z8;cases h1:dbl (evC call x) 48 env h with
  |fail=>rw[h1]at e';cases e'
  |ok ex1 env1 h2=>
   rw[h1]at e';refine Ao (ih c1 hc) Q 48 env h m a w ex1 env1 h2 hC h1 (fun a' w' m' hC' E'=>?_);cases ex1 with
   |norm=>cases e'
   |ret=>simp only[]at e';cases e';exact hL a' w' m' hC' E'
   |exit i=>simp only[]at e';cases e';exact hL a' w' m' hC' E'
   |goto l=>simp only[]at e';cases e';exact hL a' w' m' hC' E'
 |exit id=>intro c hc Q env h m a w ex env' h' hC e hL;cases c<;>simp[bP]at hc;subst hc;cases e;exact wpIn_exit (hL a w m hC (Ext.refl _ _ _))
 |ret=>intro c hc Q env h m a w ex env' h' hC e hL;cases c<;>simp[bP]at hc;cases e;exact wpIn_ret (hL a w m hC (Ext.refl _ _ _))
 |scope x l r ihx ihr=>
  intro c hc Q env h m a w ex env' h' hC e hL;cases c<;>simp only[bP,Bool.false_eq_true]at hc;rename_i c1;simp only[Bool.and_eq_true]at hc;let⟨hc1,hc2⟩:=hc;split at hc2
  rename_i r' hf;have e':(match evC call x env h with
   |.ok (.goto i) env h=>bif Nat.beq i l then
    (match dbl (xY l (evC call r)) 48 env h with
     |.ok .norm _ _=>.fail
     |.ok (.goto i) env h=>bif Nat.beq i l then .ok .norm env h else .fail
     |r=>r)
    else .fail
   |r=>r)=Out.ok ex env' h':=e
  refine xP (sD ?_);cases h1:evC call x env h with
  |fail=>rw[h1]at e';cases e'
  |ok ex1 env1 h2=>
   rw[h1]at e';refine ihx c1 hc1 (pD ro P c1 Q) env h m a w ex1 env1 h2 hC h1 (fun a' w' m' hC' E'=>?_);cases ex1 with
   |norm=>simp only[]at e';cases e';exact hL a' w' m' hC' E'
   |ret=>simp only[]at e';cases e';exact hL a' w' m' hC' E'
   |exit i=>simp only[]at e';cases e';exact hL a' w' m' hC' E'
   |goto i=>
    simp only[]at e';cases hb:Nat.beq i l;rw[hb]at e';cases e';rw[hb]at e';simp only[cond_true]at e';have:=Nat.eq_of_beq_eq_true hb;subst this;simp only[jE,pD,hf];cases h3:dbl (xY i (evC call r)) 48 env1 h2 with
    |fail=>rw[h3]at e';cases e'
    |ok ex2 env2 h4=>
     rw[h3]at e';refine yG hf (ihr r' hc2) Q 48 env1 h2 m' a' w' ex2 env2 h4 hC' h3 (fun a'' w'' m'' hC'' E''=>?_);have hE3:=E'.trans E'';cases ex2 with
     |norm=>cases e'
     |ret=>simp only[]at e';cases e';exact hL a'' w'' m'' hC'' hE3
     |exit j=>simp only[]at e';cases e';exact hL a'' w'' m'' hC'' hE3
     |goto j=>simp only[]at e';cases hj:Nat.beq j i;rw[hj]at e';cases e';rw[hj]at e';simp only[cond_true]at e';cases e';have:=Nat.eq_of_beq_eq_true hj;subst this;simp only[dec,if_true,pD];exact hL a'' w'' m'' hC'' hE3
  cases hc2
 |goto l=>intro c hc Q env h m a w ex env' h' hC e hL;cases c<;>simp[bP]at hc;subst hc;cases e;exact wpIn_goto (hL a w m hC (Ext.refl _ _ _))
 |dops l late R reads sets=>
  intro c hc Q env h m a w ex env' h' hC e hL;cases c with
  |region id ops dr=>
   cases dr with
   |false=>simp[bP]at hc
   |true=>exact AC hcall hc hC.g hC.e hC.h e (fun a' w' m' hx hE' H' E' hd hde=>by
    subst hx;exact hL a' w' m' ⟨hC.g.ext E',hE',H',by rw[hd];exact(hC.d.ext E').congr hde,Nat.le_trans hC.b E'.size,hC.r.ext E'⟩ E')
  |_=>simp[bP]at hc
 |bad=>intro c hc Q env h m a w ex env' h' hC e hL;cases e
 |wd x ih=>intro c hc;cases c<;>simp[bP]at hc
 |rf g ps as bd iha ihb=>
  intro c hc Q env h m a w ex env' h' hC e hL;cases c<;>simp only[bP,Bool.false_eq_true]at hc;rename_i g' ps' as' bd';simp only[Bool.and_eq_true]at hc;let⟨⟨⟨⟨hcg,hps⟩,hpv⟩,hca⟩,hcb⟩:=hc;have e':(match evO [] env g with
   |some (.func (.func f) first caps)=>bif Nat.blt f YB then
    (match call f (first++[.yld h.next]++caps) (hnew h (.lp ps as bd env 0 none))with
     |some (_,h2)=>(match h2.bl.get h.next with
      |some (.lp _ _ _ _ st pend)=>bif Nat.beq st 1 then .fail else .ok (match pend with|some ex=>ex|none=>.norm) env (hset h2 h.next .dead)
      |_=>.fail)
     |none=>.fail)
    else .fail
   |_=>.fail)=Out.ok ex env' h':=e
  split at e';rename_i f first caps hg
  cases hlt:Nat.blt f YB;rw[hlt]at e';cases e';rw[hlt]at e';simp only[cond_true]at e';split at e';rename_i u h2 hcl;split at e';rename_i ps2 as2 bd2 en2 st pend hb2;cases hst:Nat.beq st 1;rw[hst]at e';simp only[cond_false,Out.ok.injEq]at e';obtain⟨rfl,rfl,rfl⟩:=e';have hgv:=gI hC.g (σ:=[]) (fun t s hs=>by simp[fc]at hs) hC.e hcg hg;let⟨f',c',hfe,rf,rc⟩:=hgv;apply wpIn_rangeFunc;intro fn _;let⟨l,mark,w1,df,hent,hk,hge,hsz,hos,htp,hou,hrec,hmark⟩:=AA (P:=P) hC fn ps' as' bd';have hGL:∃G0:LG,G0={r:={state:=.ready,pending:=none,fn,tmps:=a.tmps,params:=ps',assign:=as',body:=bd',defers:=df},ps:=ps,as:=as,bd:=bd,vars:=C.vars,N:=C.N}:=⟨_,rfl⟩;let⟨G0,hG0⟩:=hGL;have hLOK:LOK P C.G G0:=by rw[hG0];refine⟨hca,hcb,uQ hps,hC.e.1,fun p hp=>?_,hC.e.2.2⟩;have:=List.all_eq_true.1 hpv p hp;simpa using this
  have H1:HRel (eh m h.next ⟨l,0,0,some G0⟩) (hnew h (.lp ps as bd env 0 none)) w1:=by have:=hC.h.allocL (w1:=w1) (L:=l) (g:=G0) (env:=env) hk hge (by rw[hG0];exact hrec) (by rw[hG0];exact hC.e.2.1);rw[hG0]at this⊢;exact this
  have hle1:=hC.h.le_mset ⟨l,0,0,some G0⟩;have hGl1:Glob K C.G (eh m h.next ⟨l,0,0,some G0⟩):=by refine⟨fun g hg=>let⟨r,hr⟩:=hC.g.1 g hg;⟨r,hle1 _ _ hr⟩,fun p loc g hp hl=>?_⟩;by_cases q:p=h.next;subst q;rw[aA]at hp;cases hp;simp only[Option.some.injEq]at hl;subst hl;exact hK _ hLOK;rw[aE _ _ q]at hp;exact hC.g.2 p loc g hp hl
  have hlt':=(Nat.blt_eq ..).mp hlt;let⟨hf,hcc⟩:=(hcall f _ _ u h2 hcl).1 hlt';have hargs:VsRel (eh m h.next ⟨l,0,0,some G0⟩) (first++[.yld h.next]++caps) (f'++[.func (.yield l) #[] #[]]++c'):=
   VsRel.append (VsRel.append (VsRel.mono hle1 _ _ rf) ⟨_,_,rfl,⟨_,aA _ _ _,rfl⟩,rfl⟩) (VsRel.mono hle1 _ _ rc)
  have hcalls:=(hcc _ w1 _ hargs H1 hGl1).1;refine⟨l,mark,w1,{target:=.fn (.func f) (List.toArray c'),args:=List.toArray (f'++[.func (.yield l) #[] #[]])},w1,f,List.toArray (f'++[.func (.yield l) #[] #[]]++c'),w1,hent,?_,fun _ _=>trivial,?_,fun q=>absurd q (by simp[Fence.wide]),?_⟩;simp only[resolve,hfe,Deferred.ofValue,Sem.run_pure];congr 1;simp[Act.eval];simp only[invoke];rw[(iS:(List.toArray (f'++[Value.func (.yield l) #[] #[]])++List.toArray c')=List.toArray (f'++[.func (.yield l) #[] #[]]++c'))];exact gC hf;have hcl2:CallsIn Fence.wide 0 P f (List.toArray (f'++[.func (.yield l) #[] #[]]++c')) w1 (ma (eh m h.next ⟨l,0,0,some G0⟩) (hnew h (.lp ps as bd env 0 none)) w1 u h2):=callsIn_wide.2 hcalls;apply CallsIn.mono (F:=FR ro) (n:=0) hcl2;rintro en w3 ⟨x,m2,rfl,rx,H2,E2⟩;have hm2:=E2.le h.next _ (aA m h.next ⟨l,0,0,some G0⟩);let⟨g2,hg2,_,_,_,hr2,_⟩:=H2.loop hm2 hb2;have hnb:(lst st)≠.busy:=by
   intro q;match st,hst,q with
   |0,_,q=>cases q
   |1,hst,_=>cases hst
   |2,_,q=>cases q
   |n+3,_,q=>cases q
  have hend:=run_endLoop (P:=P) hr2 hnb;refine⟨_,_,hend,?_⟩;have H3:=H2.endL hm2 hb2 (.loop {({g2.r with state:=lst st,pending:=pend.map iI}:Loop)with state:=.exhausted});have E3:=Ext.loop (o:=.loop {({g2.r with state:=lst st,pending:=pend.map iI}:Loop)with state:=.exhausted}) hC.h hk hge hsz hos htp hou E2;have hD3:DsR C B (eh m2 h.next ⟨l,0,0,none⟩) (w3.putObj l (.loop {({g2.r with state:=lst st,pending:=pend.map iI}:Loop)with state:=.exhausted})) env (mark++a.defers):=by
   have hD:=hC.d.ext E3;obtain rfl|⟨rfl,hmk,hlne⟩:=hmark;exact hD;have hoff1:Off (eh m h.next ⟨l,0,0,some G0⟩) w.heap.size:=by intro p loc hp;by_cases q:p=h.next;subst q;rw[aA]at hp;cases hp;exact hlne;rw[aE _ _ q]at hp;have:=hC.h.inb p loc hp;omega
   have hltm:=(Array.getElem?_eq_some_iff.1 hmk).1;refine hD.push hC.b ?_ ?_ hC.d.fresh;rw[World.putObj_heap_other (Ne.symm hlne)];exact(E2.keep _ hoff1 hltm).trans hmk;intro p loc hp;by_cases q:p=h.next;subst q;rw[aA]at hp;cases hp;exact hlne;rw[aE _ _ q]at hp;exact hoff1.ext E2 hltm p loc hp
  have hC3:Cir K C ro B (eh m2 h.next ⟨l,0,0,none⟩) (hset h2 h.next .dead) (w3.putObj l (.loop {({g2.r with state:=lst st,pending:=pend.map iI}:Loop)with state:=.exhausted})) env {a with defers:=mark++a.defers}:=
   ⟨hC.g.ext E3,⟨hC.e.1,fun s v hs=>(hC.e.2.1 s v hs).imp id fun q=>⟨q.1,VRel.mono E3.le _ _ q.2⟩,hC.e.2.2⟩,H3,hD3,Nat.le_trans hC.b E3.size,hC.r.ext E3⟩
  have fin:=hL _ _ _ hC3 E3;cases pend with
  |none=>exact fin
  |some ex=>
   cases ex with
   |norm=>exact wpIn_skip fin
   |ret=>exact wpIn_ret fin
   |exit id=>exact wpIn_exit fin
   |goto t=>exact wpIn_goto fin
  rw[hst]at e';cases e';cases e';cases e';cases e'
def kL(P:Program)(vars:List Nat):List ResultVar->List RV->Bool
 |[],[]=>true
 |.tmp t::rs,.t s::qs=>Nat.beq t s&&vars.contains t&&kL P vars rs qs
 |.cell a t::rs,.c s n ia::qs=>Nat.beq a s&&vars.contains a&&dH P t n&&oX P t ia&&kL P vars rs qs
 |_,_=>false
def JO(P:Program)(G:Nat)(vars:List Nat)(n:Nat)(b:IC)(c:Code):Bool:=
 match b with
 |.wd b=>bP P ⟨G,vars,n,true⟩ b c
 |b=>bP P ⟨G,vars,n,false⟩ b c
def BO(P:Program)(G:Nat)(f:Nat)(fn:IFn):Bool:=
 match P.funcs[f]? with
 |some fd=>(match fd.body with
  |some c=>JO P G fn.vars fd.ntmps fn.body c&& !fn.vars.contains DSL&&Nat.blt f YB&&(List.range fn.nargs).all (fun i=>fn.vars.contains i)&&Nat.ble fn.nargs fd.ntmps&&kL P fn.vars fd.results.toList fn.results&& !(fd.name== "runtime.NumGoroutine")
  |none=>false)
 |none=>false
def Ct(P:Program)(G:Nat)(F:T IFn):Prop:=∀f fn,F.get f=some fn->BO P G f fn=true
theorem hU(v:V)(vs:List V)(i:Nat)(en:T V):gA (v::vs) i en=gA vs (i+1) (en.set i v):=rfl
theorem pU:∀(vs:List V)(i:Nat)(en:T V)(s:Nat),(gA vs i en).get s=if i<=s/\s<i+vs.length then vs[s-i]? else en.get s
 |[],i,en,s=>by rw[if_neg iS];rfl
 |v::vs,i,en,s=>by rw[hU,pU vs (i+1),TF];simp only[SG];by_cases c:s=i;grind;grind
section
variable {P : Program} {C : Cx} {m : M} {h : Heap} {w : World} {env : T V} {a : Act}
def uC(tmps:Array Value):ResultVar->Sem Value
 |.tmp t=>pure (tmps.getD t undef)
 |.cell a t=>do loadVar t (<-asAddr (tmps.getD a undef))
theorem iG(H:HRel m h w)(hE:ERel C m env a):∀(rs:List ResultVar)(qs:List RV)(vs:List V),kL P C.vars rs qs=true→fC env h qs=some vs→
 ∃xs,(rs.mapM (uC a.tmps)).run P w=.ok xs w∧VsRel m vs xs
 |[],[],vs,_,e=>by cases e;exact⟨[],rfl,rfl⟩
 |[],_::_,_,hc,_=>by simp[kL]at hc
 |r::rs,[],_,hc,_=>by cases r<;>simp[kL]at hc
 |.tmp t::rs,.c _ _ _::qs,_,hc,_=>by simp[kL]at hc
 |.cell _ _::rs,.t _::qs,_,hc,_=>by simp[kL]at hc
 |.tmp t::rs,.t s::qs,vs,hc,e=>by
  simp only[kL,Bool.and_eq_true]at hc;have:=Nat.eq_of_beq_eq_true hc.1.1;subst this;simp only[fC,evR]at e;cases h1:env.get t with
  |none=>rw[h1]at e;cases e
  |some v=>
   rw[h1]at e;simp only[]at e;cases h2:fC env h qs with
   |none=>rw[h2]at e;cases e
   |some us=>rw[h2]at e;cases e;obtain⟨xs,hx,rx⟩:=iG H hE rs qs us hc.2 h2;refine⟨a.tmps.getD t undef::xs,?_,⟨_,_,rfl,hE.var hc.1.2 h1,rx⟩⟩;simp only[List.mapM_cons,Sem.run_bind,uC,Sem.run_pure,Result.andThen_ok,hx]
 |.cell ad t::rs,.c s n ia::qs,vs,hc,e=>by
  simp only[kL,Bool.and_eq_true]at hc;obtain⟨⟨⟨⟨h0,hva⟩,hsz⟩,hag⟩,hc⟩:=hc;have:=Nat.eq_of_beq_eq_true h0;subst this;simp only[fC,evR]at e;cases h1:env.get ad with
  |none=>rw[h1]at e;cases e
  |some p=>
   rw[h1]at e;simp only[]at e;cases h3:jk h n ia p with
   |none=>rw[h3]at e;cases e
   |some v=>
    rw[h3]at e;simp only[]at e;cases h2:fC env h qs with
    |none=>rw[h2]at e;cases e
    |some us=>
     rw[h2]at e;cases e;obtain⟨xs,hx,rx⟩:=iG H hE rs qs us hc h2;have hp:=hE.var hva h1;unfold jk at h3;split at h3;rename_i b k;let⟨loc,hm,hpe⟩:=hp;cases ia;simp only[cond_false]at h3;let⟨x,hx1,rx1⟩:=H.load1 hm h3;refine⟨x::xs,?_,⟨_,_,rfl,rx1,rx⟩⟩;simp only[List.mapM_cons,Sem.run_bind,uC,hpe,asAddr,loadVar,iw hag,Sem.run_pure,Result.andThen_ok,Bool.false_eq_true,if_false,run_load,hx1,hx];simp only[cond_true]at h3;cases h4:aj h b k n with
     |none=>rw[h4]at h3;cases h3
     |some ws=>rw[h4]at h3;cases h3;let⟨ys,hy,ry,_⟩:=H.load P hm h4;refine⟨.agg (List.toArray ys)::xs,?_,⟨_,_,rfl,⟨_,rfl,ry⟩,rx⟩⟩;simp only[List.mapM_cons,Sem.run_bind,uC,hpe,asAddr,loadVar,iw hag,cI hsz,Sem.run_pure,Result.andThen_ok,if_true,hy,hx]
     cases h3
theorem yj{fd:Func}{tmps:Array Value}{xs:List Value}(Z:(fd.results.toList.mapM (uC tmps)).run P w=.ok xs w):
 (results fd tmps).run P w=.ok (if h:xs.length=1 then xs[0]else .tuple (List.toArray xs)) w:=by
 have e:results fd tmps=(do let vs <-fd.results.mapM (uC tmps);pure (if h:vs.size=1 then vs[0]else .tuple vs)):=by unfold results;congr 1
 rw[e];simp only[Sq,Array.mapM_eq_mapM_toList,Sem.run_map,Z,Sa,Sy];congr 1
end
section
variable {P : Program} {F : Fence} {n : Nat}
theorem j9{fn:Func}{tmps:Array Value}{R:Ending->World->Prop}:∀(ds:List Deferred)(u:FrameMode)(w:World)(fr:Frame)
 (cs:List Frame),fr.mode=u->fr.defers=ds->fr.tmps=tmps->P.funcs[fr.fn]? =some fn->F.fn fr.fn->F.room (cs.length+1+n)->LeavesInM F n P fn tmps R ds u w->
 ∃e w' fr',R e w'/\ComesIn (Machine.fenced P F) P (lone fr cs w) (lone fr' cs w') e/\fr'.fn=fr.fn/\fr'.kind=fr.kind/\fr'.going P w' e:=by
 intro ds;induction ds with
 |nil=>
  intro u w fr cs hu hd ht hf hb Z h;cases u with
  |run=>exact h.elim
  |returning=>let⟨v,hr,hR⟩:=h;exact⟨.returned v,w,fr,hR,StepsIn.refl _,rfl,rfl,hu,hd,fn,hf,ht▸hr⟩
  |panicking chain=>exact⟨.panicked chain,w,fr,h,StepsIn.refl _,rfl,rfl,hu,hd,fn,hf⟩
 |cons d ds ih=>
  intro u w fr cs hu hd ht hf hb Z h;let⟨hrun,h⟩:=h;obtain⟨r,w',ac,ae,an⟩|⟨hn,fv,cap,f,ay,ac,ax,af,ar,ak⟩:=h;have h1:=step_collected (cs:=cs) (hu▸hrun) hd ac ae;have i1:(lone fr cs w).fenced P F:=fenced_out hb Z (hu▸hrun) hd (fun g hg=>by rw[ac]at hg;simp[Target.leads]at hg);let⟨e',w'',fr',hR',hs',hfn',hl'⟩:=ih u w' {fr with defers:=[]++ds} cs hu rfl ht hf hb Z an;exact⟨e',w'',fr',hR',ComesIn.of_steps (.one i1 h1) hs',hfn',hl'⟩;have h1:=step_defer (cs:=cs) (hu▸hrun) hd ac ax;have i1:(lone fr cs w).fenced P F:=fenced_out hb Z (hu▸hrun) hd af;have K:F.room (({fr with defers:=ds}::cs).length+1+(n-1)):=Fence.room_enter Z hn;let⟨e,u',w',frX,hR,hsteps,hkX,hfX,hgo⟩:=ak {fr with defers:=ds} cs hu K;cases e with
  |outgrown=>exact⟨.outgrown,w',fr,hR,Outgrown.of_steps (.one h1) hsteps,rfl,rfl,trivial⟩
  |returned v=>have i2:(lone frX ({{fr with defers:=ds}with mode:=u'}::cs) w').fenced P F:=fenced_going (n:=n-1) (hfX▸ar) K hgo;have h2:=step_going_returned (c:={{fr with defers:=ds}with mode:=u'}) (cs:=cs) hkX hgo;let⟨e',w'',fr',hR',hs',hfn',hl'⟩:=ih (settle u') w' {{{fr with defers:=ds}with mode:=u'}with mode:=settle u'} cs rfl rfl ht hf hb Z hR;exact⟨e',w'',fr',hR',ComesIn.of_steps (.head i1 h1 (StepsIn.trans hsteps (.one i2 h2))) hs',hfn',hl'⟩
  |panicked chain=>have i2:(lone frX ({{fr with defers:=ds}with mode:=u'}::cs) w').fenced P F:=fenced_going (n:=n-1) (hfX▸ar) K hgo;have h2:=step_going_panicked (c:={{fr with defers:=ds}with mode:=u'}) (cs:=cs) hgo;let⟨e',w'',fr',hR',hs',hfn',hl'⟩:=ih (raised u' chain) w' {{{fr with defers:=ds}with mode:=u'}with mode:=raised u' chain} cs rfl rfl ht hf hb Z hR;exact⟨e',w'',fr',hR',ComesIn.of_steps (.head i1 h1 (StepsIn.trans hsteps (.one i2 h2))) hs',hfn',hl'⟩
theorem kM{f:FuncId}{fn:Func}{c:Code}{K:Array Value}{u:FrameMode}{w:World}{R:Ending->World->Prop}
 (hf:P.funcs[f]? =some fn) (hb:fn.body=some c) (hF:F.fn f)
 (h:c.wpIn F n P (bodyPostM F n P fn R) {tmps:=K++Array.replicate (fn.ntmps-K.size) undef,defers:=[]} w) (ae:F.round=none:=by rfl):
 CallsDIn F n P f K u w fun e u' w'=>u'=u/\R e w':=by
 refine⟨hF,fun Z cs hu hr=>?_⟩;let b:Frame:={(default:Frame)with fn:=f,kind:=.deferred,roundOf:=none};have ac:Frame.enter P f K .deferred=
  b.atR {tmps:=K++Array.replicate (fn.ntmps-K.size) undef,defers:=[]} [.code c]:=by
  simp[Frame.enter,Frame.atR,hf,hb,b]
 have hc:({Z with mode:=u}:Frame)=Z:=by subst hu;rfl
 let⟨e,a',w',hq,harr⟩:=h b [] (Z::cs) ae.symm hF hr;rw[<-ac]at harr;cases e with
 |normal=>let⟨e',w'',fr',hR,hs,hfn,hk,hl⟩:=j9 a'.defers .returning w' {b.atR a' []with mode:=.returning} (Z::cs) rfl rfl rfl hf hF hr hq;exact⟨e',u,w'',fr',⟨rfl,hR⟩,(by rw[hc];exact ComesIn.of_steps (StepsIn.trans harr (.one (fenced_calm (fr:=b.atR a' []) hF hr rfl) (stepR_end rfl))) hs),hk,hfn,hl⟩
 |ret=>let⟨todo,hs₀⟩:=harr.1 rfl;let⟨e',w'',fr',hR,hs,hfn,hk,hl⟩:=j9 a'.defers .returning w' {b.atR a' todo with mode:=.returning} (Z::cs) rfl rfl rfl hf hF hr hq;exact⟨e',u,w'',fr',⟨rfl,hR⟩,(by rw[hc];exact ComesIn.of_steps hs₀ hs),hk,hfn,hl⟩
 |panic chain=>let⟨todo,hs₀⟩:=harr;let⟨e',w'',fr',hR,hs,hfn,hk,hl⟩:=j9 a'.defers (.panicking chain) w' {b.atR a' todo with mode:=.panicking chain} (Z::cs) rfl rfl rfl hf hF hr hq;exact⟨e',u,w'',fr',⟨rfl,hR⟩,(by rw[hc];exact ComesIn.of_steps hs₀ hs),hk,hfn,hl⟩
 |exit id=>exact hq.elim
 |goto l=>exact hq.elim
 |outgrown=>exact⟨.outgrown,u,w',b,⟨rfl,hq⟩,harr.resolve_left iX,rfl,rfl,trivial⟩
end
section
variable {P : Program} {fd : Func} {tmps : Array Value} {R : Ending -> World -> Prop} {B : Nat} {m0 : M} {h0 : Heap} {w0 : World} {m : M} {h : Heap}
theorem jC(hB:w0.heap.size<=B){rest:List Deferred}:∀(ds:List Deferred)(w:World),Marks B m w (ds++rest)->HRel m h w->Ext m0 h0 w0 m h w->
 (∀w',HRel m h w'->Ext m0 h0 w0 m h w'->Marks B m w' rest->LeavesInM Fence.wide 0 P fd tmps R rest .returning w')->LeavesInM Fence.wide 0 P fd tmps R (ds++rest) .returning w
 |[],w,hM,H,E,hr=>hr w H E hM
 |d::ds,w,⟨⟨r,h1,h2,h3,h4,h5⟩,t⟩,H,E,hr=>⟨iS,.inl ⟨r,_,by rw[h1],run_takeDeferred h3,jC hB ds _ (t.put h5) (H.putOff h4 _) (E.putOff oM _) hr⟩⟩
theorem mi(hB:w0.heap.size<=B){d:Deferred}{d2:List Deferred}:∀(ds:List Deferred)(w:World),Marks B m w (ds++d2)->HRel m h w->Ext m0 h0 w0 m h w->
 (∀w',HRel m h w'->Ext m0 h0 w0 m h w'->Marks B m w' d2->LeavesInM Fence.wide 0 P fd tmps R (d::d2) .returning w')->LeavesInM Fence.wide 0 P fd tmps R (ds++d::d2) .returning w
 |[],w,hM,H,E,hr=>hr w H E hM
 |x::ds,w,⟨⟨r,h1,h2,h3,h4,h5⟩,t⟩,H,E,hr=>⟨iS,.inl ⟨r,_,by rw[h1],run_takeDeferred h3,mi hB ds _ (Marks.put h5 t) (H.putOff h4 _) (E.putOff oM _) hr⟩⟩
end
theorem vV{C:Cx}{m:M}(hV:C.vars.contains DSL=false):∀(ps:List Nat)(vs:List V)(env:T V)(tm:Array Value)(xs:List Value),VsRel m vs xs→vs.length=ps.length→tm.size=C.N→(∀p∈ps,C.vars.contains p=true∧p<C.N)→
 (∀s v,env.get s=some v→s=DSL∨(C.vars.contains s=true∧VRel m v (tm.getD s undef)))→
 ERel C m (tG ps vs env) {tmps:=(ps.zip xs).foldl (fun t (p:Nat×Value)=>t.setIfInBounds p.1 p.2) tm,defers:=[]}
 |[],[],env,tm,xs,_,_,hs,_,he=>⟨hs,he,hV⟩
 |[],_::_,_,_,_,_,hl,_,_,_=>by simp at hl
 |_::_,[],_,_,_,_,hl,_,_,_=>by simp at hl
 |p::ps,v::vs,env,tm,_,⟨x,xs,rfl,rx,rxs⟩,hl,hs,hp,he=>by have hpp:=hp p iS;simp only[tG,List.zip_cons_cons,List.foldl_cons];refine vV hV ps vs (env.set p v) (tm.setIfInBounds p x) xs rxs (eV hl) (eV hs) (fun q hq=>hp q iX) (fun s u hu=>?_);rw[T.get_set]at hu;by_cases c:s=p;rw[if_pos c]at hu;cases hu;subst c;refine .inr ⟨hpp.1,?_⟩;rw[Array.getD_eq_getD_getElem?,Array.getElem?_setIfInBounds_self_of_lt oM];exact rx;rw[if_neg c]at hu;refine(he s u hu).imp id fun q=>⟨q.1,?_⟩;rw[Array.getD_eq_getD_getElem?,Array.getElem?_setIfInBounds_ne (Ne.symm c),←Array.getD_eq_getD_getElem?];exact q.2
theorem yH{P:Program}{l:Nat}{R:Ending->World->Prop}{ex:Ex}{a:Act}{w:World}
 (h:∀jump,(jump=match ex with|.norm=>none|ex=>some (iI ex))->∃v w',(Instr.endRound l jump).run P w=.ok v w'/\R (.returned v) w'):roundPost P l R (jE ex) a w:=by
 cases ex<;>exact h _ rfl
theorem yi{P:Program}{G:Nat}{call:aI}(hcall:eN P (LOK P G) G call){b:Nat}{vs:List V}{h h':Heap}{v:V}(e:evY (evC call) b vs h=some (v,h')):
 ∀m w (args:List Value) loc,m b=some loc→VsRel m vs args→HRel m h w→Glob (LOK P G) G m→
 ∃r:Loop,w.heap[loc.block]? =some (.loop r)∧args.length=r.params.size∧
  RoundIn Fence.wide 0 P loc.block r.fn ((r.params.zip (List.toArray args)).foldl (fun tmps (t,a)=>tmps.setIfInBounds t a) r.tmps) r.assign r.body w (ma m h w v h'):=by
 intro m w args loc hm hv H hG;unfold evY at e;split at e;rename_i ps as bd env hb;cases hl:Nat.beq vs.length ps.length;grind;rw[hl]at e;simp only[cond_true]at e;have hlen:=Nat.eq_of_beq_eq_true hl;let⟨g,hg,g1,g2,g3,hr,henv⟩:=H.loop hm hb;subst g1;subst g2;subst g3;let⟨k1,k2,k3,k4,k5,k6⟩:=hG.2 b loc g hm hg;have hpsz:g.r.params.size=g.ps.length:=by rw[←k3];simp
 refine⟨_,hr,by rw[hv.length,hlen];exact hpsz.symm,?_⟩;split at e;rename_i env1 h1 hev1;split at e;rename_i ps1 as1 bd1 en1 p1 hb1;split at e;rename_i ex env2 h2 hev2;split at e;rename_i ps2 as2 bd2 en2 st2 pe2 hb2;have hzip:((g.r.params.zip (List.toArray args)).foldl (fun tmps (t,a)=>tmps.setIfInBounds t a) g.r.tmps)=(g.ps.zip args).foldl (fun t (p:Nat×Value)=>t.setIfInBounds p.1 p.2) g.r.tmps:=by rw[←Array.foldl_toList,Array.toList_zip,k3]
 have hE:=vV (C:=⟨G,g.vars,g.N,false⟩) k6 g.ps vs env g.r.tmps args hv hlen k4 k5 henv;apply roundIn_of_wpIn (F:=Fence.wide) trivial;have hC0:Cir (LOK P G) ⟨G,g.vars,g.N,false⟩ (some loc.block) 0 m h w (tG g.ps vs env) {tmps:=(g.ps.zip args).foldl (fun t (p:Nat×Value)=>t.setIfInBounds p.1 p.2) g.r.tmps,defers:=[]}:=
  ⟨hG,hE,H,trivial,Nat.zero_le _,fun l hl=>by cases hl;exact⟨_,hr⟩⟩
 rw[hzip];refine jG (C:=⟨G,g.vars,g.N,false⟩) (ro:=some loc.block) (B:=0) hcall (fun _ x=>x) (fun q=>by cases q) g.as g.r.assign k1 _ _ h m _ w .norm env1 h1 hC0 hev1 (fun a1 w1 m1 hC1 E1=>?_);have hm1:=E1.le _ _ hm;let⟨g',hg',_,_,_,hr1,_⟩:=hC1.h.loop hm1 hb1;rw[hg]at hg';cases hg';let⟨H1',E1'⟩:=hC1.h.setL hm1 hb1 hg 1 p1;refine⟨_,run_beginRound hr1 rfl,?_⟩;have hC1':Cir (LOK P G) ⟨G,g.vars,g.N,false⟩ (some loc.block) 0 m1 (hset h1 b (.lp ps1 as1 bd1 en1 1 p1)) (w1.putObj loc.block (.loop {g.r with state:=lst 1,pending:=p1.map iI})) env1 a1:=
  ⟨hC1.g,hC1.e,H1',hC1.d.ext E1',Nat.zero_le _,hC1.r.ext E1'⟩
 refine jG (C:=⟨G,g.vars,g.N,false⟩) (ro:=some loc.block) (B:=0) hcall (fun _ x=>x) (fun q=>by cases q) g.bd g.r.body k2 _ _ _ m1 a1 _ ex env2 h2 hC1' hev2 (fun a2 w2 m2 hC2 E2=>?_);have hm2:=E2.le _ _ hm1;let⟨g',hg',_,_,_,hr2,_⟩:=hC2.h.loop hm2 hb2;rw[hg]at hg';cases hg';refine yH fun jump hj=>?_;have hend:=run_endRound (P:=P) jump hr2;refine⟨_,_,hend,?_⟩;cases ex with
 |norm=>simp only[Option.some.injEq,Prod.mk.injEq]at e;obtain⟨rfl,rfl⟩:=e;let⟨H3,E3⟩:=hC2.h.setL hm2 hb2 hg 0 none;subst hj;exact⟨_,m2,rfl,rfl,H3,(E1.trans E1').trans (E2.trans E3)⟩
 |ret=>simp only[Option.some.injEq,Prod.mk.injEq]at e;obtain⟨rfl,rfl⟩:=e;let⟨H3,E3⟩:=hC2.h.setL hm2 hb2 hg 2 (some .ret);subst hj;exact⟨_,m2,rfl,rfl,H3,(E1.trans E1').trans (E2.trans E3)⟩
 |exit id=>simp only[Option.some.injEq,Prod.mk.injEq]at e;obtain⟨rfl,rfl⟩:=e;let⟨H3,E3⟩:=hC2.h.setL hm2 hb2 hg 2 (some (.exit id));subst hj;exact⟨_,m2,rfl,rfl,H3,(E1.trans E1').trans (E2.trans E3)⟩
 |goto t=>simp only[Option.some.injEq,Prod.mk.injEq]at e;obtain⟨rfl,rfl⟩:=e;let⟨H3,E3⟩:=hC2.h.setL hm2 hb2 hg 2 (some (.goto t));subst hj;exact⟨_,m2,rfl,rfl,H3,(E1.trans E1').trans (E2.trans E3)⟩
 cases e;cases e;cases e;cases e;cases e
theorem ERel.mono{C:Cx}{m m':M}(l:Le m m'){env:T V}{a:Act}(hE:ERel C m env a):ERel C m' env a:=
 ⟨hE.1,fun s v hs=>(hE.2.1 s v hs).imp id fun q=>⟨q.1,TA l _ _ q.2⟩,hE.2.2⟩
theorem vD{P:Program}{G:Nat}{call:aI}(hcall:eN P (LOK P G) G call){C:Cx}(hCG:C.G=G){fd:Func}{rvs:List RV}(hrs:kL P C.vars fd.results.toList rvs=true){m m':M}{h h0 h1 h':Heap}{w w':World}{env:T V}{a:Act}{v:V}{ex:Ex}
 (hC:Cir (LOK P G) C none w.heap.size m' h0 w' env a) (E:Ext m h w m' h0 w') (hend:(C.df=true→gR call ex env h0=.ok ex env h1)∧(C.df=false→h1=h0))
 (hres:(match fC env h1 rvs with
  |some [v]=>fV v fun v=>some (v,h1)
  |some vs=>some (.tup vs,h1)
  |none=>none)=some (v,h')):LeavesInM Fence.wide 0 P fd a.tmps (ma m h w v h') a.defers .returning w':=by
 have fin:∀mf wf,HRel mf h1 wf→Ext m h w mf h1 wf→ERel C mf env a→LeavesInM Fence.wide 0 P fd a.tmps (ma m h w v h') [] .returning wf:=by
  intro mf wf Hf Ef hEf;cases hr:fC env h1 rvs with
  |none=>rw[hr]at hres;cases hres
  |some us=>
   rw[hr]at hres;let⟨xs,hx,rx⟩:=iG (P:=P) Hf hEf _ _ _ hrs hr;refine⟨_,yj hx,_,mf,rfl,?_⟩;have hxl:=rx.length;match us,hres,rx,hxl with
   |[],hres,rx,hxl=>simp only[Option.some.injEq,Prod.mk.injEq]at hres;obtain⟨rfl,rfl⟩:=hres;rw[dif_neg (by simp at hxl;simp[hxl])];exact⟨⟨xs,rfl,rx⟩,Hf,Ef⟩
   |[u],hres,rx,hxl=>simp only[yU,Option.some.injEq,Prod.mk.injEq]at hres;obtain⟨rfl,rfl⟩:=hres;rw[dif_pos (eV hxl)];obtain⟨x,rfl,r1⟩:=cg rx;exact⟨r1,Hf,Ef⟩
   |u1::u2::us,hres,rx,hxl=>simp only[Option.some.injEq,Prod.mk.injEq]at hres;obtain⟨rfl,rfl⟩:=hres;rw[dif_neg (by simp at hxl;omega)];exact⟨⟨xs,rfl,rx⟩,Hf,Ef⟩
 have hD:=hC.d;have noC:Marks w.heap.size m' w' a.defers→h1=h0→LeavesInM Fence.wide 0 P fd a.tmps (ma m h w v h') a.defers .returning w':=by rintro hM rfl;have:=jC (P:=P) (fd:=fd) (tmps:=a.tmps) (R:=ma m h w v h') (B:=w.heap.size) (m0:=m) (h0:=h) (w0:=w) (m:=m') (h:=h1) (Nat.le_refl _) (rest:=[]) a.defers w' (eV hM) hC.h E (fun w'' H'' E'' _=>fin m' w'' H'' E'' hC.e);simpa using this
 unfold DsR at hD;split at hD;rename_i dv hdf hdv;obtain⟨d1,d,d2,hds,⟨f,first,caps,args,A,C',rfl,hfy,hd,ra,rc⟩,hM⟩:=hD;have he:=hend.1 hdf;unfold gR at he;rw[hdv]at he;simp only[]at he;split at he;rename_i u h2 hcl;simp only[Out.ok.injEq,true_and]at he;subst he;rw[hds];refine mi (m0:=m) (h0:=h) (w0:=w) (m:=m') (h:=h0) (Nat.le_refl _) d1 w' hM hC.h E (fun w1 H1 E1 hM1=>?_);let⟨hf,hcc⟩:=(hcall f _ _ u h2 hcl).1 hfy;have hargs:VsRel m' (first++args++caps) (A++C'):=VsRel.append ra rc;have hcd:=(hcc m' w1 _ hargs H1 (hCG▸hC.g)).2 .returning;refine⟨iS,.inr ⟨fun q=>absurd q (by simp[Fence.wide]),.func f,List.toArray C',f,List.toArray (A++C'),by rw[hd],?_,fun _ _=>trivial,?_⟩⟩;rw[hd];simp only[invoke];rw[(iS:(List.toArray A++List.toArray C')=List.toArray (A++C'))];exact gC hf;apply CallsDIn.mono hcd;rintro en u' w2 ⟨rfl,x,m2,rfl,rx,H2,E2⟩;have hM2:=hM1.ext E2;have:=jC (P:=P) (fd:=fd) (tmps:=a.tmps) (R:=ma m h w v h') (B:=w.heap.size) (m0:=m) (h0:=h) (w0:=w) (m:=m2) (h:=h2) (Nat.le_refl _) (rest:=[]) d2 w2 (eV hM2) H2 (E1.trans E2) (fun w3 H3 E3 _=>fin m2 w3 H3 E3 (hC.e.mono E2.le));simpa[settle]using this;cases he;rename_i hn;apply noC hD;cases hdf:C.df;exact hend.2 hdf;have hnone:env.get DSL=none:=by
  cases q:env.get DSL with
  |none=>rfl
  |some v=>exact absurd q (hn v hdf)
 have he:=hend.1 hdf;unfold gR at he;rw[hnone]at he;simp only[Out.ok.injEq,true_and]at he;exact he.symm
theorem vw{P:Program}{G:Nat}{F:T IFn}{ov:aI}(hov:eN P (LOK P G) G ov)(hF:Ct P G F):∀n,eN P (LOK P G) G (evF ov F n):=by
 intro n;induction n with
 |zero=>intro f vs h v h' e;cases e
 |succ n ih=>
  intro f vs h v h' e;have e':(match F.get f with
   |some fn=>bif Nat.beq vs.length fn.nargs then
    (match evC (evF ov F n) fn.body (gA vs 0 .e) h with
     |.ok .norm env h=>(match fC env h fn.results with
      |some [v]=>fV v fun v=>some (v,h)
      |some vs=>some (.tup vs,h)
      |none=>none)
     |.ok .ret env h=>(match fC env h fn.results with
      |some [v]=>fV v fun v=>some (v,h)
      |some vs=>some (.tup vs,h)
      |none=>none)
     |_=>none)
    else none
   |none=>bif Nat.ble YB f then evY (evC (evF ov F n)) (f-YB) vs h else ov f vs h)=some (v,h'):=e
  cases hg:F.get f with
  |none=>rw[hg]at e';simp only[]at e';cases hy:Nat.ble YB f;rw[hy]at e';simp only[cond_false]at e';refine⟨(hov f vs h v h' e').1,fun q=>?_⟩;have:=Nat.ble_eq_true_of_le q;rw[hy]at this;cases this;rw[hy]at e';simp only[cond_true]at e';have hle:=Nat.le_of_ble_eq_true hy;exact⟨fun q=>absurd q oM,fun _=>yi ih e'⟩
  |some fn=>
   rw[hg]at e';simp only[]at e';cases hl:Nat.beq vs.length fn.nargs;grind;rw[hl]at e';simp only[cond_true]at e';have hlen:=Nat.eq_of_beq_eq_true hl;have hc:=hF f fn hg;unfold BO at hc;split at hc;rename_i fd hfd;split at hc;rename_i c hbody;simp only[Bool.and_eq_true,Bool.not_eq_true',Nat.blt_eq]at hc;let⟨⟨⟨⟨⟨⟨hcc,hvd⟩,hfy⟩,hargs⟩,hnt⟩,hrs⟩,hname⟩:=hc;have hnt:=Nat.le_of_ble_eq_true hnt;refine⟨fun _=>⟨⟨fd,hfd,by rw[hbody];rfl,hname⟩,fun m w args hv H hG=>?_⟩,fun q=>absurd q oM⟩;have hal:=hv.length;have hwp:c.wpIn Fence.wide 0 P (bodyPostM Fence.wide 0 P fd (ma m h w v h')) {tmps:=List.toArray args++Array.replicate (fd.ntmps-(List.toArray args).size) undef,defers:=[]} w:=by
    have hE:∀df,ERel ⟨G,fn.vars,fd.ntmps,df⟩ m (gA vs 0 .e) {tmps:=List.toArray args++Array.replicate (fd.ntmps-(List.toArray args).size) undef,defers:=[]}:=by
     intro df;refine⟨by simp;omega,fun s u hs=>?_,hvd⟩;rw[pU]at hs;split at hs;rename_i hr;simp only[Nat.sub_zero,Nat.zero_add]at hs hr;let⟨x,hx,rx⟩:=hv.get s u hs;refine .inr ⟨List.all_eq_true.1 hargs s oO,?_⟩;have:(List.toArray args++Array.replicate (fd.ntmps-(List.toArray args).size) undef).getD s undef=x:=by rw[Array.getD_eq_getD_getElem?,Array.getElem?_append_left oO];simp[hx]
     rw[this];exact rx;cases hs
    have hDF:(gA vs 0 .e).get DSL=none:=by
     cases q:(gA vs 0 .e).get DSL with
     |none=>rfl
     |some u=>rw[pU]at q;split at q;grind;cases q
    have hC:∀df,Cir (LOK P G) ⟨G,fn.vars,fd.ntmps,df⟩ none w.heap.size m h w (gA vs 0 .e) {tmps:=List.toArray args++Array.replicate (fd.ntmps-(List.toArray args).size) undef,defers:=[]}:=
     fun df=>⟨hG,hE df,H,by unfold DsR;rw[hDF];cases df<;>exact trivial,Nat.le_refl _,fun l hl=>by cases hl⟩
    have fin:∀ex env1 h1,(ex=.norm∨ex=.ret)→evC (evF ov F n) fn.body (gA vs 0 .e) h=.ok ex env1 h1→
     (match fC env1 h1 fn.results with
      |some [v]=>fV v fun v=>some (v,h1)
      |some vs=>some (.tup vs,h1)
      |none=>none)=some (v,h')→
     c.wpIn Fence.wide 0 P (bodyPostM Fence.wide 0 P fd (ma m h w v h')) {tmps:=List.toArray args++Array.replicate (fd.ntmps-(List.toArray args).size) undef,defers:=[]} w:=by
     intro ex env1 h1 hex hev hres;unfold JO at hcc;split at hcc;rename_i b hb;rw[hb]at hev;have hev':(match evC (evF ov F n) b (gA vs 0 .e) h with
      |.ok .norm env h=>gR (evF ov F n) .norm env h
      |.ok .ret env h=>gR (evF ov F n) .ret env h
      |_=>.fail)=Out.ok ex env1 h1:=hev
     have hh:∃h0,evC (evF ov F n) b (gA vs 0 .e) h=.ok ex env1 h0∧gR (evF ov F n) ex env1 h0=.ok ex env1 h1:=by
      have key:∀ex0 env0 h0,gR (evF ov F n) ex0 env0 h0=.ok ex env1 h1→ex0=ex∧env0=env1:=by intro ex0 env0 h0 q;unfold gR at q;split at q;grind;grind;cases q
      split at hev';grind;grind;cases hev'
     let⟨h0,q1,q2⟩:=hh;refine jG (C:=⟨G,fn.vars,fd.ntmps,true⟩) (ro:=none) ih (fun _ x=>x) (fun _=>rfl) b c hcc _ _ h m _ w ex env1 h0 (hC true) q1 (fun a' w' m' hC' E'=>?_);have:=vD (C:=⟨G,fn.vars,fd.ntmps,true⟩) ih rfl hrs hC' E' ⟨fun _=>q2,fun q=>by cases q⟩ hres;obtain rfl|rfl:=hex;exact this;exact this;refine jG (C:=⟨G,fn.vars,fd.ntmps,false⟩) (ro:=none) ih (fun _ x=>x) (fun _=>rfl) fn.body c hcc _ _ h m _ w ex env1 h1 (hC false) hev (fun a' w' m' hC' E'=>?_);have:=vD (C:=⟨G,fn.vars,fd.ntmps,false⟩) (ex:=ex) ih rfl hrs hC' E' ⟨fun q=>(by cases q),fun _=>rfl⟩ hres;obtain rfl|rfl:=hex;exact this;exact this
    split at e';grind;grind;cases e'
   exact⟨callsIn_wide.1 (callsIn_of_wp_marks hfd hbody trivial hwp),fun u=>kM hfd hbody trivial hwp⟩;cases hc;cases hc
def Evt(c:Nat->aI)(f:Nat)(vs:List V)(h:Heap)(r:V×Heap):Prop:=∃n,∀m,n<=m->c m f vs h=some r
theorem Evt.uniq{c:Nat->aI}{f:Nat}{vs:List V}{h:Heap}{r s:V×Heap}(a:Evt c f vs h r)(b:Evt c f vs h s):r=s:=by let⟨n,hn⟩:=a;let⟨k,hk⟩:=b;have e:=hn (max n k) (Nat.le_max_left _ _);rw[hk (max n k) (Nat.le_max_right _ _)]at e;cases e;rfl
section
variable {c : Nat -> aI} {L : aI}
def Lim(c:Nat->aI)(L:aI):Prop:=∀f vs h r,L f vs h=some r->Evt c f vs h r
theorem sQ(K:Lim c L){Z:List V}{env:T V}{h:Heap}{o:IOp}{r:V×Heap}(e:aO L Z env h o=some r):
 ∃n,∀m,n<=m->aO (c m) Z env h o=some r:=by
 cases o;case cf f xs=>
  simp only[aO]at e|-;cases hx:ef Z env xs with
  |none=>rw[hx]at e;cases e
  |some vs=>rw[hx]at e;exact K _ _ _ _ e
 case cv x xs=>
  simp only[aO]at e|-;split at e;split at e;rename_i f first caps h1 _ vs h2
  cases hb:Nat.blt f YB;grind;rw[hb]at e;simp only[cond_true]at e|-;exact K _ _ _ _ e;cases e;split at e;exact K _ _ _ _ e;cases e;cases e
 all_goals exact⟨0,fun m _=>e⟩
theorem yV(hL:Lim c L):∀(l:List IStep)(K:List V)(env:T V)(h:Heap){e:Ex}{Z:T V}{h':Heap},dM L l K env h=.ok e Z h'->
 ∃n,∀m,n<=m->dM (c m) l K env h=.ok e Z h':=by
 intro l;induction l with
 |nil=>intro K env h e Z h' x;exact⟨0,fun m _=>x⟩
 |cons s l ih=>intro K env h e Z h' x;rw[cT]at x;simp only[cT];split at x;rename_i hg;split at x;rename_i v h1 ho;let⟨n,hn⟩:=sQ hL ho;let⟨k,hk⟩:=ih _ _ _ x;refine⟨max n k,fun m hm=>?_⟩;rw[hn m oM];exact hk m oM;cases x;exact ih _ _ _ x;cases x
theorem yN(a b:aI)(Z:List V)(env:T V)(h:Heap)(s:IStep):u9 a Z env h s=u9 b Z env h s:=by let⟨g,o,d⟩:=s;cases o<;>rfl
theorem CW(a b:aI)(env:T V)(K:List Nat):∀(l:List IStep)(i:Nat)(Z:List V)(h:Heap),lay a env K l i Z h=lay b env K l i Z h:=by
 intro l;induction l with
 |nil=>intro i Z h;rfl
 |cons s l ih=>intro i Z h;simp only[lay,yN a b,ih]
theorem gT(call:aI)(env:T V)(s:DS)(l:List DS)(Z:List V)(K:List Heap)(h:Heap):iq call env (s::l) Z K h=
      match s.2 with
      |some (u,c)=>bif cy Z env s.1.op u c then iq call env l (u::Z) K h else none
      |none=>
       match evG Z env s.1.gd with
       |some true=>match aO call Z env h s.1.op with
        |some (v,h')=>bif eff s.1.op then iq call env l (v::Z) (h'::K) h' else iq call env l (v::Z) K h
        |none=>none
       |some false=>bif eff s.1.op then iq call env l (.tup []::Z) (h::K) h else iq call env l (.tup []::Z) K h
       |none=>none:=by
 show(match s.2 with
  |some (u,c)=>bif cy Z env s.1.op u c then iq call env l (u::Z) K h else none
  |none=>
   match evG Z env s.1.gd with
   |some true=>match aO call Z env h s.1.op with
    |some (v,h')=>fV v fun v=>bif eff s.1.op then iq call env l (v::Z) (h'::K) h' else iq call env l (v::Z) K h
    |none=>none
   |some false=>bif eff s.1.op then iq call env l (.tup []::Z) (h::K) h else iq call env l (.tup []::Z) K h
   |none=>none)=_
 simp only[yU]
theorem FK(hL:Lim c L)(env:T V):∀(l:List DS)(Z:List V)(hs:List Heap)(h:Heap){r:List V×List Heap},iq L env l Z hs h=some r->
 ∃n,∀m,n<=m->iq (c m) env l Z hs h=some r:=by
 intro l;induction l with
 |nil=>intro Z hs h r x;exact⟨0,fun m _=>x⟩
 |cons s l ih=>
  intro Z hs h r x;rw[gT]at x;simp only[gT];let⟨s1,s2⟩:=s;cases s2 with
  |some uc=>let⟨u,cs⟩:=uc;simp only[]at x|-;cases hl:cy Z env s1.op u cs;grind;rw[hl]at x;simp only[cond_true]at x|-;exact ih _ _ _ x
  |none=>simp only[]at x|-;split at x;rename_i hg;split at x;rename_i v h1 ho;let⟨n,hn⟩:=sQ hL ho;cases K:eff s1.op;rw[K]at x;simp only[cond_false]at x;let⟨k,hk⟩:=ih _ _ _ x;refine⟨max n k,fun m hm=>?_⟩;rw[hn m oM];simp only[cond_false];exact hk m oM;rw[K]at x;simp only[cond_true]at x;let⟨k,hk⟩:=ih _ _ _ x;refine⟨max n k,fun m hm=>?_⟩;rw[hn m oM];simp only[cond_true];exact hk m oM;cases x;rename_i hg;cases K:eff s1.op;rw[K]at x;simp only[cond_false]at x|-;exact ih _ _ _ x;rw[K]at x;simp only[cond_true]at x|-;exact ih _ _ _ x;cases x
theorem CM(hL:Lim c L)(K:List V)(env:T V)(o:IOp)(v:V):∀(Z:List Heap),gy L K env o v Z=true->
 ∃n,∀m,n<=m->gy (c m) K env o v Z=true:=by
 intro Z;induction Z with
 |nil=>intro _;exact⟨0,fun _ _=>rfl⟩
 |cons h Z ih=>intro x;simp only[gy,RU]at x|-;let⟨a,b⟩:=x;let⟨k,hk⟩:=ih b;split at a;rename_i u _ ho;let⟨n,hn⟩:=sQ hL ho;refine⟨max n k,fun m hm=>⟨?_,hk m oM⟩⟩;rw[hn m oM];exact a;cases a
theorem Er(hL:Lim c L)(env:T V)(l:List IStep)(Z:List V)(K:List Heap)(r:Nat×Nat×Nat)(x:mK L env l Z K r=true):
 ∃n,∀m,n<=m->mK (c m) env l Z K r=true:=by
 let⟨i,lo,hi⟩:=r;simp only[mK]at x|-;split at x;rename_i s v loc' _ _;split at x;rename_i hg;let⟨n,hn⟩:=CM hL _ _ _ _ _ x;exact⟨n,fun m hm=>hn m hm⟩;rename_i hg;exact⟨0,fun m _=>rfl⟩;cases x
theorem IV(hL:Lim c L)(env:T V)(l:List IStep)(Z:List V)(K:List Heap):∀(rs:List (Nat×Nat×Nat)),rs.all (mK L env l Z K)=true->
 ∃n,∀m,n<=m->rs.all (mK (c m) env l Z K)=true:=by
 intro rs;induction rs with
 |nil=>intro _;exact⟨0,fun _ _=>rfl⟩
 |cons r rs ih=>intro x;simp only[Uj,RU]at x|-;let⟨n,hn⟩:=Er hL _ _ _ _ _ x.1;let⟨k,hk⟩:=ih x.2;exact⟨max n k,fun m hm=>⟨hn m oM,hk m oM⟩⟩
theorem IJ(hL:Lim c L){l:List IStep}{ac:List Nat}{Z:List (Nat×Nat×Nat)}{ae:List (Nat×Nat)}{env:T V}{h:Heap}{e:Ex}{K:T V}{h':Heap}
 (x:evD L l ac Z ae env h=.ok e K h'):∃n,∀m,n<=m->evD (c m) l ac Z ae env h=.ok e K h':=by
 unfold evD at x|-;simp only[CW _ L];split at x;cases x;rename_i dl h1 hl;split at x;rename_i af hs hd;let⟨n,hn⟩:=FK hL _ _ _ _ _ hd;cases ha:Z.all (mK L env l af hs);grind;rw[ha]at x;let⟨k,hk⟩:=IV hL _ _ _ _ _ ha;refine⟨max n k,fun m hm=>?_⟩;rw[hn m oM];simp only[];rw[hk m oM];exact x;cases x
def Jk(b:T V->Heap->Out)(bs:Nat->T V->Heap->Out):Prop:=∀env h e env' h',b env h=.ok e env' h'->∃n,∀m,n<=m->bs m env h=.ok e env' h'
theorem xo{b:T V->Heap->Out}{bs:Nat->T V->Heap->Out}(hb:Jk b bs)(k:Nat):Jk (dbl b k) (fun m=>dbl (bs m) k):=by
 induction k with
 |zero=>exact hb
 |succ k ih=>
  intro env h e Z h' x;have eq:∀(f:T V->Heap->Out),dbl f (k+1) env h=match dbl f k env h with
   |.ok .norm env h=>dbl f k env h
   |r=>r:=fun _=>rfl
  rw[eq]at x;simp only[eq];split at x;rename_i ac h1 K;let⟨n,hn⟩:=ih _ _ _ _ _ K;let⟨j,hj⟩:=ih _ _ _ _ _ x;refine⟨max n j,fun m hm=>?_⟩;have a:=hn m oM;have b:=hj m oM;simp only[]at a b;rw[a];exact b;rename_i K;let⟨n,hn⟩:=ih _ _ _ _ _ x;refine⟨n,fun m hm=>?_⟩;have a:=hn m hm;simp only[]at a;rw[a];cases e with
  |norm=>exact absurd x (K Z h')
  |_=>rfl
theorem xe(hL:Lim c L):∀(k:IC),Jk (evC L k) (fun m=>evC (c m) k):=by
 intro k;induction k with
 |skip=>intro env h e Z h' x;exact⟨0,fun m _=>x⟩
 |ops l=>intro env h e Z h' x;exact yV hL l [] env h x
 |seq a b iha ihb=>
  intro env h e Z h' x;have eq:∀f:aI,evC f (.seq a b) env h=match evC f a env h with
   |.ok .norm env h=>evC f b env h
   |r=>r:=fun _=>rfl
  rw[eq]at x;simp only[eq];split at x;rename_i K h1 h2;let⟨n,hn⟩:=iha _ _ _ _ _ h2;let⟨j,hj⟩:=ihb _ _ _ _ _ x;refine⟨max n j,fun m hm=>?_⟩;have a:=hn m oM;have b:=hj m oM;simp only[]at a b;rw[a];exact b;rename_i h2;let⟨n,hn⟩:=iha _ _ _ _ _ x;refine⟨n,fun m hm=>?_⟩;have a:=hn m hm;simp only[]at a;rw[a];cases e with
  |norm=>exact absurd x (h2 Z h')
  |_=>rfl
 |cond o a b iha ihb=>
  intro env h e Z h' x;have eq:∀f:aI,evC f (.cond o a b) env h=match evO [] env o with
   |some (.bool t)=>bif t then evC f a env h else evC f b env h
   |_=>.fail:=fun _=>rfl
  rw[eq]at x;simp only[eq];split at x;rename_i t ht;cases t;exact ihb _ _ _ _ _ x;exact iha _ _ _ _ _ x;cases x
 |block id a iha=>
  intro env h e Z h' x;have eq:∀f:aI,evC f (.block id a) env h=match evC f a env h with
   |.ok (.exit i) env h=>bif Nat.beq i id then .ok .norm env h else .ok (.exit i) env h
   |r=>r:=fun _=>rfl
  rw[eq]at x;simp only[eq];split at x;rename_i i K h1 h2;let⟨n,hn⟩:=iha _ _ _ _ _ h2;refine⟨n,fun m hm=>?_⟩;have a:=hn m hm;simp only[]at a;rw[a];exact x;rename_i h2;let⟨n,hn⟩:=iha _ _ _ _ _ x;refine⟨n,fun m hm=>?_⟩;have a:=hn m hm;simp only[]at a;rw[a];cases e with
  |exit i=>exact absurd x (h2 i Z h')
  |_=>rfl
 |loop a iha=>
  intro env h e Z h' x;have eq:∀f:aI,evC f (.loop a) env h=match dbl (evC f a) 48 env h with
   |.ok .norm _ _=>.fail
   |r=>r:=fun _=>rfl
  rw[eq]at x;simp only[eq];split at x;cases x;rename_i h2;let⟨n,hn⟩:=xo iha 48 _ _ _ _ _ x;refine⟨n,fun m hm=>?_⟩;have a:=hn m hm;simp only[]at a;rw[a];cases e with
  |norm=>exact absurd x (h2 Z h')
  |_=>rfl
 |exit i=>intro env h e Z h' x;exact⟨0,fun m _=>x⟩
 |ret=>intro env h e Z h' x;exact⟨0,fun m _=>x⟩
 |scope a l r iha ihr=>
  intro env h e Z h' x;have eq:∀f:aI,evC f (.scope a l r) env h=match evC f a env h with
   |.ok (.goto i) env h=>bif Nat.beq i l then
    (match dbl (fun env h=>match evC f r env h with
     |.ok (.goto i) env h=>bif Nat.beq i l then .ok .norm env h else .ok (.goto i) env h
     |.ok .norm env h=>.ok (.goto l) env h
     |r=>r) 48 env h with
     |.ok .norm _ _=>.fail
     |.ok (.goto i) env h=>bif Nat.beq i l then .ok .norm env h else .fail
     |r=>r)
    else .fail
   |r=>r:=fun _=>rfl
  have ac:Jk (fun env h=>match evC L r env h with
            |.ok (.goto i) env h=>bif Nat.beq i l then .ok .norm env h else .ok (.goto i) env h
            |.ok .norm env h=>.ok (.goto l) env h
            |r=>r) (fun m env h=>match evC (c m) r env h with
            |.ok (.goto i) env h=>bif Nat.beq i l then .ok .norm env h else .ok (.goto i) env h
            |.ok .norm env h=>.ok (.goto l) env h
            |r=>r):=by
   intro env h e Z h' y;simp only[]at y|-;split at y;rename_i i K h1 h2;let⟨n,hn⟩:=ihr _ _ _ _ _ h2;refine⟨n,fun m hm=>?_⟩;have a:=hn m hm;simp only[]at a;rw[a];exact y;rename_i K h1 h2;let⟨n,hn⟩:=ihr _ _ _ _ _ h2;refine⟨n,fun m hm=>?_⟩;have a:=hn m hm;simp only[]at a;rw[a];exact y;rename_i h2 h3;let⟨n,hn⟩:=ihr _ _ _ _ _ y;refine⟨n,fun m hm=>?_⟩;have a:=hn m hm;simp only[]at a;rw[a];cases e with
   |norm=>exact absurd y (h3 Z h')
   |goto i=>exact absurd y (h2 i Z h')
   |_=>rfl
  rw[eq]at x;simp only[eq];split at x;rename_i i K h1 h2;let⟨n,hn⟩:=iha _ _ _ _ _ h2;cases hb:Nat.beq i l;grind;rw[hb]at x;simp only[cond_true]at x;split at x;cases x;rename_i j af h3 h4;let⟨k,hk⟩:=xo ac 48 _ _ _ _ _ h4;refine⟨max n k,fun m hm=>?_⟩;have a:=hn m oM;have b:=hk m oM;simp only[]at a b;rw[a];simp only[hb,cond_true];rw[b];exact x;rename_i h3 h4;let⟨k,hk⟩:=xo ac 48 _ _ _ _ _ x;refine⟨max n k,fun m hm=>?_⟩;have a:=hn m oM;have b:=hk m oM;simp only[]at a b;rw[a];simp only[hb,cond_true];rw[b];cases e with
  |norm=>exact absurd x (h3 Z h')
  |goto i=>exact absurd x (h4 i Z h')
  |_=>rfl
  rename_i h2;let⟨n,hn⟩:=iha _ _ _ _ _ x;refine⟨n,fun m hm=>?_⟩;have a:=hn m hm;simp only[]at a;rw[a];cases e with
  |goto i=>exact absurd x (h2 i Z h')
  |_=>rfl
 |goto l=>intro env h e Z h' x;exact⟨0,fun m _=>x⟩
 |dops l late R reads sets=>intro env h e Z h' x;exact IJ hL x
 |bad=>intro env h e Z h' x;cases x
 |rf g ps as bd iha ihb=>
  intro env h e Z h' x;have eq:∀f:aI,evC f (.rf g ps as bd) env h=match evO [] env g with
   |some (.func (.func f0) first caps)=>bif Nat.blt f0 YB then
    (match f f0 (first++[.yld h.next]++caps) (hnew h (.lp ps as bd env 0 none))with
     |some (_,h2)=>(match h2.bl.get h.next with
      |some (.lp _ _ _ _ st pend)=>bif Nat.beq st 1 then .fail else .ok (match pend with|some ex=>ex|none=>.norm) env (hset h2 h.next .dead)
      |_=>.fail)
     |none=>.fail)
    else .fail
   |_=>.fail:=fun _=>rfl
  rw[eq]at x;simp only[eq];split at x;rename_i f0 first caps hg
  cases hb:Nat.blt f0 YB;grind;rw[hb]at x;simp only[cond_true]at x|-;split at x;rename_i u h2 hc;let⟨n,hn⟩:=hL _ _ _ _ hc;refine⟨n,fun m hm=>?_⟩;rw[hn m hm];exact x;cases x;cases x
 |wd a iha=>
  intro env h e Z h' x;have eq:∀f:aI,evC f (.wd a) env h=match evC f a env h with
   |.ok .norm env h=>gR f .norm env h
   |.ok .ret env h=>gR f .ret env h
   |_=>.fail:=fun _=>rfl
  rw[eq]at x;simp only[eq];have ae:∀ex K h1,gR L ex K h1=.ok e Z h'->∃n,∀m,n<=m->gR (c m) ex K h1=.ok e Z h':=by intro ex K h1 q;unfold gR at q|-;split at q;exact⟨0,fun _ _=>q⟩;split at q;rename_i hc;let⟨n,hn⟩:=hL _ _ _ _ hc;refine⟨n,fun m hm=>?_⟩;rw[hn m hm];exact q;cases q;cases q
  split at x;rename_i K h1 h2;let⟨n,hn⟩:=iha _ _ _ _ _ h2;let⟨j,hj⟩:=ae _ _ _ x;refine⟨max n j,fun m hm=>?_⟩;have a:=hn m oM;simp only[]at a;rw[a];exact hj m oM;rename_i K h1 h2;let⟨n,hn⟩:=iha _ _ _ _ _ h2;let⟨j,hj⟩:=ae _ _ _ x;refine⟨max n j,fun m hm=>?_⟩;have a:=hn m oM;simp only[]at a;rw[a];exact hj m oM;cases x
theorem II(hL:Lim c L){b:Nat}{vs:List V}{h:Heap}{r:V×Heap}(e:evY (evC L) b vs h=some r):∃n,∀m,n<=m->evY (evC (c m)) b vs h=some r:=by unfold evY at e|-;split at e;rename_i ps as bd env hb;cases hl:Nat.beq vs.length ps.length;grind;rw[hl]at e;simp only[cond_true]at e|-;split at e;rename_i ae h1 ac;let⟨n,hn⟩:=xe hL as _ _ _ _ _ ac;split at e;rename_i an ax ak ar p1 K;split at e;rename_i ex af h2 Z;let⟨j,hj⟩:=xe hL bd _ _ _ _ _ Z;refine⟨max n j,fun m hm=>?_⟩;have a:=hn m oM;have b:=hj m oM;simp only[]at a b;rw[a];simp only[K];rw[b];exact e;cases e;cases e;cases e;cases e
end
open Classical in
noncomputable def ev(ov:aI)(F:T IFn):aI:=fun f vs h=>
 if x:∃r,Evt (evF ov F) f vs h r then some (Classical.choose x)else none
theorem Ay{ov:aI}{F:T IFn}:Lim (evF ov F) (ev ov F):=by intro f vs h r e;unfold ev at e;split at e;grind;cases e
theorem Ax{ov:aI}{F:T IFn}{f:Nat}{vs:List V}{h:Heap}{r:V×Heap}(e:Evt (evF ov F) f vs h r):ev ov F f vs h=some r:=by have x:∃r,Evt (evF ov F) f vs h r:=⟨r,e⟩;unfold ev;rw[dif_pos x];exact congrArg some ((Classical.choose_spec x).uniq e)
theorem FE{P:Program}{G:Nat}{F:T IFn}{ov:aI}(Z:eN P (LOK P G) G ov)(hF:Ct P G F):eN P (LOK P G) G (ev ov F):=by intro f vs h v K e;let⟨n,hn⟩:=Ay _ _ _ _ e;exact vw Z hF n f vs h v K (hn n (RW n))
def rU:List V->V
 |[v]=>v
 |vs=>.tup vs
theorem IH{ov:aI}{F:T IFn}{f:Nat}{fn:IFn}{vs:List V}{h Z:Heap}{e:Ex}{env:T V}{rs:List V}(hf:F.get f=some fn)(hn:Nat.beq vs.length fn.nargs=true)
 (hb:evC (ev ov F) fn.body (gA vs 0 .e) h=.ok e env Z) (he:e=.norm\/e=.ret) (hr:fC env Z fn.results=some rs):ev ov F f vs h=some (rU rs,Z):=by
 apply Ax;let⟨n,hn'⟩:=xe Ay fn.body _ _ _ _ _ hb;refine⟨n+1,fun m hm=>?_⟩;obtain⟨k,rfl⟩:∃k,m=k+1:=⟨m-1,oM⟩;have eq:evF ov F (k+1) f vs h=match F.get f with
  |some fn=>bif Nat.beq vs.length fn.nargs then
   (match evC (evF ov F k) fn.body (gA vs 0 .e) h with
    |.ok .norm env h=>match fC env h fn.results with
     |some [v]=>fV v fun v=>some (v,h)
     |some vs=>some (.tup vs,h)
     |none=>none
    |.ok .ret env h=>match fC env h fn.results with
     |some [v]=>fV v fun v=>some (v,h)
     |some vs=>some (.tup vs,h)
     |none=>none
    |_=>none)
   else none
  |none=>bif Nat.ble YB f then evY (evC (evF ov F k)) (f-YB) vs h else ov f vs h:=rfl
 have hk:=hn' k oM;simp only[]at hk;have K:(match fC env Z fn.results with
             |some [v]=>fV v fun v=>some (v,Z)
             |some vs=>some (.tup vs,Z)
             |none=>none)=some (rU rs,Z):=by
  rw[hr];simp only[yU];cases rs with
  |nil=>rfl
  |cons a t=>cases t with
   |nil=>rfl
   |cons b t=>rfl
 rw[eq,hf];simp only[hn,cond_true];rw[hk];obtain rfl|rfl:=he<;>exact K
theorem LF{ov:aI}{F:T IFn}{f:Nat}{vs:List V}{h:Heap}{r:V×Heap}(K:F.get f=none)(Z:Nat.ble YB f=false)(e:ov f vs h=some r):ev ov F f vs h=some r:=by
 refine Ax ⟨1,fun m hm=>?_⟩;obtain⟨k,rfl⟩:∃k,m=k+1:=⟨m-1,oM⟩;show(match F.get f with
  |some fn=>_
  |none=>bif Nat.ble YB f then _ else ov f vs h)=_
 rw[K];simp only[Z,cond_false];exact e
theorem FD{ov:aI}{F:T IFn}{b:Nat}{vs:List V}{h:Heap}{r:V×Heap}(Z:F.get (YB+b)=none)(e:evY (evC (ev ov F)) b vs h=some r):ev ov F (YB+b) vs h=some r:=by
 let⟨n,hn⟩:=II Ay e;refine Ax ⟨n+1,fun m K=>?_⟩;obtain⟨k,rfl⟩:∃k,m=k+1:=⟨m-1,oM⟩;show(match F.get (YB+b)with
  |some fn=>_
  |none=>bif Nat.ble YB (YB+b)then evY (evC (evF ov F k)) (YB+b-YB) vs h else ov (YB+b) vs h)=_
 rw[Z];simp only[UT (Nat.le_add_right YB b),cond_true,UK];exact hn k oM
section
variable {call : aI} {env : T V} {h : Heap} {loc : List V}
def OQ(o:Option (V×Heap))(K:V->Heap->Prop):Prop:=∃v h,o=some (v,h)/\K v h
theorem cL(v:V)(h:Heap)(K:V->Heap->Prop):OQ (some (v,h)) K↔K v h:=
 ⟨fun⟨_,_,e,k⟩=>by cases e;exact k,fun k=>⟨v,h,rfl,k⟩⟩
def VQ(o:Option V)(K:V->Heap->Prop)(h:Heap):Prop:=∃v,o=some v/\K v h
theorem qP(v:V)(K:V->Heap->Prop)(h:Heap):VQ (some v) K h↔K v h:=
 ⟨fun⟨_,e,k⟩=>by cases e;exact k,fun k=>⟨v,rfl,k⟩⟩
def HQ(o:Option Heap)(K:V->Heap->Prop):Prop:=∃h,o=some h/\K (.tup []) h
theorem Cn(h:Heap)(K:V->Heap->Prop):HQ (some h) K↔K (.tup []) h:=
 ⟨fun⟨_,e,k⟩=>by cases e;exact k,fun k=>⟨h,rfl,k⟩⟩
theorem OQ.mono{o:Option (V×Heap)}{K Z:V->Heap->Prop}(a:OQ o K)(b:∀v h,K v h->Z v h):OQ o Z:=by let⟨v,h,e,k⟩:=a;exact⟨v,h,e,b _ _ k⟩
theorem ql(k:Nat):evO loc env (.l k)=nth loc k:=rfl
theorem iB(s:Nat):evO loc env (.v s)=env.get s:=rfl
theorem BI(x:V):evO loc env (.c x)=some x:=rfl
theorem JI(n:Nat):evO loc env (.g n)=some (.ptr n 0):=rfl
def kJ(a:Option V)(b:Option (List V)):Option (List V):=match a,b with
 |some v,some vs=>some (v::vs)
 |_,_=>none
theorem cU(v:V)(vs:List V):kJ (some v) (some vs)=some (v::vs):=rfl
theorem dE:ef loc env []=some []:=rfl
theorem gu(x:Opd)(xs:List Opd):ef loc env (x::xs)=kJ (evO loc env x) (ef loc env xs):=by show Option.rec (motive:=fun _=>Option (List V)) none (fun v=>Option.rec (motive:=fun _=>Option (List V)) none (fun vs=>some (v::vs)) (ef loc env xs)) (evO loc env x)=_;cases evO loc env x<;>cases ef loc env xs<;>rfl
theorem bR(v:V)(l:List V):nth (v::l) 0=some v:=rfl
theorem cQ(v:V)(l:List V)(k:Nat):nth (v::l) (k+1)=nth l k:=rfl
theorem lO(i:Nat)(en:T V):gA [] i en=en:=rfl
def PQ(k:PK)(o:Option (List V))(K:V->Heap->Prop)(h:Heap):Prop:=∃vs,o=some vs/\VQ (aP k vs) K h
theorem qQ(k:PK)(vs:List V)(K:V->Heap->Prop):PQ k (some vs) K h↔VQ (aP k vs) K h:=
 ⟨fun⟨_,e,k⟩=>by cases e;exact k,fun k=>⟨vs,rfl,k⟩⟩
theorem HX(k:PK)(xs:List Opd)(K:V->Heap->Prop):OQ (aO call loc env h (.p k xs)) K↔PQ k (ef loc env xs) K h:=by
 simp only[aO,OQ,PQ,VQ];cases ef loc env xs with
 |none=>simp
 |some vs=>cases Z:aP k vs with
  |none=>simp[Z]
  |some v=>simp[Z,and_assoc]
def LQ(h:Heap)(n:Nat)(ia:Bool)(o:Option V)(K:V->Heap->Prop):Prop:=∃p,o=some p/\VQ (jk h n ia p) K h
theorem xO(n:Nat)(ia:Bool)(p:V)(K:V->Heap->Prop):LQ h n ia (some p) K↔VQ (jk h n ia p) K h:=
 ⟨fun⟨_,e,k⟩=>by cases e;exact k,fun k=>⟨p,rfl,k⟩⟩
theorem EC(n:Nat)(Z:Bool)(x:Opd)(K:V->Heap->Prop):OQ (aO call loc env h (.ld n Z x)) K↔LQ h n Z (evO loc env x) K:=by
 simp only[aO,OQ,LQ,VQ];cases evO loc env x with
 |none=>simp
 |some p=>cases hx:jk h n Z p with
  |none=>simp[hx]
  |some v=>simp[hx,and_assoc]
def SQ(h:Heap)(n:Nat)(o u:Option V)(K:V->Heap->Prop):Prop:=∃p v,o=some p/\u=some v/\HQ (ig h n p v) K
theorem Cj(n:Nat)(p v:V)(K:V->Heap->Prop):SQ h n (some p) (some v) K↔HQ (ig h n p v) K:=
 ⟨fun⟨_,_,e,e2,k⟩=>by cases e;cases e2;exact k,fun k=>⟨p,v,rfl,rfl,k⟩⟩
theorem Jr(n:Nat)(x y:Opd)(K:V->Heap->Prop):OQ (aO call loc env h (.st n x y)) K↔SQ h n (evO loc env x) (evO loc env y) K:=by
 simp only[aO,OQ,SQ,HQ];cases evO loc env x with
 |none=>simp
 |some p=>cases evO loc env y with
  |none=>simp
  |some v=>cases Z:ig h n p v with
   |none=>simp[Z]
   |some h'=>simp[Z,and_assoc]
theorem Jz(zero:List V)(K:V->Heap->Prop):OQ (aO call loc env h (.al zero)) K↔K (.ptr h.next 0) (halloc h zero):=by simp only[aO,cL]
def BQ(o:Option V)(K:V->Heap->Prop)(h:Heap):Prop:=∃v,o=some v/\K (.ptr h.next 0) (halloc h v.cells)
theorem Cz(v:V)(K:V->Heap->Prop):BQ (some v) K h↔K (.ptr h.next 0) (halloc h v.cells):=
 ⟨fun⟨_,e,k⟩=>by cases e;exact k,fun k=>⟨v,rfl,k⟩⟩
theorem Jw(x:Opd)(K:V->Heap->Prop):OQ (aO call loc env h (.bx x)) K↔BQ (evO loc env x) K h:=by
 simp only[aO,OQ,BQ];cases evO loc env x with
 |none=>simp
 |some v=>simp[and_assoc]
def BsQ(h:Heap)(zero:List V)(places:List (Nat×Nat))(len:Nat)(o:Option (List V))(K:V->Heap->Prop):Prop:=∃vs,o=some vs/\OQ (jI h zero places len vs) K
theorem zZ(zero:List V)(places:List (Nat×Nat))(len:Nat)(vs:List V)(K:V->Heap->Prop):BsQ h zero places len (some vs) K↔OQ (jI h zero places len vs) K:=
 ⟨fun⟨_,e,k⟩=>by cases e;exact k,fun k=>⟨vs,rfl,k⟩⟩
theorem Jx(zero:List V)(Z:List (Nat×Nat))(len:Nat)(xs:List Opd)(K:V->Heap->Prop):
 OQ (aO call loc env h (.bs zero Z len xs)) K↔BsQ h zero Z len (ef loc env xs) K:=by
 simp only[aO,OQ,BsQ];cases ef loc env xs with
 |none=>simp
 |some vs=>simp
def A0(f:V->V->Option (V×Heap))(a b:Option V)(K:V->Heap->Prop):Prop:=∃x y,a=some x/\b=some y/\OQ (f x y) K
theorem wj(f:V->V->Option (V×Heap))(x y:V)(K:V->Heap->Prop):A0 f (some x) (some y) K↔OQ (f x y) K:=
 ⟨fun⟨_,_,e,e2,k⟩=>by cases e;cases e2;exact k,fun k=>⟨x,y,rfl,rfl,k⟩⟩
theorem Js(zero:List V)(bytes:Nat)(x y:Opd)(K:V->Heap->Prop):
 OQ (aO call loc env h (.mk zero bytes x y)) K↔A0 (vZ h zero bytes) (evO loc env x) (evO loc env y) K:=by
 simp only[aO,OQ,A0];cases evO loc env x with
 |none=>simp
 |some l=>cases evO loc env y with
  |none=>simp
  |some c=>simp
theorem Jy(esz bytes:Nat)(x y:Opd)(K:V->Heap->Prop):
 OQ (aO call loc env h (.ap esz bytes x y)) K↔A0 (jQ h esz bytes) (evO loc env x) (evO loc env y) K:=by
 simp only[aO,OQ,A0];cases evO loc env x with
 |none=>simp
 |some l=>cases evO loc env y with
  |none=>simp
  |some c=>simp
theorem Ju(esz:Nat)(x y:Opd)(K:V->Heap->Prop):
 OQ (aO call loc env h (.cp esz x y)) K↔A0 (mB h esz) (evO loc env x) (evO loc env y) K:=by
 simp only[aO,OQ,A0];cases evO loc env x with
 |none=>simp
 |some l=>cases evO loc env y with
  |none=>simp
  |some c=>simp
def CfQ(call:aI)(f:Nat)(o:Option (List V))(h:Heap)(K:V->Heap->Prop):Prop:=∃vs,o=some vs/\OQ (call f vs h) K
theorem zY(f:Nat)(vs:List V)(K:V->Heap->Prop):CfQ call f (some vs) h K↔OQ (call f vs h) K:=
 ⟨fun⟨_,e,k⟩=>by cases e;exact k,fun k=>⟨vs,rfl,k⟩⟩
theorem Jv(f:Nat)(xs:List Opd)(K:V->Heap->Prop):OQ (aO call loc env h (.cf f xs)) K↔CfQ call f (ef loc env xs) h K:=by
 simp only[aO,OQ,CfQ];cases ef loc env xs with
 |none=>simp
 |some vs=>simp
def FQ(call:aI)(h:Heap)(o:Option V)(vs:Option (List V))(K:V->Heap->Prop):Prop:=
 ∃us,vs=some us/\((∃f first caps,o=some (.func (.func f) first caps)/\f<1099511627776/\OQ (call f (first++us++caps) h) K)\/(∃b,o=some (.yld b)/\OQ (call (YB+b) us h) K))
theorem Cu(f:Nat)(first caps us:List V)(K:V->Heap->Prop):FQ call h (some (.func (.func f) first caps)) (some us) K↔(f<1099511627776/\OQ (call f (first++us++caps) h) K):=
 ⟨fun⟨_,e2,k⟩=>(by
  cases e2;obtain⟨_,_,_,e,k⟩|⟨_,e,_⟩:=k;cases e;exact k;cases e),fun k=>⟨us,rfl,.inl ⟨f,first,caps,rfl,k⟩⟩⟩
theorem K1(b:Nat)(us:List V)(K:V->Heap->Prop):FQ call h (some (.yld b)) (some us) K↔OQ (call (YB+b) us h) K:=
 ⟨fun⟨_,e2,k⟩=>(by
  cases e2;obtain⟨_,_,_,e,_⟩|⟨_,e,k⟩:=k;cases e;cases e;exact k),fun k=>⟨us,rfl,.inr ⟨b,rfl,k⟩⟩⟩
theorem Jt(x:Opd)(xs:List Opd)(K:V->Heap->Prop):OQ (aO call loc env h (.cv x xs)) K↔FQ call h (evO loc env x) (ef loc env xs) K:=by
 simp only[aO,OQ,FQ];constructor;rintro⟨v,h',e,k⟩;split at e;rename_i f first caps hx
 cases hy:ef loc env xs with
 |none=>rw[hy]at e;cases e
 |some us=>rw[hy]at e;simp only[]at e;cases Z:Nat.blt f YB;grind;rw[Z]at e;simp only[cond_true]at e;exact⟨us,rfl,.inl ⟨f,first,caps,hx,(SI ..).mp Z,v,h',e,k⟩⟩
 grind;cases e;rintro⟨us,e2,⟨f,first,caps,e1,hf,v,h',e,k⟩|⟨b,e1,v,h',e,k⟩⟩;refine⟨v,h',?_,k⟩;rw[e1,e2];have Z:Nat.blt f YB=true:=(SI ..).mpr hf;simp only[Z,cond_true];exact e;grind
def K3(h:Heap)(zero:List V)(o:Option V)(K:V->Heap->Prop):Prop:=∃v,o=some v/\OQ (AR h zero v) K
theorem wq(zero:List V)(v:V)(K:V->Heap->Prop):K3 h zero (some v) K↔OQ (AR h zero v) K:=
 ⟨fun⟨_,e,k⟩=>by cases e;exact k,fun k=>⟨v,rfl,k⟩⟩
theorem EE(zero:List V)(x:Opd)(K:V->Heap->Prop):OQ (aO call loc env h (.clr zero x)) K↔K3 h zero (evO loc env x) K:=by
 simp only[aO,OQ,K3];cases evO loc env x with
 |none=>simp
 |some d=>simp
def WS(call:aI)(l:List IStep)(loc:List V)(env:T V)(h:Heap)(Q:T V->Heap->Prop):Prop:=∃env' h',dM call l loc env h=.ok .norm env' h'/\Q env' h'
theorem xN(Q:T V->Heap->Prop):WS call [] loc env h Q↔Q env h:=
 ⟨fun⟨_,_,e,q⟩=>by cases e;exact q,fun q=>⟨env,h,rfl,q⟩⟩
def kl(call:aI)(l:List IStep)(loc:List V)(env:T V)(Q:T V->Heap->Prop):V->Heap->Prop:=fun v h=>WS call l (v::loc) env h Q
def kv(call:aI)(l:List IStep)(loc:List V)(env:T V)(d:Nat)(Q:T V->Heap->Prop):V->Heap->Prop:=fun v h=>WS call l loc (env.set d v) h Q
theorem wT(l:List IStep)(Q:T V->Heap->Prop)(v:V):kl call l loc env Q v h↔WS call l (v::loc) env h Q:=Ul
theorem wS(l:List IStep)(d:Nat)(Q:T V->Heap->Prop)(v:V):kv call l loc env d Q v h↔WS call l loc (env.set d v) h Q:=Ul
theorem I5(o:IOp)(l:List IStep)(Q:T V->Heap->Prop):WS call (⟨none,o,none⟩::l) loc env h Q↔OQ (aO call loc env h o) (kl call l loc env Q):=by
 simp only[WS,cT,evG,OQ,kl];cases aO call loc env h o with
 |none=>simp
 |some r=>let⟨v,h'⟩:=r;simp[j5,gN,and_assoc]
theorem I4(o:IOp)(d:Nat)(l:List IStep)(Q:T V->Heap->Prop):WS call (⟨none,o,some d⟩::l) loc env h Q↔OQ (aO call loc env h o) (kv call l loc env d Q):=by
 simp only[WS,cT,evG,OQ,kv];cases aO call loc env h o with
 |none=>simp
 |some r=>let⟨v,h'⟩:=r;simp[j5,gN,and_assoc]
def GQ(o:Option V)(want:Bool)(A B:Prop):Prop:=(∃b,o=some (.bool b)/\if b=want then A else B)\/((∃l,o=some (.tup l))/\B)
theorem pq(b want:Bool)(A B:Prop):GQ (some (.bool b)) want A B↔if b=want then A else B:=
 ⟨fun x=>(by
  obtain⟨_,e,k⟩|⟨⟨_,e⟩,_⟩:=x;cases e;exact k;cases e),fun k=>.inl ⟨b,rfl,k⟩⟩
theorem A2(t:List V)(want:Bool)(A B:Prop):GQ (some (.tup t)) want A B↔B:=
 ⟨fun x=>(by
  obtain⟨_,e,k⟩|⟨_,k⟩:=x;cases e;exact k),fun k=>.inr ⟨⟨t,rfl⟩,k⟩⟩
def GS(o:Option V)(want:Bool)(call:aI)(p:IOp)(l:List IStep)(loc:List V)(env:T V)(h:Heap)(Q:T V->Heap->Prop):Prop:=
 GQ o want (OQ (aO call loc env h p) (kl call l loc env Q)) (WS call l (.tup []::loc) env h Q)
theorem Cp(b want:Bool)(p:IOp)(l:List IStep)(Q:T V->Heap->Prop):GS (some (.bool b)) want call p l loc env h Q↔
 if b=want then OQ (aO call loc env h p) (kl call l loc env Q)else WS call l (.tup []::loc) env h Q:=pq _ _ _ _
theorem HB(t:List V)(want:Bool)(p:IOp)(l:List IStep)(Q:T V->Heap->Prop):GS (some (.tup t)) want call p l loc env h Q↔WS call l (.tup []::loc) env h Q:=A2 _ _ _ _
def GV(o:Option V)(want:Bool)(call:aI)(p:IOp)(d:Nat)(l:List IStep)(loc:List V)(env:T V)(h:Heap)(Q:T V->Heap->Prop):Prop:=
 GQ o want (OQ (aO call loc env h p) (kv call l loc env d Q)) (WS call l loc (env.set d (.tup [])) h Q)
theorem Co(b want:Bool)(p:IOp)(d:Nat)(l:List IStep)(Q:T V->Heap->Prop):GV (some (.bool b)) want call p d l loc env h Q↔
 if b=want then OQ (aO call loc env h p) (kv call l loc env d Q)else WS call l loc (env.set d (.tup [])) h Q:=pq _ _ _ _
theorem HA(t:List V)(want:Bool)(p:IOp)(d:Nat)(l:List IStep)(Q:T V->Heap->Prop):GV (some (.tup t)) want call p d l loc env h Q↔WS call l loc (env.set d (.tup [])) h Q:=A2 _ _ _ _
theorem LO(x:Opd)(want:Bool)(o:IOp)(l:List IStep)(Q:T V→Heap→Prop):WS call (⟨some (x,want),o,none⟩::l) loc env h Q↔GS (evO loc env x) want call o l loc env h Q:=by
 simp only[WS,cT,evG,OQ,GQ,GS,kl];cases evO loc env x with
 |none=>simp
 |some b=>
  cases b with
  |bool b=>
   have hb:(!(xor b want))=decide (b=want):=by grind
   simp only[hb];by_cases hw:b=want;simp only[hw,decide_true];cases aO call loc env h o with
   |none=>simp
   |some r=>let⟨v,h'⟩:=r;simp[j5,gN,and_assoc]
   simp only[hw,decide_false];simp[hw,j5,gN]
  |tup t=>simp[j5,gN]
  |_=>simp
theorem JR(x:Opd)(want:Bool)(o:IOp)(d:Nat)(l:List IStep)(Q:T V→Heap→Prop):WS call (⟨some (x,want),o,some d⟩::l) loc env h Q↔GV (evO loc env x) want call o d l loc env h Q:=by
 simp only[WS,cT,evG,OQ,GQ,GV,kv];cases evO loc env x with
 |none=>simp
 |some b=>
  cases b with
  |bool b=>
   have hb:(!(xor b want))=decide (b=want):=by grind
   simp only[hb];by_cases hw:b=want;simp only[hw,decide_true];cases aO call loc env h o with
   |none=>simp
   |some r=>let⟨v,h'⟩:=r;simp[j5,gN,and_assoc]
   simp only[hw,decide_false];simp[hw,j5,gN]
  |tup t=>simp[j5,gN]
  |_=>simp
def W(call:aI)(c:IC)(env:T V)(h:Heap)(Q:Ex->T V->Heap->Prop):Prop:=∃e env' h',evC call c env h=.ok e env' h'/\Q e env' h'
def xW(call:aI)(b:IC)(Q:Ex->T V->Heap->Prop):Ex->T V->Heap->Prop:=fun e env h=>match e with
 |.norm=>W call b env h Q
 |e=>Q e env h
theorem jt(b:IC)(Q:Ex->T V->Heap->Prop):xW call b Q .norm env h↔W call b env h Q:=Ul
theorem um(b:IC)(Q:Ex->T V->Heap->Prop):xW call b Q .ret env h↔Q .ret env h:=Ul
theorem qZ(b:IC)(i:Nat)(Q:Ex->T V->Heap->Prop):xW call b Q (.exit i) env h↔Q (.exit i) env h:=Ul
theorem qY(b:IC)(i:Nat)(Q:Ex->T V->Heap->Prop):xW call b Q (.goto i) env h↔Q (.goto i) env h:=Ul
theorem Hc(Q:Ex->T V->Heap->Prop):W call .skip env h Q↔Q .norm env h:=
 ⟨fun⟨_,_,_,e,q⟩=>by cases e;exact q,fun q=>⟨_,_,_,rfl,q⟩⟩
theorem Ce(Q:Ex->T V->Heap->Prop):W call .ret env h Q↔Q .ret env h:=
 ⟨fun⟨_,_,_,e,q⟩=>by cases e;exact q,fun q=>⟨_,_,_,rfl,q⟩⟩
theorem Hg(i:Nat)(Q:Ex->T V->Heap->Prop):W call (.exit i) env h Q↔Q (.exit i) env h:=
 ⟨fun⟨_,_,_,e,q⟩=>by cases e;exact q,fun q=>⟨_,_,_,rfl,q⟩⟩
theorem He(i:Nat)(Q:Ex->T V->Heap->Prop):W call (.goto i) env h Q↔Q (.goto i) env h:=
 ⟨fun⟨_,_,_,e,q⟩=>by cases e;exact q,fun q=>⟨_,_,_,rfl,q⟩⟩
theorem W.mono{c:IC}{Q Z:Ex->T V->Heap->Prop}(a:W call c env h Q)(b:∀e env h,Q e env h->Z e env h):W call c env h Z:=by let⟨e,env',h',x,q⟩:=a;exact⟨e,env',h',x,b _ _ _ q⟩
theorem xd(a b:IC):evC call (.seq a b) env h=match evC call a env h with
      |.ok .norm env h=>evC call b env h
      |r=>r:=rfl
theorem Cc(a b:IC)(Q:Ex->T V->Heap->Prop):W call (.seq a b) env h Q↔W call a env h (xW call b Q):=by
 constructor;rintro⟨e,Z,h',x,q⟩;rw[xd]at x;split at x;rename_i K h1 h2;exact⟨.norm,K,h1,h2,e,Z,h',x,q⟩;rename_i h2;refine⟨e,Z,h',x,?_⟩;cases e with
 |norm=>exact absurd x (h2 Z h')
 |_=>exact q
 rintro⟨e,K,h1,x,q⟩;cases e with
 |norm=>let⟨e,Z,h',y,q⟩:=q;exact⟨e,Z,h',by rw[xd,x];exact y,q⟩
 |_=>exact⟨_,K,h1,by rw[xd,x],q⟩
def JM(o:Option V)(call:aI)(a b:IC)(env:T V)(h:Heap)(Q:Ex->T V->Heap->Prop):Prop:=∃t,o=some (.bool t)/\if t=true then W call a env h Q else W call b env h Q
theorem sW(t:Bool)(a b:IC)(Q:Ex->T V->Heap->Prop):JM (some (.bool t)) call a b env h Q↔if t=true then W call a env h Q else W call b env h Q:=
 ⟨fun⟨_,e,k⟩=>by cases e;exact k,fun k=>⟨t,rfl,k⟩⟩
theorem Hh(x:Opd)(a b:IC)(Q:Ex->T V->Heap->Prop):W call (.cond x a b) env h Q↔JM (evO [] env x) call a b env h Q:=by
 have eq:evC call (.cond x a b) env h=match evO [] env x with
  |some (.bool t)=>bif t then evC call a env h else evC call b env h
  |_=>.fail:=rfl
 constructor;rintro⟨e,Z,K,y,q⟩;rw[eq]at y;split at y;rename_i t ht;refine⟨t,ht,?_⟩;cases t;exact⟨e,Z,K,y,q⟩;exact⟨e,Z,K,y,q⟩;cases y;rintro⟨t,ht,k⟩;cases t;let⟨e,Z,K,y,q⟩:=k;exact⟨e,Z,K,by rw[eq,ht];exact y,q⟩;let⟨e,Z,K,y,q⟩:=k;exact⟨e,Z,K,by rw[eq,ht];exact y,q⟩
def tF(id:Nat)(Q:Ex->T V->Heap->Prop):Ex->T V->Heap->Prop:=fun e env h=>match e with
 |.exit i=>if i=id then Q .norm env h else Q (.exit i) env h
 |e=>Q e env h
theorem qw(id:Nat)(Q:Ex->T V->Heap->Prop):tF id Q .norm env h↔Q .norm env h:=Ul
theorem tD(id:Nat)(Q:Ex->T V->Heap->Prop):tF id Q .ret env h↔Q .ret env h:=Ul
theorem qy(id i:Nat)(Q:Ex->T V->Heap->Prop):tF id Q (.goto i) env h↔Q (.goto i) env h:=Ul
theorem iF(id i:Nat)(Q:Ex->T V->Heap->Prop):tF id Q (.exit i) env h↔if i=id then Q .norm env h else Q (.exit i) env h:=Ul
theorem Cg(K:Nat)(a:IC)(Q:Ex->T V->Heap->Prop):W call (.block K a) env h Q↔W call a env h (tF K Q):=by
 have eq:evC call (.block K a) env h=match evC call a env h with
  |.ok (.exit i) env h=>bif Nat.beq i K then .ok .norm env h else .ok (.exit i) env h
  |r=>r:=rfl
 constructor;rintro⟨e,ac,h',x,q⟩;rw[eq]at x;split at x;rename_i i Z h1 h2;refine⟨_,_,_,h2,?_⟩;rw[iF];by_cases hi:i=K;subst hi;simp at x;obtain⟨rfl,rfl,rfl⟩:=x;simpa using q;rw[if_neg hi];have:Nat.beq i K=false:=by cases hb:Nat.beq i K;rfl;exact absurd (RY hb) hi
 rw[this]at x;cases x;exact q;rename_i h2;refine⟨e,ac,h',x,?_⟩;cases e with
 |exit i=>exact absurd x (h2 i ac h')
 |_=>exact q
 rintro⟨e,Z,h1,x,q⟩;cases e with
 |exit i=>
  rw[iF]at q;by_cases hi:i=K;rw[if_pos hi]at q;exact⟨.norm,Z,h1,by rw[eq,x];subst hi;simp,q⟩;rw[if_neg hi]at q;have:Nat.beq i K=false:=by cases hb:Nat.beq i K;rfl;exact absurd (RY hb) hi
  exact⟨.exit i,Z,h1,by rw[eq,x];simp only[this,cond_false],q⟩
 |_=>exact⟨_,Z,h1,by rw[eq,x],q⟩
theorem Cf(l:List IStep)(Q:Ex->T V->Heap->Prop):W call (.ops l) env h Q↔WS call l [] env h (Q .norm):=by
 constructor;rintro⟨e,Z,h',x,q⟩;have hn:∀(l:List IStep)(K:List V)(env:T V)(h:Heap),dM call l K env h=.ok e Z h'->e=.norm:=by
  intro l;induction l with
  |nil=>intro K env h x;cases x;rfl
  |cons s l ih=>intro K env h x;rw[cT]at x;split at x;grind;exact ih _ _ _ x;cases x
 have:=hn _ _ _ _ x;subst this;exact⟨Z,h',x,q⟩;rintro⟨Z,h',x,q⟩;exact⟨_,_,_,x,q⟩
noncomputable def itr(body:T V->Heap->Out):Nat->T V->Heap->Out
 |0,env,h=>.ok .norm env h
 |n+1,env,h=>match body env h with
  |.ok .norm env h=>itr body n env h
  |r=>r
theorem Io(body:T V->Heap->Out):∀(a b:Nat)(env:T V)(h:Heap),itr body (a+b) env h=match itr body a env h with
 |.ok .norm env h=>itr body b env h
 |r=>r:=by
 intro a;induction a with
 |zero=>intro b env h;simp[itr]
 |succ a ih=>
  intro b env h;rw[Nat.succ_add];simp only[itr];cases body env h with
  |fail=>rfl
  |ok e env1 h1=>cases e with
   |norm=>exact ih b env1 h1
   |_=>rfl
theorem qK(body:T V->Heap->Out)(k:Nat):∀(env:T V)(h:Heap),dbl body k env h=itr body (2^k) env h:=by
 induction k with
 |zero=>
  intro env h;show body env h=itr body 1 env h;simp only[itr];cases body env h with
  |fail=>rfl
  |ok e env1 h1=>cases e<;>rfl
 |succ k ih=>
  intro env h;show(match dbl body k env h with
   |.ok .norm env h=>dbl body k env h
   |r=>r)=_
  rw[Nat.pow_succ,Nat.mul_two,Io,ih];cases itr body (2^k) env h with
  |fail=>rfl
  |ok e env1 h1=>cases e with
   |norm=>exact ih env1 h1
   |_=>rfl
def mJ(I:Nat->T V->Heap->Prop)(k:Nat)(Q:Ex->T V->Heap->Prop):Ex->T V->Heap->Prop:=fun e env h=>match e with
 |.norm=>∃k',k'<k/\I k' env h
 |e=>Q e env h
theorem Jn(I:Nat->T V->Heap->Prop)(k:Nat)(Q:Ex->T V->Heap->Prop):mJ I k Q .norm env h↔∃k',k'<k/\I k' env h:=Ul
theorem rK(I:Nat->T V->Heap->Prop)(k:Nat)(Q:Ex->T V->Heap->Prop):mJ I k Q .ret env h↔Q .ret env h:=Ul
theorem jX(I:Nat->T V->Heap->Prop)(k i:Nat)(Q:Ex->T V->Heap->Prop):mJ I k Q (.exit i) env h↔Q (.exit i) env h:=Ul
theorem qe(I:Nat->T V->Heap->Prop)(k i:Nat)(Q:Ex->T V->Heap->Prop):mJ I k Q (.goto i) env h↔Q (.goto i) env h:=Ul
theorem JC{body:T V->Heap->Out}(I:Nat->T V->Heap->Prop)(Q:Ex->T V->Heap->Prop)
 (Z:∀k env h,I k env h->∃e env' h',body env h=.ok e env' h'/\mJ I k Q e env' h'):
 ∀(n k:Nat)(env:T V)(h:Heap),I k env h->k<n->∃e env' h',itr body n env h=.ok e env' h'/\e≠.norm/\Q e env' h':=by
 intro n;induction n with
 |zero=>intro k env h _ K;omega
 |succ n ih=>
  intro k env h hI K;let⟨e,env1,h1,x,q⟩:=Z k env h hI;simp only[itr,x];cases e with
  |norm=>let⟨k',hk',q⟩:=q;exact ih k' env1 h1 q oM
  |_=>exact⟨_,_,_,rfl,iS,q⟩
theorem aC{body:IC}{Q:Ex->T V->Heap->Prop}(I:Nat->T V->Heap->Prop)(n:Nat)(K:n<281474976710656)(h0:I n env h)
 (Z:∀k env h,I k env h->W call body env h (mJ I k Q)):W call (.loop body) env h Q:=by
 have eq:evC call (.loop body) env h=match dbl (evC call body) 48 env h with
  |.ok .norm _ _=>.fail
  |r=>r:=rfl
 let⟨e,env',h',x,ne,q⟩:=JC I Q Z (2^48) n env h h0 (eV K);refine⟨e,env',h',?_,q⟩;rw[eq,qK,x];cases e with
 |norm=>exact absurd rfl ne
 |_=>rfl
theorem Cd{c r:IC}{l:Nat}{Q:Ex->T V->Heap->Prop}(I:Nat->T V->Heap->Prop)(n:Nat)(hn:n<281474976710656)
 (h0:W call c env h (fun e env' h'=>match e with
  |.goto i=>i=l/\I n env' h'
  |e=>Q e env' h'))
 (Z:∀k env h,I k env h->W call r env h (fun e env' h'=>match e with
  |.goto i=>i=l/\∃k',k'<k/\I k' env' h'
  |e=>Q e env' h')):W call (.scope c l r) env h Q:=by
 have eq:evC call (.scope c l r) env h=match evC call c env h with
  |.ok (.goto i) env h=>bif Nat.beq i l then
   (match dbl (fun env h=>match evC call r env h with
    |.ok (.goto i) env h=>bif Nat.beq i l then .ok .norm env h else .ok (.goto i) env h
    |.ok .norm env h=>.ok (.goto l) env h
    |r=>r) 48 env h with
    |.ok .norm _ _=>.fail
    |.ok (.goto i) env h=>bif Nat.beq i l then .ok .norm env h else .fail
    |r=>r)
   else .fail
  |r=>r:=rfl
 let⟨e,env1,h1,x,q⟩:=h0;cases e with
 |goto i=>
  obtain⟨rfl,q⟩:=q;let⟨e,env',h',y,ne,q⟩:=JC (body:=fun env h=>match evC call r env h with
            |.ok (.goto j) env h=>bif Nat.beq j i then .ok .norm env h else .ok (.goto j) env h
            |.ok .norm env h=>.ok (.goto i) env h
            |r=>r) I (fun e env' h'=>match e with
             |.goto j=>j=i/\Q .norm env' h'
             |e=>Q e env' h') (fun k env h hI=>by
   let⟨e,env2,h2,z,q⟩:=Z k env h hI;simp only[z];cases e with
   |norm=>exact⟨_,_,_,rfl,rfl,q⟩
   |goto j=>obtain⟨rfl,k',K,q⟩:=q;exact⟨.norm,env2,h2,iS,k',K,q⟩
   |_=>exact⟨_,_,_,rfl,q⟩) (2^48) n env1 h1 q (eV hn)
  cases e with
  |norm=>exact absurd rfl ne
  |goto j=>obtain⟨rfl,q⟩:=q;refine⟨.norm,env',h',?_,q⟩;rw[eq,x];simp only[TT,cond_true,qK];rw[y];simp
  |ret=>refine⟨.ret,env',h',?_,q⟩;rw[eq,x];simp only[TT,cond_true,qK];rw[y]
  |exit j=>refine⟨.exit j,env',h',?_,q⟩;rw[eq,x];simp only[TT,cond_true,qK];rw[y]
 |norm=>exact⟨_,_,_,by rw[eq,x],q⟩
 |ret=>exact⟨_,_,_,by rw[eq,x],q⟩
 |exit j=>exact⟨_,_,_,by rw[eq,x],q⟩
theorem If(l:List IStep):∀(i:Nat)(Z:List V)(h:Heap),lay call env [] l i Z h=some (l.map fun s=>(s,none),h):=by
 induction l with
 |nil=>intro i Z h;rfl
 |cons s l ih=>intro i Z h;simp[lay,ih]
def WD(call:aI)(env:T V)(l:List DS)(loc:List V)(hs:List Heap)(h:Heap)(K:List V->List Heap->Prop):Prop:=
 ∃loc' hs',iq call env l loc hs h=some (loc',hs')/\K loc' hs'
theorem Hi(hs:List Heap)(K:List V->List Heap->Prop):WD call env [] loc hs h K↔K loc hs:=
 ⟨fun⟨_,_,e,k⟩=>by cases e;exact k,fun k=>⟨_,_,rfl,k⟩⟩
def kd(call:aI)(env:T V)(l:List DS)(loc:List V)(hs:List Heap)(h:Heap)(e:Bool)(K:List V->List Heap->Prop):V->Heap->Prop:=fun v h'=>
 if e=true then WD call env l (v::loc) (h'::hs) h' K else WD call env l (v::loc) hs h K
theorem Lu(l:List DS)(Z:List Heap)(h0:Heap)(K:List V->List Heap->Prop)(v:V):kd call env l loc Z h0 true K v h↔WD call env l (v::loc) (h::Z) h K:=by simp[kd]
theorem Lw(l:List DS)(Z:List Heap)(h0:Heap)(K:List V->List Heap->Prop)(v:V):kd call env l loc Z h0 false K v h↔WD call env l (v::loc) Z h0 K:=by simp[kd]
theorem LP(o:IOp)(l:List DS)(Z:List Heap)(K:List V->List Heap->Prop):WD call env ((⟨none,o,none⟩,none)::l) loc Z h K↔
 OQ (aO call loc env h o) (kd call env l loc Z h (eff o) K):=by
 simp only[WD,gT,evG,OQ,kd];cases aO call loc env h o with
 |none=>simp
 |some r=>let⟨v,h'⟩:=r;cases eff o<;>simp[and_assoc]
def GD(o:Option V)(want:Bool)(call:aI)(env:T V)(p:IOp)(l:List DS)(loc:List V)(hs:List Heap)(h:Heap)(e:Bool)(K:List V->List Heap->Prop):Prop:=
 GQ o want (OQ (aO call loc env h p) (kd call env l loc hs h e K)) (if e=true then WD call env l (.tup []::loc) (h::hs) h K else WD call env l (.tup []::loc) hs h K)
theorem Cr(b want:Bool)(p:IOp)(l:List DS)(hs:List Heap)(e:Bool)(K:List V->List Heap->Prop):GD (some (.bool b)) want call env p l loc hs h e K↔
 if b=want then OQ (aO call loc env h p) (kd call env l loc hs h e K)else(if e=true then WD call env l (.tup []::loc) (h::hs) h K else WD call env l (.tup []::loc) hs h K):=pq _ _ _ _
theorem HD(t:List V)(want:Bool)(p:IOp)(l:List DS)(hs:List Heap)(e:Bool)(K:List V->List Heap->Prop):GD (some (.tup t)) want call env p l loc hs h e K↔
 (if e=true then WD call env l (.tup []::loc) (h::hs) h K else WD call env l (.tup []::loc) hs h K):=A2 _ _ _ _
theorem LR(x:Opd)(want:Bool)(o:IOp)(l:List DS)(hs:List Heap)(K:List V→List Heap→Prop):WD call env ((⟨some (x,want),o,none⟩,none)::l) loc hs h K↔
 GD (evO loc env x) want call env o l loc hs h (eff o) K:=by
 simp only[WD,gT,evG,OQ,GQ,GD,kd];cases evO loc env x with
 |none=>simp
 |some b=>
  cases b with
  |bool b=>
   have hb:(!(xor b want))=decide (b=want):=by grind
   simp only[hb];by_cases hw:b=want;grind;grind
  |tup t=>cases eff o<;>simp
  |_=>simp
theorem cK(s:IStep)(u:V)(c:List V)(l:List DS)(Z:List Heap)(K:List V->List Heap->Prop):WD call env ((s,some (u,c))::l) loc Z h K↔
 cy loc env s.op u c=true/\WD call env l (u::loc) Z h K:=by
 simp only[WD,gT];cases cy loc env s.op u c<;>simp
def DE(call:aI)(l:List IStep)(reads:List (Nat×Nat×Nat))(sets:List (Nat×Nat))(env:T V)(Q:T V->Heap->Prop)(loc:List V)(hs:List Heap):Prop:=
 reads.all (mK call env l loc hs)=true/\∃env' h' hs',iu l.length loc sets env=some env'/\hs=h'::hs'/\Q env' h'
theorem I3(l:List IStep)(K R:List Nat)(Z:List (Nat×Nat×Nat))(ac:List (Nat×Nat))(Q:Ex->T V->Heap->Prop){dl:List DS}{h1:Heap}(hl:lay call env K l 0 [] h=some (dl,h1)):
 WD call env dl [] [h1] h1 (DE call l Z ac env (Q .norm))->W call (.dops l K R Z ac) env h Q:=by
 rintro⟨ak,hs,e,hr,ae,h',af,hset,rfl,q⟩;refine⟨.norm,ae,h',?_,q⟩;show evD call l K Z ac env h=_;unfold evD;simp only[hl,e,hr,cond_true,hset]
theorem uG(o:IOp)(v:V):gy call loc env o v []=true↔True:=by simp[gy]
def kr(v:V):V->Heap->Prop:=fun u _=>vEq u v=true
theorem EW(v u:V):kr v u h↔vEq u v=true:=Ul
theorem rN(o:IOp)(v:V)(Z:List Heap):gy call loc env o v (h::Z)=true↔OQ (aO call loc env h o) (kr v)/\gy call loc env o v Z=true:=by
 simp only[gy,OQ,RU,kr];cases aO call loc env h o with
 |none=>simp
 |some r=>let⟨u,h'⟩:=r;simp[and_assoc]
mutual
theorem ew:∀(v:V),vEq v v=true
 |.bool b=>by cases b<;>rfl
 |.int k n=>by simp only[vEq,fy];cases k<;>simp[mV]
 |.str s=>by simp[vEq]
 |.nilp=>rfl
 |.ptr _ _=>by simp[vEq]
 |.nils=>rfl
 |.slice _ _ _ _=>by simp[vEq]
 |.sliceU _ _ _ _=>by simp[vEq]
 |.sliceE=>rfl
 |.nilm=>rfl
 |.map _=>by simp[vEq]
 |.yld _=>by simp[vEq]
 |.sliceZ _ _=>by simp[vEq]
 |.nilf=>rfl
 |.func _ a c=>by simp[vEq,dZ a,dZ c]
 |.nili=>rfl
 |.iface _ v=>by simp[vEq,ew v]
 |.agg l=>by simp[vEq,dZ l]
 |.tup l=>by simp[vEq,dZ l]
theorem dZ:∀(v:List V),mC v v=true
 |[]=>rfl
 |v::l=>by simp[mC,ew v,dZ l]
end
theorem ur(n:Nat):iu n loc [] env=some env:=rfl
theorem Ac(n s i:Nat)(r:List (Nat×Nat)):iu n loc ((s,i)::r) env=match nth loc (n-i-1)with
 |some v=>iu n loc r (env.set s v)
 |none=>none:=by
 rw[j3];rfl
def ao(call:aI)(f:Nat)(vs:List V)(h:Heap)(R:V->Heap->Prop):Prop:=OQ (call f vs h) R
theorem aa{f:Nat}{vs:List V}{R K:V->Heap->Prop}(d:ao call f vs h R)(k:∀v h',R v h'->K v h'):OQ (call f vs h) K:=d.mono k
def RsQ(o:Option (List V))(R:V->Heap->Prop)(h:Heap):Prop:=∃vs,o=some vs/\R (rU vs) h
theorem pa(vs:List V)(R:V->Heap->Prop):RsQ (some vs) R h↔R (rU vs) h:=
 ⟨fun⟨_,e,k⟩=>by cases e;exact k,fun k=>⟨vs,rfl,k⟩⟩
def iO(rs:List RV)(R:V->Heap->Prop):Ex->T V->Heap->Prop:=fun e env h=>(e=.norm\/e=.ret)/\RsQ (fC env h rs) R h
theorem wk(rs:List RV)(R:V->Heap->Prop):iO rs R .norm env h↔RsQ (fC env h rs) R h:=by simp[iO]
theorem pc(rs:List RV)(R:V->Heap->Prop):iO rs R .ret env h↔RsQ (fC env h rs) R h:=by simp[iO]
theorem nW:fC env h []=some []:=rfl
theorem w9(s:Nat)(rs:List RV):fC env h (.t s::rs)=kJ (env.get s) (fC env h rs):=by
 simp only[fC,evR];cases env.get s with
 |none=>rfl
 |some v=>cases fC env h rs<;>rfl
theorem FG(s n:Nat)(Z:Bool)(rs:List RV):fC env h (.c s n Z::rs)=kJ ((env.get s).bind fun v=>jk h n Z v) (fC env h rs):=by
 simp only[fC,evR];cases env.get s with
 |none=>rfl
 |some p=>
  simp only[SZ];cases jk h n Z p with
  |none=>rfl
  |some v=>cases fC env h rs<;>rfl
theorem uK:rU []=.tup []:=rfl
theorem lh(v:V):rU [v]=v:=rfl
theorem uJ(v u:V)(l:List V):rU (v::u::l)=.tup (v::u::l):=rfl
theorem ag{ov:aI}{F:T IFn}{f n:Nat}{b:IC}{rs:List RV}{vs:List V}{R:V->Heap->Prop}(Z:W (ev ov F) b (gA vs 0 .e) h (iO rs R))
 (K:F.get f=some ⟨n,b,rs⟩:=by exact rfl) (hn:Nat.beq vs.length n=true:=by exact rfl):ao (ev ov F) f vs h R:=by
 let⟨e,env',h',x,he,rs,hr,q⟩:=Z;exact⟨_,_,IH K hn x he hr,q⟩
end
end Go.Ev
namespace Go.Ev
abbrev Uu:=@Go.Ev.OQ.mono
end Go.Ev
