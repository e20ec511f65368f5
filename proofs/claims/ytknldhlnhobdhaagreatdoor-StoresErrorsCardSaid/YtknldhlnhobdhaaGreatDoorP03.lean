/- An evaluator of the program, and contracts over it: EvV to EvWa. -/
import Derived.Test.YtknldhlnhobdhaaGreatDoorP02
set_option linter.unusedSimpArgs false
set_option linter.unusedVariables false
set_option linter.constructorNameAsVariable false
set_option linter.unnecessarySimpa false
namespace Go.Ev
variable {K : LG → Prop}
def uF:List Nat→List Nat→Bool
 |[],[]=>true
 |a::l,b::r=>Nat.beq a b&&uF l r
 |_,_=>false
theorem sI:∀{l r:List Nat},uF l r=true→l=r
 |[],[],_=>rfl
 |[],_::_,h=>by cases h
 |_::_,[],h=>by cases h
 |a::l,b::r,h=>by simp only[uF,Bool.and_eq_true]at h;rw[Nat.eq_of_beq_eq_true h.1,sI h.2]
def dJ(P:Program)(C:Cx):IC→Code→Bool
 |.skip,.skip=>true
 |.skip,.label _=>true
 |.ops l,.region _ ops false=>gw P C ops ops.toList l []
 |.seq a b,.seq x y=>dJ P C a x&&dJ P C b y
 |.cond x a b,.cond c t e=>kM C [] c x&&dJ P C a t&&dJ P C b e
 |.block id c,.block id' c'=>Nat.beq id id'&&dJ P C c c'
 |.loop c,.loop c'=>dJ P C c c'
 |.exit id,.exit id'=>Nat.beq id id'
 |.ret,.ret=>true
 |.scope c l r,.scope c'=>dJ P C c c'&&(match findLabel c' l with
  |some r'=>dJ P C r r'
  |none=>false)
 |.goto l,.goto l'=>Nat.beq l l'
 |.dops l late R reads sets,.region _ ops true=>JD P C ops l late (bOf ops) R reads sets
 |.bad,_=>true
 |.rf g ps a b,.rangeFunc g' ps' a' b'=>kM C [] g' g&&uF ps'.toList ps&&ps.all (fun p=>C.vars.contains p&&Nat.blt p C.N)&&dJ P {C with df:=false} a a'&&dJ P {C with df:=false} b b'
 |_,_=>false
def iQ:Ex→Exit
 |.norm=>.normal
 |.ret=>.ret
 |.exit id=>.exit id
 |.goto l=>.goto l
section
variable {P : Program} {Q : Exit → Act → World → Prop} {a : Act} {w : World} {ro : Option Nat}
theorem uA(n:Nat):(FR ro).room n:=fun _ h=>by simp[Fence.wide]at h
theorem ur{b:Frame}{c:Code}{k:List Item}{cs:List Frame}:
 step P (lone (b.atR a (.code (.scope c)::k)) cs w)=.next (lone (b.atR a (.code c::.inScope c::k)) cs w):=
 step_lone_go (by simp[stepG,stepG.exec,Frame.atR])
theorem pL{b:Frame}{c:Code}{k:List Item}{cs:List Frame}:
 step P (lone (b.atR a (.inScope c::k)) cs w)=.next (lone (b.atR a k) cs w):=
 step_lone_go (by simp[stepG,stepG.exec,Frame.atR])
theorem AE{fr:Frame}{cs:List Frame}(ha:fr.about P w=none):(lone fr cs w).fenced P (FR ro):=fenced_calm (n:=0) trivial (uA _) ha
def kD(ro:Option Nat)(P:Program)(c x:Code)(Q:Exit→Act→World→Prop)(a:Act)(w:World):Prop:=
 ∀(b:Frame)(k:List Item)(cs:List Frame),b.roundOf=ro→∃e a' w',Q e a' w'∧ArrivesIn (Machine.fenced P (FR ro)) P (lone (b.atR a (.code x::.inScope c::k)) cs w) b k cs e a' w'
theorem vB{c:Code}(h:kD ro P c c Q a w):(Code.scope c).wpIn (FR ro) 0 P Q a w:=fun b k cs hro _ _=>
 let⟨e,a',w',q,r⟩:=h b k cs hro;⟨e,a',w',q,.of_steps (.one (AE rfl) ur) r⟩
theorem qr{c x:Code}(h:x.wpIn (FR ro) 0 P (fun e a' w'=>match e with
 |.goto l=>(match findLabel c l with
  |some r=>kD ro P c r Q a' w'
  |none=>Q (.goto l) a' w')
 |e=>Q e a' w') a w):kD ro P c x Q a w:=by
 intro b k cs hro;let⟨e,a₁,w₁,hq,harr⟩:=h b (.inScope c::k) cs hro trivial (uA _);cases e with
 |normal=>exact⟨.normal,a₁,w₁,hq,StepsIn.trans harr (.one (AE rfl) pL)⟩
 |exit id=>exact⟨.exit id,a₁,w₁,hq,fun k' hk=>harr.1 k' (by simpa[exitTo]using hk),fun hr hk=>harr.2 hr (by simpa[exitTo]using hk)⟩
 |goto l=>
  simp only[]at hq;cases hf:findLabel c l with
  |none=>rw[hf]at hq;exact⟨.goto l,a₁,w₁,hq,fun k' hk=>harr.1 k' (by simp[gotoIn,hf,hk]),fun hr hk=>harr.2 hr (by simp[gotoIn,hf,hk])⟩
  |some r=>rw[hf]at hq;let⟨e,a₂,w₂,hq₂,harr₂⟩:=hq b k cs hro;exact⟨e,a₂,w₂,hq₂,.of_steps (harr.1 _ (by simp[gotoIn,hf])) harr₂⟩
 |ret=>exact⟨.ret,a₁,w₁,hq,harr⟩
 |panic ch=>exact⟨.panic ch,a₁,w₁,hq,harr⟩
 |outgrown=>exact⟨.outgrown,a₁,w₁,hq,harr⟩
def q8(ro:Option Nat)(P:Program)(c:Code)(Q:Exit→Act→World→Prop)(a:Act)(w:World):Prop:=
 ∀(b:Frame)(k:List Item)(cs:List Frame),b.roundOf=ro→∃e a' w',Q e a' w'∧ArrivesIn (Machine.fenced P (FR ro)) P (lone (b.atR a (.code c::.inLoop c::k)) cs w) b k cs e a' w'
theorem xR{c:Code}(h:q8 ro P c Q a w):(Code.loop c).wpIn (FR ro) 0 P Q a w:=fun b k cs hro _ _=>
 let⟨e,a',w',q,r⟩:=h b k cs hro;⟨e,a',w',q,.of_steps (.one (AE rfl) stepR_loop) r⟩
theorem BP{c:Code}(h:c.wpIn (FR ro) 0 P (Exit.then (q8 ro P c Q) Q) a w):q8 ro P c Q a w:=by
 intro b k cs hro;let⟨e,a₁,w₁,hq,harr⟩:=h b (.inLoop c::k) cs hro trivial (uA _);cases e with
 |normal=>let⟨e₂,a₂,w₂,hq₂,harr₂⟩:=hq b k cs hro;exact⟨e₂,a₂,w₂,hq₂,.of_steps (StepsIn.trans harr (.one (AE rfl) stepR_inLoop)) harr₂⟩
 |exit id=>exact⟨_,a₁,w₁,hq,.pass (x:=.inLoop c) rfl (fun _ _=>.inl iS) harr⟩
 |goto l=>exact⟨_,a₁,w₁,hq,.pass (x:=.inLoop c) rfl (fun _ _=>.inl iS) harr⟩
 |ret=>exact⟨_,a₁,w₁,hq,.pass (x:=.inLoop c) rfl (fun _ _=>.inl iS) harr⟩
 |panic ch=>exact⟨_,a₁,w₁,hq,.pass (x:=.inLoop c) rfl (fun _ _=>.inl iS) harr⟩
 |outgrown=>exact⟨_,a₁,w₁,hq,.pass (x:=.inLoop c) rfl (fun _ _=>.inl iS) harr⟩
end
def RoOK(ro:Option Nat)(w:World):Prop:=∀l,ro=some l→∃r,w.heap[l]? =some (.loop r)
theorem RoOK.ext{ro:Option Nat}{m m':M}{h h':Heap}{w w':World}(a:RoOK ro w)(E:Ext m h w m' h' w'):RoOK ro w':=by
 intro l hl;let⟨r,hr⟩:=a l hl;let⟨x',h1,h2⟩:=E.out l (Array.getElem?_eq_some_iff.1 hr).1 _ hr;cases x' with
 |loop r'=>exact⟨r',h1⟩
 |_=>cases h2
structure Cir(K:LG→Prop)(C:Cx)(ro:Option Nat)(B:Nat)(m:M)(h:Heap)(w:World)(env:T V)(a:Act):Prop where
 g:Glob K C.G m
 e:ERel C m env a
 h:HRel m h w
 d:DsR C B m w env a.defers
 b:B≤w.heap.size
 r:RoOK ro w
def FP(K:LG→Prop)(C:Cx)(ro:Option Nat)(B:Nat)(m:M)(h:Heap)(w:World)(R:Act→World→Prop)(env':T V)(h':Heap):Prop:=
 ∀a' w' m',Cir K C ro B m' h' w' env' a'→Ext m h w m' h' w'→R a' w'
def JQ(K:LG→Prop)(C:Cx)(ro:Option Nat)(B:Nat)(ev:T V→Heap→Out)(W:(Exit→Act→World→Prop)→Act→World→Prop):Prop:=
 ∀(Q:Exit→Act→World→Prop) env h m a w ex env' h',Cir K C ro B m h w env a→ev env h=.ok ex env' h'→
  FP K C ro B m h w (Q (iQ ex)) env' h'→W Q a w
theorem Es(body:T V→Heap→Out)(env:T V)(h:Heap):dbl body 0 env h=body env h:=rfl
theorem w8(body:T V→Heap→Out)(k:Nat)(env:T V)(h:Heap):dbl body (k+1) env h=match dbl body k env h with
 |.ok .norm env h=>dbl body k env h
 |r=>r:=rfl
theorem yB{P:Program}{C:Cx}{ro:Option Nat}{B:Nat}{body:T V→Heap→Out}{c:Code}(hb:JQ K C ro B body (fun Q a w=>c.wpIn (FR ro) 0 P Q a w))(Q:Exit→Act→World→Prop):
 ∀(k:Nat) env h m a w ex env' h',Cir K C ro B m h w env a→dbl body k env h=.ok ex env' h'→
  FP K C ro B m h w (Exit.then (q8 ro P c Q) Q (iQ ex)) env' h'→q8 ro P c Q a w:=by
 intro k;induction k with
 |zero=>intro env h m a w ex env' h' hC e hL;exact BP (hb _ env h m a w ex env' h' hC e hL)
 |succ k ih=>
  intro env h m a w ex env' h' hC e hL;rw[w8]at e;cases h1:dbl body k env h with
  |fail=>rw[h1]at e;cases e
  |ok ex1 env1 h2=>
   rw[h1]at e;cases ex1 with
   |norm=>simp only[]at e;refine ih env h m a w .norm env1 h2 hC h1 (fun a' w' m' hC' E'=>?_);exact ih env1 h2 m' a' w' ex env' h' hC' e (fun a'' w'' m'' hC'' E''=>hL a'' w'' m'' hC'' (E'.trans E''))
   |ret=>simp only[]at e;cases e;exact ih env h m a w _ _ _ hC h1 hL
   |exit id=>simp only[]at e;cases e;exact ih env h m a w _ _ _ hC h1 hL
   |goto l=>simp only[]at e;cases e;exact ih env h m a w _ _ _ hC h1 hL
def nm(ro:Option Nat)(P:Program)(c:Code)(Q:Exit→Act→World→Prop):Exit→Act→World→Prop:=fun e a' w'=>match e with
 |.goto l=>(match findLabel c l with
  |some r=>kD ro P c r Q a' w'
  |none=>Q (.goto l) a' w')
 |e=>Q e a' w'
noncomputable def vQ(l:Nat)(r:T V→Heap→Out):T V→Heap→Out:=fun env h=>match r env h with
 |.ok (.goto i) env h=>bif Nat.beq i l then .ok .norm env h else .ok (.goto i) env h
 |.ok .norm env h=>.ok (.goto l) env h
 |r=>r
def dec(l:Nat):Ex→Exit
 |.norm=>.goto l
 |.goto i=>if i=l then .normal else .goto i
 |.ret=>.ret
 |.exit id=>.exit id
theorem wA{P:Program}{C:Cx}{ro:Option Nat}{B:Nat}{body:T V→Heap→Out}{c r:Code}{l:Nat}(hf:findLabel c l=some r)(hb:JQ K C ro B body (fun Q a w=>r.wpIn (FR ro) 0 P Q a w))(Q:Exit→Act→World→Prop):
 ∀(k:Nat) env h m a w ex env' h',Cir K C ro B m h w env a→dbl (vQ l body) k env h=.ok ex env' h'→
  FP K C ro B m h w (nm ro P c Q (dec l ex)) env' h'→kD ro P c r Q a w:=by
 intro k;induction k with
 |zero=>
  intro env h m a w ex env' h' hC e hL;rw[Es]at e;unfold vQ at e;cases h1:body env h with
  |fail=>rw[h1]at e;cases e
  |ok ex1 env1 h2=>
   rw[h1]at e;have fin:iQ ex1=dec l ex→env1=env'→h2=h'→kD ro P c r Q a w:=by rintro e1 rfl rfl;refine qr (hb (nm ro P c Q) env h m a w ex1 env1 h2 hC h1 ?_);rw[e1];exact hL
   cases ex1 with
   |norm=>simp only[]at e;cases e;exact fin (by simp[dec,iQ]) rfl rfl
   |ret=>simp only[]at e;cases e;exact fin rfl rfl rfl
   |exit id=>simp only[]at e;cases e;exact fin rfl rfl rfl
   |goto i=>
    simp only[]at e;cases hb:Nat.beq i l;rw[hb]at e;simp only[cond_false]at e;cases e;exact fin (by
     have:i≠l:=by intro q;subst q;simp at hb
     simp[dec,iQ,this]) rfl rfl
    rw[hb]at e;simp only[cond_true]at e;cases e;exact fin (by have:=Nat.eq_of_beq_eq_true hb;subst this;rfl) rfl rfl
 |succ k ih=>
  intro env h m a w ex env' h' hC e hL;rw[w8]at e;cases h1:dbl (vQ l body) k env h with
  |fail=>rw[h1]at e;cases e
  |ok ex1 env1 h2=>
   rw[h1]at e;cases ex1 with
   |norm=>simp only[]at e;refine ih env h m a w .norm env1 h2 hC h1 (fun a' w' m' hC' E'=>?_);simp only[dec,nm,hf];exact ih env1 h2 m' a' w' ex env' h' hC' e (fun a'' w'' m'' hC'' E''=>hL a'' w'' m'' hC'' (E'.trans E''))
   |ret=>simp only[]at e;cases e;exact ih env h m a w _ _ _ hC h1 hL
   |exit id=>simp only[]at e;cases e;exact ih env h m a w _ _ _ hC h1 hL
   |goto l=>simp only[]at e;cases e;exact ih env h m a w _ _ _ hC h1 hL
def LOK(P:Program)(G:Nat)(g:LG):Prop:=
 dJ P ⟨G,g.vars,g.N,false⟩ g.as g.r.assign=true∧dJ P ⟨G,g.vars,g.N,false⟩ g.bd g.r.body=true∧g.r.params.toList=g.ps∧g.r.tmps.size=g.N∧
 (∀p∈g.ps,g.vars.contains p=true∧p<g.N)∧g.vars.contains DSL=false
theorem DsR.fresh{C:Cx}{B:Nat}{m:M}{w:World}{env:T V}{ds:List Deferred}(D:DsR C B m w env ds):∀d∈ds,d.target≠.collected w.heap.size:=by
 have key:∀l,Marks B m w l→∀d∈l,d.target≠.collected w.heap.size:=by
  intro l;induction l with
  |nil=>intro _ d hd;simp at hd
  |cons x l ih=>rintro⟨⟨r,h1,h2,h3,_⟩,t⟩ d hd;obtain rfl|hd:=List.mem_cons.1 hd;grind;exact ih t d hd
 unfold DsR at D;split at D;obtain⟨d1,d,d2,rfl,⟨f,first,caps,args,A,C',_,_,hd,_⟩,q3⟩:=D;intro x hx;rw[List.mem_append,List.mem_cons]at hx;obtain q|rfl|q:=hx;exact key _ q3 x (List.mem_append.2 (.inl q));grind;exact key _ q3 x (List.mem_append.2 (.inr q));exact key _ D
theorem kF{P:Program}{w:World}{fn:FuncId}{tmps:Array Value}{ps:Array Tmp}{assign body:Code}{l:Nat}{r:Loop}(h:w.heap[l]? =some (.loop r)):
 (Instr.enterLoop fn tmps ps assign body (some l)).run P w=
  .ok (w.heap.size,[]) (w.alloc (.loop {state:=.ready,pending:=none,fn,tmps,params:=ps,assign,body,defers:=r.defers})):=by
 unfold Instr.enterLoop;simp only[Sem.run_bind,run_getLoop h,run_newObj_alloc,Result.andThen,Sem.run_pure]
theorem yN{P:Program}{C:Cx}{ro:Option Nat}{B:Nat}{m:M}{h:Heap}{w:World}{env:T V}{a:Act}(hC:Cir K C ro B m h w env a)(fn:FuncId)(ps:Array Tmp)(assign body:Code):
 ∃(l:Nat)(mark:List Deferred)(w1:World)(df:Nat),(Instr.enterLoop fn a.tmps ps assign body ro).run P w=.ok (l,mark) w1∧
  (∀i,i<w.heap.size→w1.heap[i]? =w.heap[i]?)∧w.heap.size≤l∧w.heap.size≤w1.heap.size∧w1.os=w.os∧w1.tape=w.tape∧w1.output=w.output∧
  w1.heap[l]? =some (.loop {state:=.ready,pending:=none,fn,tmps:=a.tmps,params:=ps,assign,body,defers:=df})∧
  (mark=[]∨(mark=[{target:=.collected w.heap.size,args:= #[]}]∧w1.heap[w.heap.size]? =some (.deferred (some []))∧l≠w.heap.size)):=by
 cases ro with
 |none=>refine⟨w.heap.size+1,_,_,w.heap.size,run_enterLoop_outer fn a.tmps ps assign body,fun i hi=>?_,oM,by simp;omega,rfl,rfl,rfl,?_,.inr ⟨rfl,?_,oM⟩⟩;rw[heap_alloc_old _ _ _ oO,heap_alloc_old _ _ _ hi];have:=World.alloc_heap_new (w.alloc (.deferred (some []))) (.loop {state:=.ready,pending:=none,fn,tmps:=a.tmps,params:=ps,assign,body,defers:=w.heap.size});rwa[World.size_alloc]at this;rw[heap_alloc_old _ _ _ iS];exact World.alloc_heap_new w _
 |some lo=>let⟨r,hr⟩:=hC.r lo rfl;refine⟨w.heap.size,_,_,r.defers,kF hr,fun i hi=>heap_alloc_old _ _ _ hi,Nat.le_refl _,iS,rfl,rfl,rfl,World.alloc_heap_new w _,.inl rfl⟩
theorem iU{P:Program}{C:Cx}{ro:Option Nat}{B:Nat}{call:aC}(hcall:dN P K C.G call)(hK:∀g,LOK P C.G g→K g)(hro:C.df=true→ro=none):∀(ic:IC)(c:Code),dJ P C ic c=true→JQ K C ro B (evC call ic) (fun Q a w=>c.wpIn (FR ro) 0 P Q a w):=by
 intro ic;induction ic with
 |skip=>
  intro c hc Q env h m a w ex env' h' hC e hL;cases e;cases c<;>simp[dJ]at hc
  exact wpIn_skip (hL a w m hC (Ext.refl _ _ _));exact wpIn_label (hL a w m hC (Ext.refl _ _ _))
 |ops l=>
  intro c hc Q env h m a w ex env' h' hC e hL;have e':c7 call l [] env h=.ok ex env' h':=e;cases c with
  |region id ops dr=>
   cases dr with
   |true=>simp[dJ]at hc
   |false=>
    apply wpIn_region;have hs:=vR hcall (Q:=Q) hro ops.toList 0 l [] [] env h m a w ex env' h' iS hc hC.g (fun t s hs=>by simp[dS]at hs) hC.e hC.h hC.d e'
     (fun a' w' m' hx hE' H' E' hd=>by subst hx;exact hL a' w' m' ⟨hC.g.ext E',hE',H',hd,Nat.le_trans hC.b E'.size,hC.r.ext E'⟩ E')
    simpa[List.range_eq_range']using hs
  |_=>simp[dJ]at hc
 |seq x y ihx ihy=>
  intro c hc Q env h m a w ex env' h' hC e hL;cases c<;>simp[dJ]at hc;rename_i c1 c2;have e':(match evC call x env h with|.ok .norm env h=>evC call y env h|r=>r)=.ok ex env' h':=e
  apply wpIn_seq;cases h1:evC call x env h with
  |fail=>rw[h1]at e';cases e'
  |ok ex1 env1 h2=>
   rw[h1]at e';refine ihx c1 hc.1 _ env h m a w ex1 env1 h2 hC h1 (fun a' w' m' hC' E'=>?_);cases ex1 with
   |norm=>simp only[]at e';exact ihy c2 hc.2 Q env1 h2 m' a' w' ex env' h' hC' e' (fun a'' w'' m'' hC'' E''=>hL a'' w'' m'' hC'' (E'.trans E''))
   |ret=>simp only[]at e';cases e';exact hL a' w' m' hC' E'
   |exit id=>simp only[]at e';cases e';exact hL a' w' m' hC' E'
   |goto l=>simp only[]at e';cases e';exact hL a' w' m' hC' E'
 |cond x y z ihy ihz=>
  intro c hc Q env h m a w ex env' h' hC e hL;cases c<;>simp[dJ]at hc;rename_i co c1 c2;have e':(match evO [] env x with|some (.bool t)=>bif t then evC call y env h else evC call z env h|_=>.fail)=.ok ex env' h':=e
  split at e';rename_i t ht;have hr:=fO hC.g (σ:=[]) (fun t s hs=>by simp[dS]at hs) hC.e hc.1.1 ht;simp only[VRel]at hr;apply wpIn_cond (t:=t) hr;cases t;simp only[cond_false]at e';exact ihz c2 hc.2 Q env h m a w ex env' h' hC e' hL;simp only[cond_true]at e';exact ihy c1 hc.1.2 Q env h m a w ex env' h' hC e' hL;cases e'
 |block id x ih=>
  intro c hc Q env h m a w ex env' h' hC e hL;cases c<;>simp[dJ]at hc;rename_i id' c1;obtain⟨hid,hc⟩:=hc;subst hid;have e':(match evC call x env h with|.ok (.exit i) env h=>bif Nat.beq i id then .ok .norm env h else .ok (.exit i) env h|r=>r)=Out.ok ex env' h':=e
  apply wpIn_block;cases h1:evC call x env h with
  |fail=>rw[h1]at e';cases e'
  |ok ex1 env1 h2=>
   rw[h1]at e';refine ih c1 hc _ env h m a w ex1 env1 h2 hC h1 (fun a' w' m' hC' E'=>?_);cases ex1 with
   |norm=>simp only[]at e';cases e';exact hL a' w' m' hC' E'
   |ret=>simp only[]at e';cases e';exact hL a' w' m' hC' E'
   |goto l=>simp only[]at e';cases e';exact hL a' w' m' hC' E'
   |exit i=>
    simp only[]at e';cases hb:Nat.beq i id;rw[hb]at e';simp only[cond_false]at e';cases e';have:i≠id:=by intro q;subst q;simp at hb
    simp only[iQ,Exit.inBlock,if_neg this];exact hL a' w' m' hC' E';rw[hb]at e';simp only[cond_true]at e';cases e';have:=Nat.eq_of_beq_eq_true hb;subst this;simp only[iQ,Exit.inBlock,if_true];exact hL a' w' m' hC' E'
 |loop x ih=>
  intro c hc Q env h m a w ex env' h' hC e hL;cases c<;>simp[dJ]at hc;rename_i c1;have e':(match dbl (evC call x) 48 env h with|.ok .norm _ _=>.fail|r=>r)=Out.ok ex env' h':=e
  apply xR;cases h1:dbl (evC call x) 48 env h with
  |fail=>rw[h1]at e';cases e'
  |ok ex1 env1 h2=>
   rw[h1]at e';refine yB (ih c1 hc) Q 48 env h m a w ex1 env1 h2 hC h1 (fun a' w' m' hC' E'=>?_);cases ex1 with
   |norm=>cases e'
   |ret=>simp only[]at e';cases e';exact hL a' w' m' hC' E'
   |exit i=>simp only[]at e';cases e';exact hL a' w' m' hC' E'
   |goto l=>simp only[]at e';cases e';exact hL a' w' m' hC' E'
 |exit id=>intro c hc Q env h m a w ex env' h' hC e hL;cases c<;>simp[dJ]at hc;subst hc;cases e;exact wpIn_exit (hL a w m hC (Ext.refl _ _ _))
 |ret=>intro c hc Q env h m a w ex env' h' hC e hL;cases c<;>simp[dJ]at hc;cases e;exact wpIn_ret (hL a w m hC (Ext.refl _ _ _))
 |scope x l r ihx ihr=>
  intro c hc Q env h m a w ex env' h' hC e hL;cases c<;>simp only[dJ,Bool.false_eq_true]at hc;rename_i c1;simp only[Bool.and_eq_true]at hc;let⟨hc1,hc2⟩:=hc;split at hc2
  rename_i r' hf;have e':(match evC call x env h with
   |.ok (.goto i) env h=>bif Nat.beq i l then
    (match dbl (vQ l (evC call r)) 48 env h with
     |.ok .norm _ _=>.fail
     |.ok (.goto i) env h=>bif Nat.beq i l then .ok .norm env h else .fail
     |r=>r)
    else .fail
   |r=>r)=Out.ok ex env' h':=e
  refine vB (qr ?_);cases h1:evC call x env h with
  |fail=>rw[h1]at e';cases e'
  |ok ex1 env1 h2=>
   rw[h1]at e';refine ihx c1 hc1 (nm ro P c1 Q) env h m a w ex1 env1 h2 hC h1 (fun a' w' m' hC' E'=>?_);cases ex1 with
   |norm=>simp only[]at e';cases e';exact hL a' w' m' hC' E'
   |ret=>simp only[]at e';cases e';exact hL a' w' m' hC' E'
   |exit i=>simp only[]at e';cases e';exact hL a' w' m' hC' E'
   |goto i=>
    simp only[]at e';cases hb:Nat.beq i l;rw[hb]at e';cases e';rw[hb]at e';simp only[cond_true]at e';have:=Nat.eq_of_beq_eq_true hb;subst this;simp only[iQ,nm,hf];cases h3:dbl (vQ i (evC call r)) 48 env1 h2 with
    |fail=>rw[h3]at e';cases e'
    |ok ex2 env2 h4=>
     rw[h3]at e';refine wA hf (ihr r' hc2) Q 48 env1 h2 m' a' w' ex2 env2 h4 hC' h3 (fun a'' w'' m'' hC'' E''=>?_);have hE3:=E'.trans E'';cases ex2 with
     |norm=>cases e'
     |ret=>simp only[]at e';cases e';exact hL a'' w'' m'' hC'' hE3
     |exit j=>simp only[]at e';cases e';exact hL a'' w'' m'' hC'' hE3
     |goto j=>simp only[]at e';cases hj:Nat.beq j i;rw[hj]at e';cases e';rw[hj]at e';simp only[cond_true]at e';cases e';have:=Nat.eq_of_beq_eq_true hj;subst this;simp only[dec,if_true,nm];exact hL a'' w'' m'' hC'' hE3
  cases hc2
 |goto l=>intro c hc Q env h m a w ex env' h' hC e hL;cases c<;>simp[dJ]at hc;subst hc;cases e;exact wpIn_goto (hL a w m hC (Ext.refl _ _ _))
 |dops l late R reads sets=>
  intro c hc Q env h m a w ex env' h' hC e hL;cases c with
  |region id ops dr=>
   cases dr with
   |false=>simp[dJ]at hc
   |true=>exact yP hcall hc hC.g hC.e hC.h e (fun a' w' m' hx hE' H' E' hd hde=>by
    subst hx;exact hL a' w' m' ⟨hC.g.ext E',hE',H',by rw[hd];exact(hC.d.ext E').congr hde,Nat.le_trans hC.b E'.size,hC.r.ext E'⟩ E')
  |_=>simp[dJ]at hc
 |bad=>intro c hc Q env h m a w ex env' h' hC e hL;cases e
 |wd x ih=>intro c hc;cases c<;>simp[dJ]at hc
 |rf g ps as bd iha ihb=>
  intro c hc Q env h m a w ex env' h' hC e hL;cases c<;>simp only[dJ,Bool.false_eq_true]at hc;rename_i g' ps' as' bd';simp only[Bool.and_eq_true]at hc;let⟨⟨⟨⟨hcg,hps⟩,hpv⟩,hca⟩,hcb⟩:=hc;have e':(match evO [] env g with
   |some (.func (.func f) first caps)=>bif Nat.blt f YB then
    (match call f (first++[.yld h.next]++caps) (hnew h (.lp ps as bd env 0 none))with
     |some (_,h2)=>(match h2.bl.get h.next with
      |some (.lp _ _ _ _ st pend)=>bif Nat.beq st 1 then .fail else .ok (match pend with|some ex=>ex|none=>.norm) env (hset h2 h.next .dead)
      |_=>.fail)
     |none=>.fail)
    else .fail
   |_=>.fail)=Out.ok ex env' h':=e
  split at e';rename_i f first caps hg
  cases hlt:Nat.blt f YB;rw[hlt]at e';cases e';rw[hlt]at e';simp only[cond_true]at e';split at e';rename_i u h2 hcl;split at e';rename_i ps2 as2 bd2 en2 st pend hb2;cases hst:Nat.beq st 1;rw[hst]at e';simp only[cond_false,Out.ok.injEq]at e';obtain⟨rfl,rfl,rfl⟩:=e';have hgv:=fO hC.g (σ:=[]) (fun t s hs=>by simp[dS]at hs) hC.e hcg hg;let⟨f',c',hfe,rf,rc⟩:=hgv;apply wpIn_rangeFunc;intro fn _;let⟨l,mark,w1,df,hent,hk,hge,hsz,hos,htp,hou,hrec,hmark⟩:=yN (P:=P) hC fn ps' as' bd';have hGL:∃G0:LG,G0={r:={state:=.ready,pending:=none,fn,tmps:=a.tmps,params:=ps',assign:=as',body:=bd',defers:=df},ps:=ps,as:=as,bd:=bd,vars:=C.vars,N:=C.N}:=⟨_,rfl⟩;let⟨G0,hG0⟩:=hGL;have hLOK:LOK P C.G G0:=by rw[hG0];refine⟨hca,hcb,sI hps,hC.e.1,fun p hp=>?_,hC.e.2.2⟩;have:=List.all_eq_true.1 hpv p hp;simpa using this
  have H1:HRel (dC m h.next ⟨l,0,0,some G0⟩) (hnew h (.lp ps as bd env 0 none)) w1:=by have:=hC.h.allocL (w1:=w1) (L:=l) (g:=G0) (env:=env) hk hge (by rw[hG0];exact hrec) (by rw[hG0];exact hC.e.2.1);rw[hG0]at this⊢;exact this
  have hle1:=hC.h.le_mset ⟨l,0,0,some G0⟩;have hGl1:Glob K C.G (dC m h.next ⟨l,0,0,some G0⟩):=by refine⟨fun g hg=>let⟨r,hr⟩:=hC.g.1 g hg;⟨r,hle1 _ _ hr⟩,fun p loc g hp hl=>?_⟩;by_cases q:p=h.next;subst q;rw[aq]at hp;cases hp;simp only[Option.some.injEq]at hl;subst hl;exact hK _ hLOK;rw[aw _ _ q]at hp;exact hC.g.2 p loc g hp hl
  have hlt':=(Nat.blt_eq ..).mp hlt;let⟨hf,hcc⟩:=(hcall f _ _ u h2 hcl).1 hlt';have hargs:VsRel (dC m h.next ⟨l,0,0,some G0⟩) (first++[.yld h.next]++caps) (f'++[.func (.yield l) #[] #[]]++c'):=
   VsRel.append (VsRel.append (VsRel.mono hle1 _ _ rf) ⟨_,_,rfl,⟨_,aq _ _ _,rfl⟩,rfl⟩) (VsRel.mono hle1 _ _ rc)
  have hcalls:=(hcc _ w1 _ hargs H1 hGl1).1;refine⟨l,mark,w1,{target:=.fn (.func f) (List.toArray c'),args:=List.toArray (f'++[.func (.yield l) #[] #[]])},w1,f,List.toArray (f'++[.func (.yield l) #[] #[]]++c'),w1,hent,?_,fun _ _=>trivial,?_,fun q=>absurd q (by simp[Fence.wide]),?_⟩;simp only[resolve,hfe,Deferred.ofValue,Sem.run_pure];congr 1;simp[Act.eval];simp only[invoke];rw[(iS:(List.toArray (f'++[Value.func (.yield l) #[] #[]])++List.toArray c')=List.toArray (f'++[.func (.yield l) #[] #[]]++c'))];exact fH hf;have hcl2:CallsIn Fence.wide 0 P f (List.toArray (f'++[.func (.yield l) #[] #[]]++c')) w1 (kJ (dC m h.next ⟨l,0,0,some G0⟩) (hnew h (.lp ps as bd env 0 none)) w1 u h2):=callsIn_wide.2 hcalls;apply CallsIn.mono (F:=FR ro) (n:=0) hcl2;rintro en w3 ⟨x,m2,rfl,rx,H2,E2⟩;have hm2:=E2.le h.next _ (aq m h.next ⟨l,0,0,some G0⟩);let⟨g2,hg2,_,_,_,hr2,_⟩:=H2.loop hm2 hb2;have hnb:(lst st)≠.busy:=by
   intro q;match st,hst,q with
   |0,_,q=>cases q
   |1,hst,_=>cases hst
   |2,_,q=>cases q
   |n+3,_,q=>cases q
  have hend:=run_endLoop (P:=P) hr2 hnb;refine⟨_,_,hend,?_⟩;have H3:=H2.endL hm2 hb2 (.loop {({g2.r with state:=lst st,pending:=pend.map gV}:Loop)with state:=.exhausted});have E3:=Ext.loop (o:=.loop {({g2.r with state:=lst st,pending:=pend.map gV}:Loop)with state:=.exhausted}) hC.h hk hge hsz hos htp hou E2;have hD3:DsR C B (dC m2 h.next ⟨l,0,0,none⟩) (w3.putObj l (.loop {({g2.r with state:=lst st,pending:=pend.map gV}:Loop)with state:=.exhausted})) env (mark++a.defers):=by
   have hD:=hC.d.ext E3;obtain rfl|⟨rfl,hmk,hlne⟩:=hmark;exact hD;have hoff1:Off (dC m h.next ⟨l,0,0,some G0⟩) w.heap.size:=by intro p loc hp;by_cases q:p=h.next;subst q;rw[aq]at hp;cases hp;exact hlne;rw[aw _ _ q]at hp;have:=hC.h.inb p loc hp;omega
   have hltm:=(Array.getElem?_eq_some_iff.1 hmk).1;refine hD.push hC.b ?_ ?_ hC.d.fresh;rw[World.putObj_heap_other (Ne.symm hlne)];exact(E2.keep _ hoff1 hltm).trans hmk;intro p loc hp;by_cases q:p=h.next;subst q;rw[aq]at hp;cases hp;exact hlne;rw[aw _ _ q]at hp;exact hoff1.ext E2 hltm p loc hp
  have hC3:Cir K C ro B (dC m2 h.next ⟨l,0,0,none⟩) (hset h2 h.next .dead) (w3.putObj l (.loop {({g2.r with state:=lst st,pending:=pend.map gV}:Loop)with state:=.exhausted})) env {a with defers:=mark++a.defers}:=
   ⟨hC.g.ext E3,⟨hC.e.1,fun s v hs=>(hC.e.2.1 s v hs).imp id fun q=>⟨q.1,VRel.mono E3.le _ _ q.2⟩,hC.e.2.2⟩,H3,hD3,Nat.le_trans hC.b E3.size,hC.r.ext E3⟩
  have fin:=hL _ _ _ hC3 E3;cases pend with
  |none=>exact fin
  |some ex=>
   cases ex with
   |norm=>exact wpIn_skip fin
   |ret=>exact wpIn_ret fin
   |exit id=>exact wpIn_exit fin
   |goto t=>exact wpIn_goto fin
  rw[hst]at e';cases e';cases e';cases e';cases e'
def jR(P:Program)(vars:List Nat):List ResultVar→List RV→Bool
 |[],[]=>true
 |.tmp t::rs,.t s::qs=>Nat.beq t s&&vars.contains t&&jR P vars rs qs
 |.cell a t::rs,.c s n ia::qs=>Nat.beq a s&&vars.contains a&&cY P t n&&mT P t ia&&jR P vars rs qs
 |_,_=>false
def Ioa(P:Program)(G:Nat)(vars:List Nat)(n:Nat)(b:IC)(c:Code):Bool:=
 match b with
 |.wd b=>dJ P ⟨G,vars,n,true⟩ b c
 |b=>dJ P ⟨G,vars,n,false⟩ b c
def AD(P:Program)(G:Nat)(f:Nat)(fn:IFn):Bool:=
 match P.funcs[f]? with
 |some fd=>(match fd.body with
  |some c=>Ioa P G fn.vars fd.ntmps fn.body c&& !fn.vars.contains DSL&&Nat.blt f YB&&(List.range fn.nargs).all (fun i=>fn.vars.contains i)&&Nat.ble fn.nargs fd.ntmps&&jR P fn.vars fd.results.toList fn.results&& !(fd.name== "runtime.NumGoroutine")
  |none=>false)
 |none=>false
def A1(P:Program)(G:Nat)(F:T IFn):Prop:=∀f fn,F.get f=some fn→AD P G f fn=true
theorem dT(v:V)(vs:List V)(i:Nat)(en:T V):fF (v::vs) i en=fF vs (i+1) (en.set i v):=rfl
theorem nP:∀(vs:List V)(i:Nat)(en:T V)(s:Nat),(fF vs i en).get s=if i≤s∧s<i+vs.length then vs[s-i]? else en.get s
 |[],i,en,s=>by rw[if_neg iS];rfl
 |v::vs,i,en,s=>by rw[dT,nP vs (i+1),T.get_set];simp only[List.length_cons];by_cases c:s=i;grind;grind
section
variable {P : Program} {C : Cx} {m : M} {h : Heap} {w : World} {env : T V} {a : Act}
def sr(tmps:Array Value):ResultVar→Sem Value
 |.tmp t=>pure (tmps.getD t undef)
 |.cell a t=>do loadVar t (←asAddr (tmps.getD a undef))
theorem gQ(H:HRel m h w)(hE:ERel C m env a):∀(rs:List ResultVar)(qs:List RV)(vs:List V),jR P C.vars rs qs=true→ef env h qs=some vs→
 ∃xs,(rs.mapM (sr a.tmps)).run P w=.ok xs w∧VsRel m vs xs
 |[],[],vs,_,e=>by cases e;exact⟨[],rfl,rfl⟩
 |[],_::_,_,hc,_=>by simp[jR]at hc
 |r::rs,[],_,hc,_=>by cases r<;>simp[jR]at hc
 |.tmp t::rs,.c _ _ _::qs,_,hc,_=>by simp[jR]at hc
 |.cell _ _::rs,.t _::qs,_,hc,_=>by simp[jR]at hc
 |.tmp t::rs,.t s::qs,vs,hc,e=>by
  simp only[jR,Bool.and_eq_true]at hc;have:=Nat.eq_of_beq_eq_true hc.1.1;subst this;simp only[ef,evR]at e;cases h1:env.get t with
  |none=>rw[h1]at e;cases e
  |some v=>
   rw[h1]at e;simp only[]at e;cases h2:ef env h qs with
   |none=>rw[h2]at e;cases e
   |some us=>rw[h2]at e;cases e;obtain⟨xs,hx,rx⟩:=gQ H hE rs qs us hc.2 h2;refine⟨a.tmps.getD t undef::xs,?_,⟨_,_,rfl,hE.var hc.1.2 h1,rx⟩⟩;simp only[List.mapM_cons,Sem.run_bind,sr,Sem.run_pure,Result.andThen_ok,hx]
 |.cell ad t::rs,.c s n ia::qs,vs,hc,e=>by
  simp only[jR,Bool.and_eq_true]at hc;obtain⟨⟨⟨⟨h0,hva⟩,hsz⟩,hag⟩,hc⟩:=hc;have:=Nat.eq_of_beq_eq_true h0;subst this;simp only[ef,evR]at e;cases h1:env.get ad with
  |none=>rw[h1]at e;cases e
  |some p=>
   rw[h1]at e;simp only[]at e;cases h3:iw h n ia p with
   |none=>rw[h3]at e;cases e
   |some v=>
    rw[h3]at e;simp only[]at e;cases h2:ef env h qs with
    |none=>rw[h2]at e;cases e
    |some us=>
     rw[h2]at e;cases e;obtain⟨xs,hx,rx⟩:=gQ H hE rs qs us hc h2;have hp:=hE.var hva h1;unfold iw at h3;split at h3;rename_i b k;let⟨loc,hm,hpe⟩:=hp;cases ia;simp only[cond_false]at h3;let⟨x,hx1,rx1⟩:=H.load1 hm h3;refine⟨x::xs,?_,⟨_,_,rfl,rx1,rx⟩⟩;simp only[List.mapM_cons,Sem.run_bind,sr,hpe,asAddr,loadVar,gJ hag,Sem.run_pure,Result.andThen_ok,Bool.false_eq_true,if_false,run_load,hx1,hx];simp only[cond_true]at h3;cases h4:ak h b k n with
     |none=>rw[h4]at h3;cases h3
     |some ws=>rw[h4]at h3;cases h3;let⟨ys,hy,ry,_⟩:=H.load P hm h4;refine⟨.agg (List.toArray ys)::xs,?_,⟨_,_,rfl,⟨_,rfl,ry⟩,rx⟩⟩;simp only[List.mapM_cons,Sem.run_bind,sr,hpe,asAddr,loadVar,gJ hag,bQ hsz,Sem.run_pure,Result.andThen_ok,if_true,hy,hx]
     cases h3
theorem we{fd:Func}{tmps:Array Value}{xs:List Value}(hx:(fd.results.toList.mapM (sr tmps)).run P w=.ok xs w):
 (results fd tmps).run P w=.ok (if h:xs.length=1 then xs[0]else .tuple (List.toArray xs)) w:=by
 have e:results fd tmps=(do let vs ←fd.results.mapM (sr tmps);pure (if h:vs.size=1 then vs[0]else .tuple vs)):=by unfold results;congr 1
 rw[e];simp only[Sem.run_bind,Array.mapM_eq_mapM_toList,Sem.run_map,hx,Result.andThen_ok,Sem.run_pure];congr 1
end
section
variable {P : Program} {F : Fence} {n : Nat}
theorem jI{fn:Func}{tmps:Array Value}{R:Ending→World→Prop}:∀(ds:List Deferred)(u:FrameMode)(w:World)(fr:Frame)
 (cs:List Frame),fr.mode=u→fr.defers=ds→fr.tmps=tmps→P.funcs[fr.fn]? =some fn→F.fn fr.fn→F.room (cs.length+1+n)→LeavesInM F n P fn tmps R ds u w→
 ∃e w' fr',R e w'∧ComesIn (Machine.fenced P F) P (lone fr cs w) (lone fr' cs w') e∧fr'.fn=fr.fn∧fr'.kind=fr.kind∧fr'.going P w' e:=by
 intro ds;induction ds with
 |nil=>
  intro u w fr cs hu hd ht hf hb hroom h;cases u with
  |run=>exact h.elim
  |returning=>let⟨v,hr,hR⟩:=h;exact⟨.returned v,w,fr,hR,StepsIn.refl _,rfl,rfl,hu,hd,fn,hf,ht▸hr⟩
  |panicking chain=>exact⟨.panicked chain,w,fr,h,StepsIn.refl _,rfl,rfl,hu,hd,fn,hf⟩
 |cons d ds ih=>
  intro u w fr cs hu hd ht hf hb hroom h;let⟨hrun,h⟩:=h;obtain⟨r,w',htar,htake,hrest⟩|⟨hn,fv,cap,f,args,htar,hinv,hlead,hFf,hcall⟩:=h;have h1:=step_collected (cs:=cs) (hu▸hrun) hd htar htake;have i1:(lone fr cs w).fenced P F:=fenced_out hb hroom (hu▸hrun) hd (fun g hg=>by rw[htar]at hg;simp[Target.leads]at hg);let⟨e',w'',fr',hR',hs',hfn',hl'⟩:=ih u w' {fr with defers:=[]++ds} cs hu rfl ht hf hb hroom hrest;exact⟨e',w'',fr',hR',ComesIn.of_steps (.one i1 h1) hs',hfn',hl'⟩;have h1:=step_defer (cs:=cs) (hu▸hrun) hd htar hinv;have i1:(lone fr cs w).fenced P F:=fenced_out hb hroom (hu▸hrun) hd hlead;have hroom':F.room (({fr with defers:=ds}::cs).length+1+(n-1)):=Fence.room_enter hroom hn;let⟨e,u',w',frX,hR,hsteps,hkX,hfX,hgo⟩:=hcall {fr with defers:=ds} cs hu hroom';cases e with
  |outgrown=>exact⟨.outgrown,w',fr,hR,Outgrown.of_steps (.one h1) hsteps,rfl,rfl,trivial⟩
  |returned v=>have i2:(lone frX ({{fr with defers:=ds}with mode:=u'}::cs) w').fenced P F:=fenced_going (n:=n-1) (hfX▸hFf) hroom' hgo;have h2:=step_going_returned (c:={{fr with defers:=ds}with mode:=u'}) (cs:=cs) hkX hgo;let⟨e',w'',fr',hR',hs',hfn',hl'⟩:=ih (settle u') w' {{{fr with defers:=ds}with mode:=u'}with mode:=settle u'} cs rfl rfl ht hf hb hroom hR;exact⟨e',w'',fr',hR',ComesIn.of_steps (.head i1 h1 (StepsIn.trans hsteps (.one i2 h2))) hs',hfn',hl'⟩
  |panicked chain=>have i2:(lone frX ({{fr with defers:=ds}with mode:=u'}::cs) w').fenced P F:=fenced_going (n:=n-1) (hfX▸hFf) hroom' hgo;have h2:=step_going_panicked (c:={{fr with defers:=ds}with mode:=u'}) (cs:=cs) hgo;let⟨e',w'',fr',hR',hs',hfn',hl'⟩:=ih (raised u' chain) w' {{{fr with defers:=ds}with mode:=u'}with mode:=raised u' chain} cs rfl rfl ht hf hb hroom hR;exact⟨e',w'',fr',hR',ComesIn.of_steps (.head i1 h1 (StepsIn.trans hsteps (.one i2 h2))) hs',hfn',hl'⟩
theorem jS{f:FuncId}{fn:Func}{c:Code}{args:Array Value}{u:FrameMode}{w:World}{R:Ending→World→Prop}
 (hf:P.funcs[f]? =some fn) (hb:fn.body=some c) (hF:F.fn f)
 (h:c.wpIn F n P (bodyPostM F n P fn R) {tmps:=args++Array.replicate (fn.ntmps-args.size) undef,defers:=[]} w) (hro:F.round=none:=by rfl):
 CallsDIn F n P f args u w fun e u' w'=>u'=u∧R e w':=by
 refine⟨hF,fun c₀ cs hu hr=>?_⟩;let b:Frame:={(default:Frame)with fn:=f,kind:=.deferred,roundOf:=none};have henter:Frame.enter P f args .deferred=
  b.atR {tmps:=args++Array.replicate (fn.ntmps-args.size) undef,defers:=[]} [.code c]:=by
  simp[Frame.enter,Frame.atR,hf,hb,b]
 have hc:({c₀ with mode:=u}:Frame)=c₀:=by subst hu;rfl
 let⟨e,a',w',hq,harr⟩:=h b [] (c₀::cs) hro.symm hF hr;rw[←henter]at harr;cases e with
 |normal=>let⟨e',w'',fr',hR,hs,hfn,hk,hl⟩:=jI a'.defers .returning w' {b.atR a' []with mode:=.returning} (c₀::cs) rfl rfl rfl hf hF hr hq;exact⟨e',u,w'',fr',⟨rfl,hR⟩,(by rw[hc];exact ComesIn.of_steps (StepsIn.trans harr (.one (fenced_calm (fr:=b.atR a' []) hF hr rfl) (stepR_end rfl))) hs),hk,hfn,hl⟩
 |ret=>let⟨todo,hs₀⟩:=harr.1 rfl;let⟨e',w'',fr',hR,hs,hfn,hk,hl⟩:=jI a'.defers .returning w' {b.atR a' todo with mode:=.returning} (c₀::cs) rfl rfl rfl hf hF hr hq;exact⟨e',u,w'',fr',⟨rfl,hR⟩,(by rw[hc];exact ComesIn.of_steps hs₀ hs),hk,hfn,hl⟩
 |panic chain=>let⟨todo,hs₀⟩:=harr;let⟨e',w'',fr',hR,hs,hfn,hk,hl⟩:=jI a'.defers (.panicking chain) w' {b.atR a' todo with mode:=.panicking chain} (c₀::cs) rfl rfl rfl hf hF hr hq;exact⟨e',u,w'',fr',⟨rfl,hR⟩,(by rw[hc];exact ComesIn.of_steps hs₀ hs),hk,hfn,hl⟩
 |exit id=>exact hq.elim
 |goto l=>exact hq.elim
 |outgrown=>exact⟨.outgrown,u,w',b,⟨rfl,hq⟩,harr.resolve_left iX,rfl,rfl,trivial⟩
end
section
variable {P : Program} {fd : Func} {tmps : Array Value} {R : Ending → World → Prop} {B : Nat} {m0 : M} {h0 : Heap} {w0 : World} {m : M} {h : Heap}
theorem iP(hB:w0.heap.size≤B){rest:List Deferred}:∀(ds:List Deferred)(w:World),Marks B m w (ds++rest)→HRel m h w→Ext m0 h0 w0 m h w→
 (∀w',HRel m h w'→Ext m0 h0 w0 m h w'→Marks B m w' rest→LeavesInM Fence.wide 0 P fd tmps R rest .returning w')→LeavesInM Fence.wide 0 P fd tmps R (ds++rest) .returning w
 |[],w,hM,H,E,hr=>hr w H E hM
 |d::ds,w,⟨⟨r,h1,h2,h3,h4,h5⟩,t⟩,H,E,hr=>⟨iS,.inl ⟨r,_,by rw[h1],run_takeDeferred h3,iP hB ds _ (t.put h5) (H.putOff h4 _) (E.putOff oM _) hr⟩⟩
theorem kO(hB:w0.heap.size≤B){d:Deferred}{d2:List Deferred}:∀(ds:List Deferred)(w:World),Marks B m w (ds++d2)→HRel m h w→Ext m0 h0 w0 m h w→
 (∀w',HRel m h w'→Ext m0 h0 w0 m h w'→Marks B m w' d2→LeavesInM Fence.wide 0 P fd tmps R (d::d2) .returning w')→LeavesInM Fence.wide 0 P fd tmps R (ds++d::d2) .returning w
 |[],w,hM,H,E,hr=>hr w H E hM
 |x::ds,w,⟨⟨r,h1,h2,h3,h4,h5⟩,t⟩,H,E,hr=>⟨iS,.inl ⟨r,_,by rw[h1],run_takeDeferred h3,kO hB ds _ (Marks.put h5 t) (H.putOff h4 _) (E.putOff oM _) hr⟩⟩
end
theorem tG{C:Cx}{m:M}(hV:C.vars.contains DSL=false):∀(ps:List Nat)(vs:List V)(env:T V)(tm:Array Value)(xs:List Value),VsRel m vs xs→vs.length=ps.length→tm.size=C.N→(∀p∈ps,C.vars.contains p=true∧p<C.N)→
 (∀s v,env.get s=some v→s=DSL∨(C.vars.contains s=true∧VRel m v (tm.getD s undef)))→
 ERel C m (xv ps vs env) {tmps:=(ps.zip xs).foldl (fun t (p:Nat×Value)=>t.setIfInBounds p.1 p.2) tm,defers:=[]}
 |[],[],env,tm,xs,_,_,hs,_,he=>⟨hs,he,hV⟩
 |[],_::_,_,_,_,_,hl,_,_,_=>by simp at hl
 |_::_,[],_,_,_,_,hl,_,_,_=>by simp at hl
 |p::ps,v::vs,env,tm,_,⟨x,xs,rfl,rx,rxs⟩,hl,hs,hp,he=>by have hpp:=hp p iS;simp only[xv,List.zip_cons_cons,List.foldl_cons];refine tG hV ps vs (env.set p v) (tm.setIfInBounds p x) xs rxs (eV hl) (eV hs) (fun q hq=>hp q iX) (fun s u hu=>?_);rw[T.get_set]at hu;by_cases c:s=p;rw[if_pos c]at hu;cases hu;subst c;refine .inr ⟨hpp.1,?_⟩;rw[Array.getD_eq_getD_getElem?,Array.getElem?_setIfInBounds_self_of_lt oM];exact rx;rw[if_neg c]at hu;refine(he s u hu).imp id fun q=>⟨q.1,?_⟩;rw[Array.getD_eq_getD_getElem?,Array.getElem?_setIfInBounds_ne (Ne.symm c),←Array.getD_eq_getD_getElem?];exact q.2
theorem wB{P:Program}{l:Nat}{R:Ending→World→Prop}{ex:Ex}{a:Act}{w:World}
 (h:∀jump,(jump=match ex with|.norm=>none|ex=>some (gV ex))→∃v w',(Instr.endRound l jump).run P w=.ok v w'∧R (.returned v) w'):roundPost P l R (iQ ex) a w:=by
 cases ex<;>exact h _ rfl
theorem wa{P:Program}{G:Nat}{call:aC}(hcall:dN P (LOK P G) G call){b:Nat}{vs:List V}{h h':Heap}{v:V}(e:evY (evC call) b vs h=some (v,h')):
 ∀m w (args:List Value) loc,m b=some loc→VsRel m vs args→HRel m h w→Glob (LOK P G) G m→
 ∃r:Loop,w.heap[loc.block]? =some (.loop r)∧args.length=r.params.size∧
  RoundIn Fence.wide 0 P loc.block r.fn ((r.params.zip (List.toArray args)).foldl (fun tmps (t,a)=>tmps.setIfInBounds t a) r.tmps) r.assign r.body w (kJ m h w v h'):=by
 intro m w args loc hm hv H hG;unfold evY at e;split at e;rename_i ps as bd env hb;cases hl:Nat.beq vs.length ps.length;grind;rw[hl]at e;simp only[cond_true]at e;have hlen:=Nat.eq_of_beq_eq_true hl;let⟨g,hg,g1,g2,g3,hr,henv⟩:=H.loop hm hb;subst g1;subst g2;subst g3;let⟨k1,k2,k3,k4,k5,k6⟩:=hG.2 b loc g hm hg;have hpsz:g.r.params.size=g.ps.length:=by rw[←k3];simp
 refine⟨_,hr,by rw[hv.length,hlen];exact hpsz.symm,?_⟩;split at e;rename_i env1 h1 hev1;split at e;rename_i ps1 as1 bd1 en1 p1 hb1;split at e;rename_i ex env2 h2 hev2;split at e;rename_i ps2 as2 bd2 en2 st2 pe2 hb2;have hzip:((g.r.params.zip (List.toArray args)).foldl (fun tmps (t,a)=>tmps.setIfInBounds t a) g.r.tmps)=(g.ps.zip args).foldl (fun t (p:Nat×Value)=>t.setIfInBounds p.1 p.2) g.r.tmps:=by rw[←Array.foldl_toList,Array.toList_zip,k3]
 have hE:=tG (C:=⟨G,g.vars,g.N,false⟩) k6 g.ps vs env g.r.tmps args hv hlen k4 k5 henv;apply roundIn_of_wpIn (F:=Fence.wide) trivial;have hC0:Cir (LOK P G) ⟨G,g.vars,g.N,false⟩ (some loc.block) 0 m h w (xv g.ps vs env) {tmps:=(g.ps.zip args).foldl (fun t (p:Nat×Value)=>t.setIfInBounds p.1 p.2) g.r.tmps,defers:=[]}:=
  ⟨hG,hE,H,trivial,Nat.zero_le _,fun l hl=>by cases hl;exact⟨_,hr⟩⟩
 rw[hzip];refine iU (C:=⟨G,g.vars,g.N,false⟩) (ro:=some loc.block) (B:=0) hcall (fun _ x=>x) (fun q=>by cases q) g.as g.r.assign k1 _ _ h m _ w .norm env1 h1 hC0 hev1 (fun a1 w1 m1 hC1 E1=>?_);have hm1:=E1.le _ _ hm;let⟨g',hg',_,_,_,hr1,_⟩:=hC1.h.loop hm1 hb1;rw[hg]at hg';cases hg';let⟨H1',E1'⟩:=hC1.h.setL hm1 hb1 hg 1 p1;refine⟨_,run_beginRound hr1 rfl,?_⟩;have hC1':Cir (LOK P G) ⟨G,g.vars,g.N,false⟩ (some loc.block) 0 m1 (hset h1 b (.lp ps1 as1 bd1 en1 1 p1)) (w1.putObj loc.block (.loop {g.r with state:=lst 1,pending:=p1.map gV})) env1 a1:=
  ⟨hC1.g,hC1.e,H1',hC1.d.ext E1',Nat.zero_le _,hC1.r.ext E1'⟩
 refine iU (C:=⟨G,g.vars,g.N,false⟩) (ro:=some loc.block) (B:=0) hcall (fun _ x=>x) (fun q=>by cases q) g.bd g.r.body k2 _ _ _ m1 a1 _ ex env2 h2 hC1' hev2 (fun a2 w2 m2 hC2 E2=>?_);have hm2:=E2.le _ _ hm1;let⟨g',hg',_,_,_,hr2,_⟩:=hC2.h.loop hm2 hb2;rw[hg]at hg';cases hg';refine wB fun jump hj=>?_;have hend:=run_endRound (P:=P) jump hr2;refine⟨_,_,hend,?_⟩;cases ex with
 |norm=>simp only[Option.some.injEq,Prod.mk.injEq]at e;obtain⟨rfl,rfl⟩:=e;let⟨H3,E3⟩:=hC2.h.setL hm2 hb2 hg 0 none;subst hj;exact⟨_,m2,rfl,rfl,H3,(E1.trans E1').trans (E2.trans E3)⟩
 |ret=>simp only[Option.some.injEq,Prod.mk.injEq]at e;obtain⟨rfl,rfl⟩:=e;let⟨H3,E3⟩:=hC2.h.setL hm2 hb2 hg 2 (some .ret);subst hj;exact⟨_,m2,rfl,rfl,H3,(E1.trans E1').trans (E2.trans E3)⟩
 |exit id=>simp only[Option.some.injEq,Prod.mk.injEq]at e;obtain⟨rfl,rfl⟩:=e;let⟨H3,E3⟩:=hC2.h.setL hm2 hb2 hg 2 (some (.exit id));subst hj;exact⟨_,m2,rfl,rfl,H3,(E1.trans E1').trans (E2.trans E3)⟩
 |goto t=>simp only[Option.some.injEq,Prod.mk.injEq]at e;obtain⟨rfl,rfl⟩:=e;let⟨H3,E3⟩:=hC2.h.setL hm2 hb2 hg 2 (some (.goto t));subst hj;exact⟨_,m2,rfl,rfl,H3,(E1.trans E1').trans (E2.trans E3)⟩
 cases e;cases e;cases e;cases e;cases e
theorem ERel.mono{C:Cx}{m m':M}(l:Le m m'){env:T V}{a:Act}(hE:ERel C m env a):ERel C m' env a:=
 ⟨hE.1,fun s v hs=>(hE.2.1 s v hs).imp id fun q=>⟨q.1,VRel.mono l _ _ q.2⟩,hE.2.2⟩
theorem tr{P:Program}{G:Nat}{call:aC}(hcall:dN P (LOK P G) G call){C:Cx}(hCG:C.G=G){fd:Func}{rvs:List RV}(hrs:jR P C.vars fd.results.toList rvs=true){m m':M}{h h0 h1 h':Heap}{w w':World}{env:T V}{a:Act}{v:V}{ex:Ex}
 (hC:Cir (LOK P G) C none w.heap.size m' h0 w' env a) (E:Ext m h w m' h0 w') (hend:(C.df=true→gh call ex env h0=.ok ex env h1)∧(C.df=false→h1=h0))
 (hres:(match ef env h1 rvs with
  |some [v]=>fV v fun v=>some (v,h1)
  |some vs=>some (.tup vs,h1)
  |none=>none)=some (v,h')):LeavesInM Fence.wide 0 P fd a.tmps (kJ m h w v h') a.defers .returning w':=by
 have fin:∀mf wf,HRel mf h1 wf→Ext m h w mf h1 wf→ERel C mf env a→LeavesInM Fence.wide 0 P fd a.tmps (kJ m h w v h') [] .returning wf:=by
  intro mf wf Hf Ef hEf;cases hr:ef env h1 rvs with
  |none=>rw[hr]at hres;cases hres
  |some us=>
   rw[hr]at hres;let⟨xs,hx,rx⟩:=gQ (P:=P) Hf hEf _ _ _ hrs hr;refine⟨_,we hx,_,mf,rfl,?_⟩;have hxl:=rx.length;match us,hres,rx,hxl with
   |[],hres,rx,hxl=>simp only[Option.some.injEq,Prod.mk.injEq]at hres;obtain⟨rfl,rfl⟩:=hres;rw[dif_neg (by simp at hxl;simp[hxl])];exact⟨⟨xs,rfl,rx⟩,Hf,Ef⟩
   |[u],hres,rx,hxl=>simp only[wQ,Option.some.injEq,Prod.mk.injEq]at hres;obtain⟨rfl,rfl⟩:=hres;rw[dif_pos (eV hxl)];obtain⟨x,rfl,r1⟩:=bH rx;exact⟨r1,Hf,Ef⟩
   |u1::u2::us,hres,rx,hxl=>simp only[Option.some.injEq,Prod.mk.injEq]at hres;obtain⟨rfl,rfl⟩:=hres;rw[dif_neg (by simp at hxl;omega)];exact⟨⟨xs,rfl,rx⟩,Hf,Ef⟩
 have hD:=hC.d;have noC:Marks w.heap.size m' w' a.defers→h1=h0→LeavesInM Fence.wide 0 P fd a.tmps (kJ m h w v h') a.defers .returning w':=by rintro hM rfl;have:=iP (P:=P) (fd:=fd) (tmps:=a.tmps) (R:=kJ m h w v h') (B:=w.heap.size) (m0:=m) (h0:=h) (w0:=w) (m:=m') (h:=h1) (Nat.le_refl _) (rest:=[]) a.defers w' (eV hM) hC.h E (fun w'' H'' E'' _=>fin m' w'' H'' E'' hC.e);simpa using this
 unfold DsR at hD;split at hD;rename_i dv hdf hdv;obtain⟨d1,d,d2,hds,⟨f,first,caps,args,A,C',rfl,hfy,hd,ra,rc⟩,hM⟩:=hD;have he:=hend.1 hdf;unfold gh at he;rw[hdv]at he;simp only[]at he;split at he;rename_i u h2 hcl;simp only[Out.ok.injEq,true_and]at he;subst he;rw[hds];refine kO (m0:=m) (h0:=h) (w0:=w) (m:=m') (h:=h0) (Nat.le_refl _) d1 w' hM hC.h E (fun w1 H1 E1 hM1=>?_);let⟨hf,hcc⟩:=(hcall f _ _ u h2 hcl).1 hfy;have hargs:VsRel m' (first++args++caps) (A++C'):=VsRel.append ra rc;have hcd:=(hcc m' w1 _ hargs H1 (hCG▸hC.g)).2 .returning;refine⟨iS,.inr ⟨fun q=>absurd q (by simp[Fence.wide]),.func f,List.toArray C',f,List.toArray (A++C'),by rw[hd],?_,fun _ _=>trivial,?_⟩⟩;rw[hd];simp only[invoke];rw[(iS:(List.toArray A++List.toArray C')=List.toArray (A++C'))];exact fH hf;apply CallsDIn.mono hcd;rintro en u' w2 ⟨rfl,x,m2,rfl,rx,H2,E2⟩;have hM2:=hM1.ext E2;have:=iP (P:=P) (fd:=fd) (tmps:=a.tmps) (R:=kJ m h w v h') (B:=w.heap.size) (m0:=m) (h0:=h) (w0:=w) (m:=m2) (h:=h2) (Nat.le_refl _) (rest:=[]) d2 w2 (eV hM2) H2 (E1.trans E2) (fun w3 H3 E3 _=>fin m2 w3 H3 E3 (hC.e.mono E2.le));simpa[settle]using this;cases he;rename_i hn;apply noC hD;cases hdf:C.df;exact hend.2 hdf;have hnone:env.get DSL=none:=by
  cases q:env.get DSL with
  |none=>rfl
  |some v=>exact absurd q (hn v hdf)
 have he:=hend.1 hdf;unfold gh at he;rw[hnone]at he;simp only[Out.ok.injEq,true_and]at he;exact he.symm
theorem tp{P:Program}{G:Nat}{F:T IFn}{ov:aC}(hov:dN P (LOK P G) G ov)(hF:A1 P G F):∀n,dN P (LOK P G) G (evF ov F n):=by
 intro n;induction n with
 |zero=>intro f vs h v h' e;cases e
 |succ n ih=>
  intro f vs h v h' e;have e':(match F.get f with
   |some fn=>bif Nat.beq vs.length fn.nargs then
    (match evC (evF ov F n) fn.body (fF vs 0 .e) h with
     |.ok .norm env h=>(match ef env h fn.results with
      |some [v]=>fV v fun v=>some (v,h)
      |some vs=>some (.tup vs,h)
      |none=>none)
     |.ok .ret env h=>(match ef env h fn.results with
      |some [v]=>fV v fun v=>some (v,h)
      |some vs=>some (.tup vs,h)
      |none=>none)
     |_=>none)
    else none
   |none=>bif Nat.ble YB f then evY (evC (evF ov F n)) (f-YB) vs h else ov f vs h)=some (v,h'):=e
  cases hg:F.get f with
  |none=>rw[hg]at e';simp only[]at e';cases hy:Nat.ble YB f;rw[hy]at e';simp only[cond_false]at e';refine⟨(hov f vs h v h' e').1,fun q=>?_⟩;have:=Nat.ble_eq_true_of_le q;rw[hy]at this;cases this;rw[hy]at e';simp only[cond_true]at e';have hle:=Nat.le_of_ble_eq_true hy;exact⟨fun q=>absurd q oM,fun _=>wa ih e'⟩
  |some fn=>
   rw[hg]at e';simp only[]at e';cases hl:Nat.beq vs.length fn.nargs;grind;rw[hl]at e';simp only[cond_true]at e';have hlen:=Nat.eq_of_beq_eq_true hl;have hc:=hF f fn hg;unfold AD at hc;split at hc;rename_i fd hfd;split at hc;rename_i c hbody;simp only[Bool.and_eq_true,Bool.not_eq_true',Nat.blt_eq]at hc;let⟨⟨⟨⟨⟨⟨hcc,hvd⟩,hfy⟩,hargs⟩,hnt⟩,hrs⟩,hname⟩:=hc;have hnt:=Nat.le_of_ble_eq_true hnt;refine⟨fun _=>⟨⟨fd,hfd,by rw[hbody];rfl,hname⟩,fun m w args hv H hG=>?_⟩,fun q=>absurd q oM⟩;have hal:=hv.length;have hwp:c.wpIn Fence.wide 0 P (bodyPostM Fence.wide 0 P fd (kJ m h w v h')) {tmps:=List.toArray args++Array.replicate (fd.ntmps-(List.toArray args).size) undef,defers:=[]} w:=by
    have hE:∀df,ERel ⟨G,fn.vars,fd.ntmps,df⟩ m (fF vs 0 .e) {tmps:=List.toArray args++Array.replicate (fd.ntmps-(List.toArray args).size) undef,defers:=[]}:=by
     intro df;refine⟨by simp;omega,fun s u hs=>?_,hvd⟩;rw[nP]at hs;split at hs;rename_i hr;simp only[Nat.sub_zero,Nat.zero_add]at hs hr;let⟨x,hx,rx⟩:=hv.get s u hs;refine .inr ⟨List.all_eq_true.1 hargs s oO,?_⟩;have:(List.toArray args++Array.replicate (fd.ntmps-(List.toArray args).size) undef).getD s undef=x:=by rw[Array.getD_eq_getD_getElem?,Array.getElem?_append_left oO];simp[hx]
     rw[this];exact rx;cases hs
    have hDF:(fF vs 0 .e).get DSL=none:=by
     cases q:(fF vs 0 .e).get DSL with
     |none=>rfl
     |some u=>rw[nP]at q;split at q;grind;cases q
    have hC:∀df,Cir (LOK P G) ⟨G,fn.vars,fd.ntmps,df⟩ none w.heap.size m h w (fF vs 0 .e) {tmps:=List.toArray args++Array.replicate (fd.ntmps-(List.toArray args).size) undef,defers:=[]}:=
     fun df=>⟨hG,hE df,H,by unfold DsR;rw[hDF];cases df<;>exact trivial,Nat.le_refl _,fun l hl=>by cases hl⟩
    have fin:∀ex env1 h1,(ex=.norm∨ex=.ret)→evC (evF ov F n) fn.body (fF vs 0 .e) h=.ok ex env1 h1→
     (match ef env1 h1 fn.results with
      |some [v]=>fV v fun v=>some (v,h1)
      |some vs=>some (.tup vs,h1)
      |none=>none)=some (v,h')→
     c.wpIn Fence.wide 0 P (bodyPostM Fence.wide 0 P fd (kJ m h w v h')) {tmps:=List.toArray args++Array.replicate (fd.ntmps-(List.toArray args).size) undef,defers:=[]} w:=by
     intro ex env1 h1 hex hev hres;unfold Ioa at hcc;split at hcc;rename_i b hb;rw[hb]at hev;have hev':(match evC (evF ov F n) b (fF vs 0 .e) h with
      |.ok .norm env h=>gh (evF ov F n) .norm env h
      |.ok .ret env h=>gh (evF ov F n) .ret env h
      |_=>.fail)=Out.ok ex env1 h1:=hev
     have hh:∃h0,evC (evF ov F n) b (fF vs 0 .e) h=.ok ex env1 h0∧gh (evF ov F n) ex env1 h0=.ok ex env1 h1:=by
      have key:∀ex0 env0 h0,gh (evF ov F n) ex0 env0 h0=.ok ex env1 h1→ex0=ex∧env0=env1:=by intro ex0 env0 h0 q;unfold gh at q;split at q;grind;grind;cases q
      split at hev';grind;grind;cases hev'
     let⟨h0,q1,q2⟩:=hh;refine iU (C:=⟨G,fn.vars,fd.ntmps,true⟩) (ro:=none) ih (fun _ x=>x) (fun _=>rfl) b c hcc _ _ h m _ w ex env1 h0 (hC true) q1 (fun a' w' m' hC' E'=>?_);have:=tr (C:=⟨G,fn.vars,fd.ntmps,true⟩) ih rfl hrs hC' E' ⟨fun _=>q2,fun q=>by cases q⟩ hres;obtain rfl|rfl:=hex;exact this;exact this;refine iU (C:=⟨G,fn.vars,fd.ntmps,false⟩) (ro:=none) ih (fun _ x=>x) (fun _=>rfl) fn.body c hcc _ _ h m _ w ex env1 h1 (hC false) hev (fun a' w' m' hC' E'=>?_);have:=tr (C:=⟨G,fn.vars,fd.ntmps,false⟩) (ex:=ex) ih rfl hrs hC' E' ⟨fun q=>(by cases q),fun _=>rfl⟩ hres;obtain rfl|rfl:=hex;exact this;exact this
    split at e';grind;grind;cases e'
   exact⟨callsIn_wide.1 (callsIn_of_wp_marks hfd hbody trivial hwp),fun u=>jS hfd hbody trivial hwp⟩;cases hc;cases hc
def Evt(c:Nat→aC)(f:Nat)(vs:List V)(h:Heap)(r:V×Heap):Prop:=∃n,∀m,n≤m→c m f vs h=some r
theorem Evt.uniq{c:Nat→aC}{f:Nat}{vs:List V}{h:Heap}{r s:V×Heap}(a:Evt c f vs h r)(b:Evt c f vs h s):r=s:=by let⟨n,hn⟩:=a;let⟨k,hk⟩:=b;have e:=hn (max n k) (Nat.le_max_left _ _);rw[hk (max n k) (Nat.le_max_right _ _)]at e;cases e;rfl
section
variable {c : Nat → aC} {L : aC}
def Lim(c:Nat→aC)(L:aC):Prop:=∀f vs h r,L f vs h=some r→Evt c f vs h r
theorem qy(hL:Lim c L){loc:List V}{env:T V}{h:Heap}{o:IOp}{r:V×Heap}(e:aK L loc env h o=some r):
 ∃n,∀m,n≤m→aK (c m) loc env h o=some r:=by
 cases o;case cf f xs=>
  simp only[aK]at e⊢;cases hx:dA loc env xs with
  |none=>rw[hx]at e;cases e
  |some vs=>rw[hx]at e;exact hL _ _ _ _ e
 case cv x xs=>
  simp only[aK]at e⊢;split at e;split at e;rename_i f first caps h1 _ vs h2
  cases hb:Nat.blt f YB;grind;rw[hb]at e;simp only[cond_true]at e⊢;exact hL _ _ _ _ e;cases e;split at e;exact hL _ _ _ _ e;cases e;cases e
 all_goals exact⟨0,fun m _=>e⟩
theorem wR(hL:Lim c L):∀(l:List IStep)(loc:List V)(env:T V)(h:Heap){e:Ex}{env':T V}{h':Heap},c7 L l loc env h=.ok e env' h'→
 ∃n,∀m,n≤m→c7 (c m) l loc env h=.ok e env' h':=by
 intro l;induction l with
 |nil=>intro loc env h e env' h' x;exact⟨0,fun m _=>x⟩
 |cons s l ih=>intro loc env h e env' h' x;rw[bX]at x;simp only[bX];split at x;rename_i hg;split at x;rename_i v h1 ho;let⟨n,hn⟩:=qy hL ho;let⟨k,hk⟩:=ih _ _ _ x;refine⟨max n k,fun m hm=>?_⟩;rw[hn m oM];exact hk m oM;cases x;exact ih _ _ _ x;cases x
theorem wI(a b:aC)(loc:List V)(env:T V)(h:Heap)(s:IStep):sV a loc env h s=sV b loc env h s:=by let⟨g,o,d⟩:=s;cases o<;>rfl
theorem BE(a b:aC)(env:T V)(late:List Nat):∀(l:List IStep)(i:Nat)(loc:List V)(h:Heap),lay a env late l i loc h=lay b env late l i loc h:=by
 intro l;induction l with
 |nil=>intro i loc h;rfl
 |cons s l ih=>intro i loc h;simp only[lay,wI a b,ih]
theorem gm(call:aC)(env:T V)(s:DS)(l:List DS)(loc:List V)(hs:List Heap)(h:Heap):gG call env (s::l) loc hs h=
      match s.2 with
      |some (u,c)=>bif bJ loc env s.1.op u c then gG call env l (u::loc) hs h else none
      |none=>
       match evG loc env s.1.gd with
       |some true=>match aK call loc env h s.1.op with
        |some (v,h')=>bif eff s.1.op then gG call env l (v::loc) (h'::hs) h' else gG call env l (v::loc) hs h
        |none=>none
       |some false=>bif eff s.1.op then gG call env l (.tup []::loc) (h::hs) h else gG call env l (.tup []::loc) hs h
       |none=>none:=by
 show(match s.2 with
  |some (u,c)=>bif bJ loc env s.1.op u c then gG call env l (u::loc) hs h else none
  |none=>
   match evG loc env s.1.gd with
   |some true=>match aK call loc env h s.1.op with
    |some (v,h')=>fV v fun v=>bif eff s.1.op then gG call env l (v::loc) (h'::hs) h' else gG call env l (v::loc) hs h
    |none=>none
   |some false=>bif eff s.1.op then gG call env l (.tup []::loc) (h::hs) h else gG call env l (.tup []::loc) hs h
   |none=>none)=_
 simp only[wQ]
theorem Em(hL:Lim c L)(env:T V):∀(l:List DS)(loc:List V)(hs:List Heap)(h:Heap){r:List V×List Heap},gG L env l loc hs h=some r→
 ∃n,∀m,n≤m→gG (c m) env l loc hs h=some r:=by
 intro l;induction l with
 |nil=>intro loc hs h r x;exact⟨0,fun m _=>x⟩
 |cons s l ih=>
  intro loc hs h r x;rw[gm]at x;simp only[gm];let⟨s1,s2⟩:=s;cases s2 with
  |some uc=>let⟨u,cs⟩:=uc;simp only[]at x⊢;cases hl:bJ loc env s1.op u cs;grind;rw[hl]at x;simp only[cond_true]at x⊢;exact ih _ _ _ x
  |none=>simp only[]at x⊢;split at x;rename_i hg;split at x;rename_i v h1 ho;let⟨n,hn⟩:=qy hL ho;cases he:eff s1.op;rw[he]at x;simp only[cond_false]at x;let⟨k,hk⟩:=ih _ _ _ x;refine⟨max n k,fun m hm=>?_⟩;rw[hn m oM];simp only[cond_false];exact hk m oM;rw[he]at x;simp only[cond_true]at x;let⟨k,hk⟩:=ih _ _ _ x;refine⟨max n k,fun m hm=>?_⟩;rw[hn m oM];simp only[cond_true];exact hk m oM;cases x;rename_i hg;cases he:eff s1.op;rw[he]at x;simp only[cond_false]at x⊢;exact ih _ _ _ x;rw[he]at x;simp only[cond_true]at x⊢;exact ih _ _ _ x;cases x
theorem Bp(hL:Lim c L)(loc:List V)(env:T V)(o:IOp)(v:V):∀(hs:List Heap),fC L loc env o v hs=true→
 ∃n,∀m,n≤m→fC (c m) loc env o v hs=true:=by
 intro hs;induction hs with
 |nil=>intro _;exact⟨0,fun _ _=>rfl⟩
 |cons h hs ih=>intro x;simp only[fC,Bool.and_eq_true]at x⊢;let⟨a,b⟩:=x;let⟨k,hk⟩:=ih b;split at a;rename_i u _ ho;let⟨n,hn⟩:=qy hL ho;refine⟨max n k,fun m hm=>⟨?_,hk m oM⟩⟩;rw[hn m oM];exact a;cases a
theorem C9(hL:Lim c L)(env:T V)(l:List IStep)(loc:List V)(hs:List Heap)(r:Nat×Nat×Nat)(x:k8 L env l loc hs r=true):
 ∃n,∀m,n≤m→k8 (c m) env l loc hs r=true:=by
 let⟨i,lo,hi⟩:=r;simp only[k8]at x⊢;split at x;rename_i s v loc' _ _;split at x;rename_i hg;let⟨n,hn⟩:=Bp hL _ _ _ _ _ x;exact⟨n,fun m hm=>hn m hm⟩;rename_i hg;exact⟨0,fun m _=>rfl⟩;cases x
theorem HT(hL:Lim c L)(env:T V)(l:List IStep)(loc:List V)(hs:List Heap):∀(rs:List (Nat×Nat×Nat)),rs.all (k8 L env l loc hs)=true→
 ∃n,∀m,n≤m→rs.all (k8 (c m) env l loc hs)=true:=by
 intro rs;induction rs with
 |nil=>intro _;exact⟨0,fun _ _=>rfl⟩
 |cons r rs ih=>intro x;simp only[List.all_cons,Bool.and_eq_true]at x⊢;let⟨n,hn⟩:=C9 hL _ _ _ _ _ x.1;let⟨k,hk⟩:=ih x.2;exact⟨max n k,fun m hm=>⟨hn m oM,hk m oM⟩⟩
theorem HF(hL:Lim c L){l:List IStep}{late:List Nat}{reads:List (Nat×Nat×Nat)}{sets:List (Nat×Nat)}{env:T V}{h:Heap}{e:Ex}{env':T V}{h':Heap}
 (x:evD L l late reads sets env h=.ok e env' h'):∃n,∀m,n≤m→evD (c m) l late reads sets env h=.ok e env' h':=by
 unfold evD at x⊢;simp only[BE _ L];split at x;cases x;rename_i dl h1 hl;split at x;rename_i loc hs hd;let⟨n,hn⟩:=Em hL _ _ _ _ _ hd;cases ha:reads.all (k8 L env l loc hs);grind;rw[ha]at x;let⟨k,hk⟩:=HT hL _ _ _ _ _ ha;refine⟨max n k,fun m hm=>?_⟩;rw[hn m oM];simp only[];rw[hk m oM];exact x;cases x
def If(b:T V→Heap→Out)(bs:Nat→T V→Heap→Out):Prop:=∀env h e env' h',b env h=.ok e env' h'→∃n,∀m,n≤m→bs m env h=.ok e env' h'
theorem uV{b:T V→Heap→Out}{bs:Nat→T V→Heap→Out}(hb:If b bs)(k:Nat):If (dbl b k) (fun m=>dbl (bs m) k):=by
 induction k with
 |zero=>exact hb
 |succ k ih=>
  intro env h e env' h' x;have eq:∀(f:T V→Heap→Out),dbl f (k+1) env h=match dbl f k env h with
   |.ok .norm env h=>dbl f k env h
   |r=>r:=fun _=>rfl
  rw[eq]at x;simp only[eq];split at x;rename_i env1 h1 h2;let⟨n,hn⟩:=ih _ _ _ _ _ h2;let⟨j,hj⟩:=ih _ _ _ _ _ x;refine⟨max n j,fun m hm=>?_⟩;have a:=hn m oM;have b:=hj m oM;simp only[]at a b;rw[a];exact b;rename_i h2;let⟨n,hn⟩:=ih _ _ _ _ _ x;refine⟨n,fun m hm=>?_⟩;have a:=hn m hm;simp only[]at a;rw[a];cases e with
  |norm=>exact absurd x (h2 env' h')
  |_=>rfl
theorem HG(hL:Lim c L):∀(k:IC),If (evC L k) (fun m=>evC (c m) k):=by
 intro k;induction k with
 |skip=>intro env h e env' h' x;exact⟨0,fun m _=>x⟩
 |ops l=>intro env h e env' h' x;exact wR hL l [] env h x
 |seq a b iha ihb=>
  intro env h e env' h' x;have eq:∀f:aC,evC f (.seq a b) env h=match evC f a env h with
   |.ok .norm env h=>evC f b env h
   |r=>r:=fun _=>rfl
  rw[eq]at x;simp only[eq];split at x;rename_i env1 h1 h2;let⟨n,hn⟩:=iha _ _ _ _ _ h2;let⟨j,hj⟩:=ihb _ _ _ _ _ x;refine⟨max n j,fun m hm=>?_⟩;have a:=hn m oM;have b:=hj m oM;simp only[]at a b;rw[a];exact b;rename_i h2;let⟨n,hn⟩:=iha _ _ _ _ _ x;refine⟨n,fun m hm=>?_⟩;have a:=hn m hm;simp only[]at a;rw[a];cases e with
  |norm=>exact absurd x (h2 env' h')
  |_=>rfl
 |cond o a b iha ihb=>
  intro env h e env' h' x;have eq:∀f:aC,evC f (.cond o a b) env h=match evO [] env o with
   |some (.bool t)=>bif t then evC f a env h else evC f b env h
   |_=>.fail:=fun _=>rfl
  rw[eq]at x;simp only[eq];split at x;rename_i t ht;cases t;exact ihb _ _ _ _ _ x;exact iha _ _ _ _ _ x;cases x
 |block id a iha=>
  intro env h e env' h' x;have eq:∀f:aC,evC f (.block id a) env h=match evC f a env h with
   |.ok (.exit i) env h=>bif Nat.beq i id then .ok .norm env h else .ok (.exit i) env h
   |r=>r:=fun _=>rfl
  rw[eq]at x;simp only[eq];split at x;rename_i i env1 h1 h2;let⟨n,hn⟩:=iha _ _ _ _ _ h2;refine⟨n,fun m hm=>?_⟩;have a:=hn m hm;simp only[]at a;rw[a];exact x;rename_i h2;let⟨n,hn⟩:=iha _ _ _ _ _ x;refine⟨n,fun m hm=>?_⟩;have a:=hn m hm;simp only[]at a;rw[a];cases e with
  |exit i=>exact absurd x (h2 i env' h')
  |_=>rfl
 |loop a iha=>
  intro env h e env' h' x;have eq:∀f:aC,evC f (.loop a) env h=match dbl (evC f a) 48 env h with
   |.ok .norm _ _=>.fail
   |r=>r:=fun _=>rfl
  rw[eq]at x;simp only[eq];split at x;cases x;rename_i h2;let⟨n,hn⟩:=uV iha 48 _ _ _ _ _ x;refine⟨n,fun m hm=>?_⟩;have a:=hn m hm;simp only[]at a;rw[a];cases e with
  |norm=>exact absurd x (h2 env' h')
  |_=>rfl
 |exit i=>intro env h e env' h' x;exact⟨0,fun m _=>x⟩
 |ret=>intro env h e env' h' x;exact⟨0,fun m _=>x⟩
 |scope a l r iha ihr=>
  intro env h e env' h' x;have eq:∀f:aC,evC f (.scope a l r) env h=match evC f a env h with
   |.ok (.goto i) env h=>bif Nat.beq i l then
    (match dbl (fun env h=>match evC f r env h with
     |.ok (.goto i) env h=>bif Nat.beq i l then .ok .norm env h else .ok (.goto i) env h
     |.ok .norm env h=>.ok (.goto l) env h
     |r=>r) 48 env h with
     |.ok .norm _ _=>.fail
     |.ok (.goto i) env h=>bif Nat.beq i l then .ok .norm env h else .fail
     |r=>r)
    else .fail
   |r=>r:=fun _=>rfl
  have hin:If (fun env h=>match evC L r env h with
            |.ok (.goto i) env h=>bif Nat.beq i l then .ok .norm env h else .ok (.goto i) env h
            |.ok .norm env h=>.ok (.goto l) env h
            |r=>r) (fun m env h=>match evC (c m) r env h with
            |.ok (.goto i) env h=>bif Nat.beq i l then .ok .norm env h else .ok (.goto i) env h
            |.ok .norm env h=>.ok (.goto l) env h
            |r=>r):=by
   intro env h e env' h' y;simp only[]at y⊢;split at y;rename_i i env1 h1 h2;let⟨n,hn⟩:=ihr _ _ _ _ _ h2;refine⟨n,fun m hm=>?_⟩;have a:=hn m hm;simp only[]at a;rw[a];exact y;rename_i env1 h1 h2;let⟨n,hn⟩:=ihr _ _ _ _ _ h2;refine⟨n,fun m hm=>?_⟩;have a:=hn m hm;simp only[]at a;rw[a];exact y;rename_i h2 h3;let⟨n,hn⟩:=ihr _ _ _ _ _ y;refine⟨n,fun m hm=>?_⟩;have a:=hn m hm;simp only[]at a;rw[a];cases e with
   |norm=>exact absurd y (h3 env' h')
   |goto i=>exact absurd y (h2 i env' h')
   |_=>rfl
  rw[eq]at x;simp only[eq];split at x;rename_i i env1 h1 h2;let⟨n,hn⟩:=iha _ _ _ _ _ h2;cases hb:Nat.beq i l;grind;rw[hb]at x;simp only[cond_true]at x;split at x;cases x;rename_i j env2 h3 h4;let⟨k,hk⟩:=uV hin 48 _ _ _ _ _ h4;refine⟨max n k,fun m hm=>?_⟩;have a:=hn m oM;have b:=hk m oM;simp only[]at a b;rw[a];simp only[hb,cond_true];rw[b];exact x;rename_i h3 h4;let⟨k,hk⟩:=uV hin 48 _ _ _ _ _ x;refine⟨max n k,fun m hm=>?_⟩;have a:=hn m oM;have b:=hk m oM;simp only[]at a b;rw[a];simp only[hb,cond_true];rw[b];cases e with
  |norm=>exact absurd x (h3 env' h')
  |goto i=>exact absurd x (h4 i env' h')
  |_=>rfl
  rename_i h2;let⟨n,hn⟩:=iha _ _ _ _ _ x;refine⟨n,fun m hm=>?_⟩;have a:=hn m hm;simp only[]at a;rw[a];cases e with
  |goto i=>exact absurd x (h2 i env' h')
  |_=>rfl
 |goto l=>intro env h e env' h' x;exact⟨0,fun m _=>x⟩
 |dops l late R reads sets=>intro env h e env' h' x;exact HF hL x
 |bad=>intro env h e env' h' x;cases x
 |rf g ps as bd iha ihb=>
  intro env h e env' h' x;have eq:∀f:aC,evC f (.rf g ps as bd) env h=match evO [] env g with
   |some (.func (.func f0) first caps)=>bif Nat.blt f0 YB then
    (match f f0 (first++[.yld h.next]++caps) (hnew h (.lp ps as bd env 0 none))with
     |some (_,h2)=>(match h2.bl.get h.next with
      |some (.lp _ _ _ _ st pend)=>bif Nat.beq st 1 then .fail else .ok (match pend with|some ex=>ex|none=>.norm) env (hset h2 h.next .dead)
      |_=>.fail)
     |none=>.fail)
    else .fail
   |_=>.fail:=fun _=>rfl
  rw[eq]at x;simp only[eq];split at x;rename_i f0 first caps hg
  cases hb:Nat.blt f0 YB;grind;rw[hb]at x;simp only[cond_true]at x⊢;split at x;rename_i u h2 hc;let⟨n,hn⟩:=hL _ _ _ _ hc;refine⟨n,fun m hm=>?_⟩;rw[hn m hm];exact x;cases x;cases x
 |wd a iha=>
  intro env h e env' h' x;have eq:∀f:aC,evC f (.wd a) env h=match evC f a env h with
   |.ok .norm env h=>gh f .norm env h
   |.ok .ret env h=>gh f .ret env h
   |_=>.fail:=fun _=>rfl
  rw[eq]at x;simp only[eq];have fin:∀ex env1 h1,gh L ex env1 h1=.ok e env' h'→∃n,∀m,n≤m→gh (c m) ex env1 h1=.ok e env' h':=by intro ex env1 h1 q;unfold gh at q⊢;split at q;exact⟨0,fun _ _=>q⟩;split at q;rename_i hc;let⟨n,hn⟩:=hL _ _ _ _ hc;refine⟨n,fun m hm=>?_⟩;rw[hn m hm];exact q;cases q;cases q
  split at x;rename_i env1 h1 h2;let⟨n,hn⟩:=iha _ _ _ _ _ h2;let⟨j,hj⟩:=fin _ _ _ x;refine⟨max n j,fun m hm=>?_⟩;have a:=hn m oM;simp only[]at a;rw[a];exact hj m oM;rename_i env1 h1 h2;let⟨n,hn⟩:=iha _ _ _ _ _ h2;let⟨j,hj⟩:=fin _ _ _ x;refine⟨max n j,fun m hm=>?_⟩;have a:=hn m oM;simp only[]at a;rw[a];exact hj m oM;cases x
end
open Classical in
noncomputable def ev(ov:aC)(F:T IFn):aC:=fun f vs h=>
 if x:∃r,Evt (evF ov F) f vs h r then some (Classical.choose x)else none
theorem Eh{ov:aC}{F:T IFn}:Lim (evF ov F) (ev ov F):=by intro f vs h r e;unfold ev at e;split at e;grind;cases e
theorem Ee{ov:aC}{F:T IFn}{f:Nat}{vs:List V}{h:Heap}{r:V×Heap}(e:Evt (evF ov F) f vs h r):ev ov F f vs h=some r:=by have x:∃r,Evt (evF ov F) f vs h r:=⟨r,e⟩;unfold ev;rw[dif_pos x];exact congrArg some ((Classical.choose_spec x).uniq e)
theorem Eg{P:Program}{G:Nat}{F:T IFn}{ov:aC}(hov:dN P (LOK P G) G ov)(hF:A1 P G F):dN P (LOK P G) G (ev ov F):=by intro f vs h v h' e;let⟨n,hn⟩:=Eh _ _ _ _ e;exact tp hov hF n f vs h v h' (hn n (Nat.le_refl n))
def qd:List V→V
 |[v]=>v
 |vs=>.tup vs
theorem HE{ov:aC}{F:T IFn}{f:Nat}{fn:IFn}{vs:List V}{h h':Heap}{e:Ex}{env:T V}{rs:List V}(hf:F.get f=some fn)(hn:Nat.beq vs.length fn.nargs=true)
 (hb:evC (ev ov F) fn.body (fF vs 0 .e) h=.ok e env h') (he:e=.norm∨e=.ret) (hr:ef env h' fn.results=some rs):ev ov F f vs h=some (qd rs,h'):=by
 apply Ee;let⟨n,hn'⟩:=HG Eh fn.body _ _ _ _ _ hb;refine⟨n+1,fun m hm=>?_⟩;obtain⟨k,rfl⟩:∃k,m=k+1:=⟨m-1,oM⟩;have eq:evF ov F (k+1) f vs h=match F.get f with
  |some fn=>bif Nat.beq vs.length fn.nargs then
   (match evC (evF ov F k) fn.body (fF vs 0 .e) h with
    |.ok .norm env h=>match ef env h fn.results with
     |some [v]=>fV v fun v=>some (v,h)
     |some vs=>some (.tup vs,h)
     |none=>none
    |.ok .ret env h=>match ef env h fn.results with
     |some [v]=>fV v fun v=>some (v,h)
     |some vs=>some (.tup vs,h)
     |none=>none
    |_=>none)
   else none
  |none=>bif Nat.ble YB f then evY (evC (evF ov F k)) (f-YB) vs h else ov f vs h:=rfl
 have hk:=hn' k oM;simp only[]at hk;have fin:(match ef env h' fn.results with
             |some [v]=>fV v fun v=>some (v,h')
             |some vs=>some (.tup vs,h')
             |none=>none)=some (qd rs,h'):=by
  rw[hr];simp only[wQ];cases rs with
  |nil=>rfl
  |cons a t=>cases t with
   |nil=>rfl
   |cons b t=>rfl
 rw[eq,hf];simp only[hn,cond_true];rw[hk];obtain rfl|rfl:=he<;>exact fin
theorem KO{ov:aC}{F:T IFn}{f:Nat}{vs:List V}{h:Heap}{r:V×Heap}(hf:F.get f=none)(hy:Nat.ble YB f=false)(e:ov f vs h=some r):ev ov F f vs h=some r:=by
 refine Ee ⟨1,fun m hm=>?_⟩;obtain⟨k,rfl⟩:∃k,m=k+1:=⟨m-1,oM⟩;show(match F.get f with
  |some fn=>_
  |none=>bif Nat.ble YB f then _ else ov f vs h)=_
 rw[hf];simp only[hy,cond_false];exact e
section
variable {call : aC} {env : T V} {h : Heap} {loc : List V}
def OQ(o:Option (V×Heap))(K:V→Heap→Prop):Prop:=∃v h,o=some (v,h)∧K v h
theorem bZ(v:V)(h:Heap)(K:V→Heap→Prop):OQ (some (v,h)) K↔K v h:=
 ⟨fun⟨_,_,e,k⟩=>by cases e;exact k,fun k=>⟨v,h,rfl,k⟩⟩
def VQ(o:Option V)(K:V→Heap→Prop)(h:Heap):Prop:=∃v,o=some v∧K v h
theorem kw(v:V)(K:V→Heap→Prop)(h:Heap):VQ (some v) K h↔K v h:=
 ⟨fun⟨_,e,k⟩=>by cases e;exact k,fun k=>⟨v,rfl,k⟩⟩
def HQ(o:Option Heap)(K:V→Heap→Prop):Prop:=∃h,o=some h∧K (.tup []) h
theorem AV(h:Heap)(K:V→Heap→Prop):HQ (some h) K↔K (.tup []) h:=
 ⟨fun⟨_,e,k⟩=>by cases e;exact k,fun k=>⟨h,rfl,k⟩⟩
theorem OQ.mono{o:Option (V×Heap)}{K K':V→Heap→Prop}(a:OQ o K)(b:∀v h,K v h→K' v h):OQ o K':=by let⟨v,h,e,k⟩:=a;exact⟨v,h,e,b _ _ k⟩
theorem kS(k:Nat):evO loc env (.l k)=nth loc k:=rfl
theorem ga(s:Nat):evO loc env (.v s)=env.get s:=rfl
theorem tn(x:V):evO loc env (.c x)=some x:=rfl
theorem Ej(n:Nat):evO loc env (.g n)=some (.ptr n 0):=rfl
def jP(a:Option V)(b:Option (List V)):Option (List V):=match a,b with
 |some v,some vs=>some (v::vs)
 |_,_=>none
theorem bK(v:V)(vs:List V):jP (some v) (some vs)=some (v::vs):=rfl
theorem bY:dA loc env []=some []:=rfl
theorem eg(x:Opd)(xs:List Opd):dA loc env (x::xs)=jP (evO loc env x) (dA loc env xs):=by show Option.rec (motive:=fun _=>Option (List V)) none (fun v=>Option.rec (motive:=fun _=>Option (List V)) none (fun vs=>some (v::vs)) (dA loc env xs)) (evO loc env x)=_;cases evO loc env x<;>cases dA loc env xs<;>rfl
theorem bj(v:V)(l:List V):nth (v::l) 0=some v:=rfl
theorem bR(v:V)(l:List V)(k:Nat):nth (v::l) (k+1)=nth l k:=rfl
theorem fQ(i:Nat)(en:T V):fF [] i en=en:=rfl
def PQ(k:PK)(o:Option (List V))(K:V→Heap→Prop)(h:Heap):Prop:=∃vs,o=some vs∧VQ (aP k vs) K h
theorem kB(k:PK)(vs:List V)(K:V→Heap→Prop):PQ k (some vs) K h↔VQ (aP k vs) K h:=
 ⟨fun⟨_,e,k⟩=>by cases e;exact k,fun k=>⟨vs,rfl,k⟩⟩
theorem Bs(k:PK)(xs:List Opd)(K:V→Heap→Prop):OQ (aK call loc env h (.p k xs)) K↔PQ k (dA loc env xs) K h:=by
 simp only[aK,OQ,PQ,VQ];cases dA loc env xs with
 |none=>simp
 |some vs=>cases hx:aP k vs with
  |none=>simp[hx]
  |some v=>simp[hx,and_assoc]
def LQ(h:Heap)(n:Nat)(ia:Bool)(o:Option V)(K:V→Heap→Prop):Prop:=∃p,o=some p∧VQ (iw h n ia p) K h
theorem pC(n:Nat)(ia:Bool)(p:V)(K:V→Heap→Prop):LQ h n ia (some p) K↔VQ (iw h n ia p) K h:=
 ⟨fun⟨_,e,k⟩=>by cases e;exact k,fun k=>⟨p,rfl,k⟩⟩
theorem Ae(n:Nat)(ia:Bool)(x:Opd)(K:V→Heap→Prop):OQ (aK call loc env h (.ld n ia x)) K↔LQ h n ia (evO loc env x) K:=by
 simp only[aK,OQ,LQ,VQ];cases evO loc env x with
 |none=>simp
 |some p=>cases hx:iw h n ia p with
  |none=>simp[hx]
  |some v=>simp[hx,and_assoc]
def SQ(h:Heap)(n:Nat)(o u:Option V)(K:V→Heap→Prop):Prop:=∃p v,o=some p∧u=some v∧HQ (gy h n p v) K
theorem AT(n:Nat)(p v:V)(K:V→Heap→Prop):SQ h n (some p) (some v) K↔HQ (gy h n p v) K:=
 ⟨fun⟨_,_,e,e2,k⟩=>by cases e;cases e2;exact k,fun k=>⟨p,v,rfl,rfl,k⟩⟩
theorem Ik(n:Nat)(x y:Opd)(K:V→Heap→Prop):OQ (aK call loc env h (.st n x y)) K↔SQ h n (evO loc env x) (evO loc env y) K:=by
 simp only[aK,OQ,SQ,HQ];cases evO loc env x with
 |none=>simp
 |some p=>cases evO loc env y with
  |none=>simp
  |some v=>cases hx:gy h n p v with
   |none=>simp[hx]
   |some h'=>simp[hx,and_assoc]
theorem Iu(zero:List V)(K:V→Heap→Prop):OQ (aK call loc env h (.al zero)) K↔K (.ptr h.next 0) (halloc h zero):=by simp only[aK,bZ]
def BQ(o:Option V)(K:V→Heap→Prop)(h:Heap):Prop:=∃v,o=some v∧K (.ptr h.next 0) (halloc h v.cells)
theorem A6(v:V)(K:V→Heap→Prop):BQ (some v) K h↔K (.ptr h.next 0) (halloc h v.cells):=
 ⟨fun⟨_,e,k⟩=>by cases e;exact k,fun k=>⟨v,rfl,k⟩⟩
theorem Ir(x:Opd)(K:V→Heap→Prop):OQ (aK call loc env h (.bx x)) K↔BQ (evO loc env x) K h:=by
 simp only[aK,OQ,BQ];cases evO loc env x with
 |none=>simp
 |some v=>simp[and_assoc]
def BsQ(h:Heap)(zero:List V)(places:List (Nat×Nat))(len:Nat)(o:Option (List V))(K:V→Heap→Prop):Prop:=∃vs,o=some vs∧OQ (iY h zero places len vs) K
theorem xQ(zero:List V)(places:List (Nat×Nat))(len:Nat)(vs:List V)(K:V→Heap→Prop):BsQ h zero places len (some vs) K↔OQ (iY h zero places len vs) K:=
 ⟨fun⟨_,e,k⟩=>by cases e;exact k,fun k=>⟨vs,rfl,k⟩⟩
theorem Is(zero:List V)(places:List (Nat×Nat))(len:Nat)(xs:List Opd)(K:V→Heap→Prop):
 OQ (aK call loc env h (.bs zero places len xs)) K↔BsQ h zero places len (dA loc env xs) K:=by
 simp only[aK,OQ,BsQ];cases dA loc env xs with
 |none=>simp
 |some vs=>simp
def zB(f:V→V→Option (V×Heap))(a b:Option V)(K:V→Heap→Prop):Prop:=∃x y,a=some x∧b=some y∧OQ (f x y) K
theorem ua(f:V→V→Option (V×Heap))(x y:V)(K:V→Heap→Prop):zB f (some x) (some y) K↔OQ (f x y) K:=
 ⟨fun⟨_,_,e,e2,k⟩=>by cases e;cases e2;exact k,fun k=>⟨x,y,rfl,rfl,k⟩⟩
theorem In(zero:List V)(bytes:Nat)(x y:Opd)(K:V→Heap→Prop):
 OQ (aK call loc env h (.mk zero bytes x y)) K↔zB (tJ h zero bytes) (evO loc env x) (evO loc env y) K:=by
 simp only[aK,OQ,zB];cases evO loc env x with
 |none=>simp
 |some l=>cases evO loc env y with
  |none=>simp
  |some c=>simp
theorem It(esz bytes:Nat)(x y:Opd)(K:V→Heap→Prop):
 OQ (aK call loc env h (.ap esz bytes x y)) K↔zB (jq h esz bytes) (evO loc env x) (evO loc env y) K:=by
 simp only[aK,OQ,zB];cases evO loc env x with
 |none=>simp
 |some l=>cases evO loc env y with
  |none=>simp
  |some c=>simp
theorem Ip(esz:Nat)(x y:Opd)(K:V→Heap→Prop):
 OQ (aK call loc env h (.cp esz x y)) K↔zB (tM h esz) (evO loc env x) (evO loc env y) K:=by
 simp only[aK,OQ,zB];cases evO loc env x with
 |none=>simp
 |some l=>cases evO loc env y with
  |none=>simp
  |some c=>simp
def CfQ(call:aC)(f:Nat)(o:Option (List V))(h:Heap)(K:V→Heap→Prop):Prop:=∃vs,o=some vs∧OQ (call f vs h) K
theorem xP(f:Nat)(vs:List V)(K:V→Heap→Prop):CfQ call f (some vs) h K↔OQ (call f vs h) K:=
 ⟨fun⟨_,e,k⟩=>by cases e;exact k,fun k=>⟨vs,rfl,k⟩⟩
theorem Iq(f:Nat)(xs:List Opd)(K:V→Heap→Prop):OQ (aK call loc env h (.cf f xs)) K↔CfQ call f (dA loc env xs) h K:=by
 simp only[aK,OQ,CfQ];cases dA loc env xs with
 |none=>simp
 |some vs=>simp
def FQ(call:aC)(h:Heap)(o:Option V)(vs:Option (List V))(K:V→Heap→Prop):Prop:=
 ∃us,vs=some us∧((∃f first caps,o=some (.func (.func f) first caps)∧f<1099511627776∧OQ (call f (first++us++caps) h) K)∨(∃b,o=some (.yld b)∧OQ (call (YB+b) us h) K))
theorem A2(f:Nat)(first caps us:List V)(K:V→Heap→Prop):FQ call h (some (.func (.func f) first caps)) (some us) K↔(f<1099511627776∧OQ (call f (first++us++caps) h) K):=
 ⟨fun⟨_,e2,k⟩=>(by
  cases e2;obtain⟨_,_,_,e,k⟩|⟨_,e,_⟩:=k;cases e;exact k;cases e),fun k=>⟨us,rfl,.inl ⟨f,first,caps,rfl,k⟩⟩⟩
theorem Io(x:Opd)(xs:List Opd)(K:V→Heap→Prop):OQ (aK call loc env h (.cv x xs)) K↔FQ call h (evO loc env x) (dA loc env xs) K:=by
 simp only[aK,OQ,FQ];constructor;rintro⟨v,h',e,k⟩;split at e;rename_i f first caps hx
 cases hy:dA loc env xs with
 |none=>rw[hy]at e;cases e
 |some us=>rw[hy]at e;simp only[]at e;cases hb:Nat.blt f YB;grind;rw[hb]at e;simp only[cond_true]at e;exact⟨us,rfl,.inl ⟨f,first,caps,hx,(Nat.blt_eq ..).mp hb,v,h',e,k⟩⟩
 grind;cases e;rintro⟨us,e2,⟨f,first,caps,e1,hf,v,h',e,k⟩|⟨b,e1,v,h',e,k⟩⟩;refine⟨v,h',?_,k⟩;rw[e1,e2];have hb:Nat.blt f YB=true:=(Nat.blt_eq ..).mpr hf;simp only[hb,cond_true];exact e;grind
def J5(h:Heap)(zero:List V)(o:Option V)(K:V→Heap→Prop):Prop:=∃v,o=some v∧OQ (ze h zero v) K
theorem uh(zero:List V)(v:V)(K:V→Heap→Prop):J5 h zero (some v) K↔OQ (ze h zero v) K:=
 ⟨fun⟨_,e,k⟩=>by cases e;exact k,fun k=>⟨v,rfl,k⟩⟩
theorem Dk(zero:List V)(x:Opd)(K:V→Heap→Prop):OQ (aK call loc env h (.clr zero x)) K↔J5 h zero (evO loc env x) K:=by
 simp only[aK,OQ,J5];cases evO loc env x with
 |none=>simp
 |some d=>simp
def WS(call:aC)(l:List IStep)(loc:List V)(env:T V)(h:Heap)(Q:T V→Heap→Prop):Prop:=∃env' h',c7 call l loc env h=.ok .norm env' h'∧Q env' h'
theorem nV(Q:T V→Heap→Prop):WS call [] loc env h Q↔Q env h:=
 ⟨fun⟨_,_,e,q⟩=>by cases e;exact q,fun q=>⟨env,h,rfl,q⟩⟩
def kl(call:aC)(l:List IStep)(loc:List V)(env:T V)(Q:T V→Heap→Prop):V→Heap→Prop:=fun v h=>WS call l (v::loc) env h Q
def kv(call:aC)(l:List IStep)(loc:List V)(env:T V)(d:Nat)(Q:T V→Heap→Prop):V→Heap→Prop:=fun v h=>WS call l loc (env.set d v) h Q
theorem nD(l:List IStep)(Q:T V→Heap→Prop)(v:V):kl call l loc env Q v h↔WS call l (v::loc) env h Q:=Iff.rfl
theorem nC(l:List IStep)(d:Nat)(Q:T V→Heap→Prop)(v:V):kv call l loc env d Q v h↔WS call l loc (env.set d v) h Q:=Iff.rfl
theorem Cr(o:IOp)(l:List IStep)(Q:T V→Heap→Prop):WS call (⟨none,o,none⟩::l) loc env h Q↔OQ (aK call loc env h o) (kl call l loc env Q):=by
 simp only[WS,bX,evG,OQ,kl];cases aK call loc env h o with
 |none=>simp
 |some r=>let⟨v,h'⟩:=r;simp[jF,fY,and_assoc]
theorem Cq(o:IOp)(d:Nat)(l:List IStep)(Q:T V→Heap→Prop):WS call (⟨none,o,some d⟩::l) loc env h Q↔OQ (aK call loc env h o) (kv call l loc env d Q):=by
 simp only[WS,bX,evG,OQ,kv];cases aK call loc env h o with
 |none=>simp
 |some r=>let⟨v,h'⟩:=r;simp[jF,fY,and_assoc]
def GQ(o:Option V)(want:Bool)(A B:Prop):Prop:=(∃b,o=some (.bool b)∧if b=want then A else B)∨((∃l,o=some (.tup l))∧B)
theorem mW(b want:Bool)(A B:Prop):GQ (some (.bool b)) want A B↔if b=want then A else B:=
 ⟨fun x=>(by
  obtain⟨_,e,k⟩|⟨⟨_,e⟩,_⟩:=x;cases e;exact k;cases e),fun k=>.inl ⟨b,rfl,k⟩⟩
theorem zF(t:List V)(want:Bool)(A B:Prop):GQ (some (.tup t)) want A B↔B:=
 ⟨fun x=>(by
  obtain⟨_,e,k⟩|⟨_,k⟩:=x;cases e;exact k),fun k=>.inr ⟨⟨t,rfl⟩,k⟩⟩
def GS(o:Option V)(want:Bool)(call:aC)(p:IOp)(l:List IStep)(loc:List V)(env:T V)(h:Heap)(Q:T V→Heap→Prop):Prop:=
 GQ o want (OQ (aK call loc env h p) (kl call l loc env Q)) (WS call l (.tup []::loc) env h Q)
theorem AY(b want:Bool)(p:IOp)(l:List IStep)(Q:T V→Heap→Prop):GS (some (.bool b)) want call p l loc env h Q↔
 if b=want then OQ (aK call loc env h p) (kl call l loc env Q)else WS call l (.tup []::loc) env h Q:=mW _ _ _ _
theorem FW(t:List V)(want:Bool)(p:IOp)(l:List IStep)(Q:T V→Heap→Prop):GS (some (.tup t)) want call p l loc env h Q↔WS call l (.tup []::loc) env h Q:=zF _ _ _ _
def GV(o:Option V)(want:Bool)(call:aC)(p:IOp)(d:Nat)(l:List IStep)(loc:List V)(env:T V)(h:Heap)(Q:T V→Heap→Prop):Prop:=
 GQ o want (OQ (aK call loc env h p) (kv call l loc env d Q)) (WS call l loc (env.set d (.tup [])) h Q)
theorem AW(b want:Bool)(p:IOp)(d:Nat)(l:List IStep)(Q:T V→Heap→Prop):GV (some (.bool b)) want call p d l loc env h Q↔
 if b=want then OQ (aK call loc env h p) (kv call l loc env d Q)else WS call l loc (env.set d (.tup [])) h Q:=mW _ _ _ _
theorem FV(t:List V)(want:Bool)(p:IOp)(d:Nat)(l:List IStep)(Q:T V→Heap→Prop):GV (some (.tup t)) want call p d l loc env h Q↔WS call l loc (env.set d (.tup [])) h Q:=zF _ _ _ _
theorem K1(x:Opd)(want:Bool)(o:IOp)(l:List IStep)(Q:T V→Heap→Prop):WS call (⟨some (x,want),o,none⟩::l) loc env h Q↔GS (evO loc env x) want call o l loc env h Q:=by
 simp only[WS,bX,evG,OQ,GQ,GS,kl];cases evO loc env x with
 |none=>simp
 |some b=>
  cases b with
  |bool b=>
   have hb:(!(xor b want))=decide (b=want):=by grind
   simp only[hb];by_cases hw:b=want;simp only[hw,decide_true];cases aK call loc env h o with
   |none=>simp
   |some r=>let⟨v,h'⟩:=r;simp[jF,fY,and_assoc]
   simp only[hw,decide_false];simp[hw,jF,fY]
  |tup t=>simp[jF,fY]
  |_=>simp
theorem IT(x:Opd)(want:Bool)(o:IOp)(d:Nat)(l:List IStep)(Q:T V→Heap→Prop):WS call (⟨some (x,want),o,some d⟩::l) loc env h Q↔GV (evO loc env x) want call o d l loc env h Q:=by
 simp only[WS,bX,evG,OQ,GQ,GV,kv];cases evO loc env x with
 |none=>simp
 |some b=>
  cases b with
  |bool b=>
   have hb:(!(xor b want))=decide (b=want):=by grind
   simp only[hb];by_cases hw:b=want;simp only[hw,decide_true];cases aK call loc env h o with
   |none=>simp
   |some r=>let⟨v,h'⟩:=r;simp[jF,fY,and_assoc]
   simp only[hw,decide_false];simp[hw,jF,fY]
  |tup t=>simp[jF,fY]
  |_=>simp
def W(call:aC)(c:IC)(env:T V)(h:Heap)(Q:Ex→T V→Heap→Prop):Prop:=∃e env' h',evC call c env h=.ok e env' h'∧Q e env' h'
def rP(call:aC)(b:IC)(Q:Ex→T V→Heap→Prop):Ex→T V→Heap→Prop:=fun e env h=>match e with
 |.norm=>W call b env h Q
 |e=>Q e env h
theorem eJ(b:IC)(Q:Ex→T V→Heap→Prop):rP call b Q .norm env h↔W call b env h Q:=Iff.rfl
theorem rO(b:IC)(Q:Ex→T V→Heap→Prop):rP call b Q .ret env h↔Q .ret env h:=Iff.rfl
theorem pI(b:IC)(i:Nat)(Q:Ex→T V→Heap→Prop):rP call b Q (.exit i) env h↔Q (.exit i) env h:=Iff.rfl
theorem pH(b:IC)(i:Nat)(Q:Ex→T V→Heap→Prop):rP call b Q (.goto i) env h↔Q (.goto i) env h:=Iff.rfl
theorem zy(Q:Ex→T V→Heap→Prop):W call .skip env h Q↔Q .norm env h:=
 ⟨fun⟨_,_,_,e,q⟩=>by cases e;exact q,fun q=>⟨_,_,_,rfl,q⟩⟩
theorem tZ(Q:Ex→T V→Heap→Prop):W call .ret env h Q↔Q .ret env h:=
 ⟨fun⟨_,_,_,e,q⟩=>by cases e;exact q,fun q=>⟨_,_,_,rfl,q⟩⟩
theorem E9(i:Nat)(Q:Ex→T V→Heap→Prop):W call (.exit i) env h Q↔Q (.exit i) env h:=
 ⟨fun⟨_,_,_,e,q⟩=>by cases e;exact q,fun q=>⟨_,_,_,rfl,q⟩⟩
theorem E8(i:Nat)(Q:Ex→T V→Heap→Prop):W call (.goto i) env h Q↔Q (.goto i) env h:=
 ⟨fun⟨_,_,_,e,q⟩=>by cases e;exact q,fun q=>⟨_,_,_,rfl,q⟩⟩
theorem W.mono{c:IC}{Q Q':Ex→T V→Heap→Prop}(a:W call c env h Q)(b:∀e env h,Q e env h→Q' e env h):W call c env h Q':=by let⟨e,env',h',x,q⟩:=a;exact⟨e,env',h',x,b _ _ _ q⟩
theorem uO(a b:IC):evC call (.seq a b) env h=match evC call a env h with
      |.ok .norm env h=>evC call b env h
      |r=>r:=rfl
theorem tY(a b:IC)(Q:Ex→T V→Heap→Prop):W call (.seq a b) env h Q↔W call a env h (rP call b Q):=by
 constructor;rintro⟨e,env',h',x,q⟩;rw[uO]at x;split at x;rename_i env1 h1 h2;exact⟨.norm,env1,h1,h2,e,env',h',x,q⟩;rename_i h2;refine⟨e,env',h',x,?_⟩;cases e with
 |norm=>exact absurd x (h2 env' h')
 |_=>exact q
 rintro⟨e,env1,h1,x,q⟩;cases e with
 |norm=>let⟨e,env',h',y,q⟩:=q;exact⟨e,env',h',by rw[uO,x];exact y,q⟩
 |_=>exact⟨_,env1,h1,by rw[uO,x],q⟩
def IM(o:Option V)(call:aC)(a b:IC)(env:T V)(h:Heap)(Q:Ex→T V→Heap→Prop):Prop:=∃t,o=some (.bool t)∧if t=true then W call a env h Q else W call b env h Q
theorem lK(t:Bool)(a b:IC)(Q:Ex→T V→Heap→Prop):IM (some (.bool t)) call a b env h Q↔if t=true then W call a env h Q else W call b env h Q:=
 ⟨fun⟨_,e,k⟩=>by cases e;exact k,fun k=>⟨t,rfl,k⟩⟩
theorem zA(x:Opd)(a b:IC)(Q:Ex→T V→Heap→Prop):W call (.cond x a b) env h Q↔IM (evO [] env x) call a b env h Q:=by
 have eq:evC call (.cond x a b) env h=match evO [] env x with
  |some (.bool t)=>bif t then evC call a env h else evC call b env h
  |_=>.fail:=rfl
 constructor;rintro⟨e,env',h',y,q⟩;rw[eq]at y;split at y;rename_i t ht;refine⟨t,ht,?_⟩;cases t;exact⟨e,env',h',y,q⟩;exact⟨e,env',h',y,q⟩;cases y;rintro⟨t,ht,k⟩;cases t;let⟨e,env',h',y,q⟩:=k;exact⟨e,env',h',by rw[eq,ht];exact y,q⟩;let⟨e,env',h',y,q⟩:=k;exact⟨e,env',h',by rw[eq,ht];exact y,q⟩
def qQ(id:Nat)(Q:Ex→T V→Heap→Prop):Ex→T V→Heap→Prop:=fun e env h=>match e with
 |.exit i=>if i=id then Q .norm env h else Q (.exit i) env h
 |e=>Q e env h
theorem oX(id:Nat)(Q:Ex→T V→Heap→Prop):qQ id Q .norm env h↔Q .norm env h:=Iff.rfl
theorem qP(id:Nat)(Q:Ex→T V→Heap→Prop):qQ id Q .ret env h↔Q .ret env h:=Iff.rfl
theorem oY(id i:Nat)(Q:Ex→T V→Heap→Prop):qQ id Q (.goto i) env h↔Q (.goto i) env h:=Iff.rfl
theorem gM(id i:Nat)(Q:Ex→T V→Heap→Prop):qQ id Q (.exit i) env h↔if i=id then Q .norm env h else Q (.exit i) env h:=Iff.rfl
theorem AS(id:Nat)(a:IC)(Q:Ex→T V→Heap→Prop):W call (.block id a) env h Q↔W call a env h (qQ id Q):=by
 have eq:evC call (.block id a) env h=match evC call a env h with
  |.ok (.exit i) env h=>bif Nat.beq i id then .ok .norm env h else .ok (.exit i) env h
  |r=>r:=rfl
 constructor;rintro⟨e,env',h',x,q⟩;rw[eq]at x;split at x;rename_i i env1 h1 h2;refine⟨_,_,_,h2,?_⟩;rw[gM];by_cases hi:i=id;subst hi;simp at x;obtain⟨rfl,rfl,rfl⟩:=x;simpa using q;rw[if_neg hi];have:Nat.beq i id=false:=by cases hb:Nat.beq i id;rfl;exact absurd (Nat.eq_of_beq_eq_true hb) hi
 rw[this]at x;cases x;exact q;rename_i h2;refine⟨e,env',h',x,?_⟩;cases e with
 |exit i=>exact absurd x (h2 i env' h')
 |_=>exact q
 rintro⟨e,env1,h1,x,q⟩;cases e with
 |exit i=>
  rw[gM]at q;by_cases hi:i=id;rw[if_pos hi]at q;exact⟨.norm,env1,h1,by rw[eq,x];subst hi;simp,q⟩;rw[if_neg hi]at q;have:Nat.beq i id=false:=by cases hb:Nat.beq i id;rfl;exact absurd (Nat.eq_of_beq_eq_true hb) hi
  exact⟨.exit i,env1,h1,by rw[eq,x];simp only[this,cond_false],q⟩
 |_=>exact⟨_,env1,h1,by rw[eq,x],q⟩
theorem t7(l:List IStep)(Q:Ex→T V→Heap→Prop):W call (.ops l) env h Q↔WS call l [] env h (Q .norm):=by
 constructor;rintro⟨e,env',h',x,q⟩;have hn:∀(l:List IStep)(loc:List V)(env:T V)(h:Heap),c7 call l loc env h=.ok e env' h'→e=.norm:=by
  intro l;induction l with
  |nil=>intro loc env h x;cases x;rfl
  |cons s l ih=>intro loc env h x;rw[bX]at x;split at x;grind;exact ih _ _ _ x;cases x
 have:=hn _ _ _ _ x;subst this;exact⟨env',h',x,q⟩;rintro⟨env',h',x,q⟩;exact⟨_,_,_,x,q⟩
noncomputable def itr(body:T V→Heap→Out):Nat→T V→Heap→Out
 |0,env,h=>.ok .norm env h
 |n+1,env,h=>match body env h with
  |.ok .norm env h=>itr body n env h
  |r=>r
theorem Hk(body:T V→Heap→Out):∀(a b:Nat)(env:T V)(h:Heap),itr body (a+b) env h=match itr body a env h with
 |.ok .norm env h=>itr body b env h
 |r=>r:=by
 intro a;induction a with
 |zero=>intro b env h;simp[itr]
 |succ a ih=>
  intro b env h;rw[Nat.succ_add];simp only[itr];cases body env h with
  |fail=>rfl
  |ok e env1 h1=>cases e with
   |norm=>exact ih b env1 h1
   |_=>rfl
theorem py(body:T V→Heap→Out)(k:Nat):∀(env:T V)(h:Heap),dbl body k env h=itr body (2^k) env h:=by
 induction k with
 |zero=>
  intro env h;show body env h=itr body 1 env h;simp only[itr];cases body env h with
  |fail=>rfl
  |ok e env1 h1=>cases e<;>rfl
 |succ k ih=>
  intro env h;show(match dbl body k env h with
   |.ok .norm env h=>dbl body k env h
   |r=>r)=_
  rw[Nat.pow_succ,Nat.mul_two,Hk,ih];cases itr body (2^k) env h with
  |fail=>rfl
  |ok e env1 h1=>cases e with
   |norm=>exact ih env1 h1
   |_=>rfl
def k7(I:Nat→T V→Heap→Prop)(k:Nat)(Q:Ex→T V→Heap→Prop):Ex→T V→Heap→Prop:=fun e env h=>match e with
 |.norm=>∃k',k'<k∧I k' env h
 |e=>Q e env h
theorem Ih(I:Nat→T V→Heap→Prop)(k:Nat)(Q:Ex→T V→Heap→Prop):k7 I k Q .norm env h↔∃k',k'<k∧I k' env h:=Iff.rfl
theorem pV(I:Nat→T V→Heap→Prop)(k:Nat)(Q:Ex→T V→Heap→Prop):k7 I k Q .ret env h↔Q .ret env h:=Iff.rfl
theorem jB(I:Nat→T V→Heap→Prop)(k i:Nat)(Q:Ex→T V→Heap→Prop):k7 I k Q (.exit i) env h↔Q (.exit i) env h:=Iff.rfl
theorem oE(I:Nat→T V→Heap→Prop)(k i:Nat)(Q:Ex→T V→Heap→Prop):k7 I k Q (.goto i) env h↔Q (.goto i) env h:=Iff.rfl
theorem IB{body:T V→Heap→Out}(I:Nat→T V→Heap→Prop)(Q:Ex→T V→Heap→Prop)
 (hr:∀k env h,I k env h→∃e env' h',body env h=.ok e env' h'∧k7 I k Q e env' h'):
 ∀(n k:Nat)(env:T V)(h:Heap),I k env h→k<n→∃e env' h',itr body n env h=.ok e env' h'∧e≠.norm∧Q e env' h':=by
 intro n;induction n with
 |zero=>intro k env h _ hk;omega
 |succ n ih=>
  intro k env h hI hk;let⟨e,env1,h1,x,q⟩:=hr k env h hI;simp only[itr,x];cases e with
  |norm=>let⟨k',hk',q⟩:=q;exact ih k' env1 h1 q oM
  |_=>exact⟨_,_,_,rfl,iS,q⟩
theorem aA{body:IC}{Q:Ex→T V→Heap→Prop}(I:Nat→T V→Heap→Prop)(n:Nat)(hn:n<281474976710656)(h0:I n env h)
 (hr:∀k env h,I k env h→W call body env h (k7 I k Q)):W call (.loop body) env h Q:=by
 have eq:evC call (.loop body) env h=match dbl (evC call body) 48 env h with
  |.ok .norm _ _=>.fail
  |r=>r:=rfl
 let⟨e,env',h',x,ne,q⟩:=IB I Q hr (2^48) n env h h0 (eV hn);refine⟨e,env',h',?_,q⟩;rw[eq,py,x];cases e with
 |norm=>exact absurd rfl ne
 |_=>rfl
theorem vu{c r:IC}{l:Nat}{Q:Ex→T V→Heap→Prop}(I:Nat→T V→Heap→Prop)(n:Nat)(hn:n<281474976710656)
 (h0:W call c env h (fun e env' h'=>match e with
  |.goto i=>i=l∧I n env' h'
  |e=>Q e env' h'))
 (hr:∀k env h,I k env h→W call r env h (fun e env' h'=>match e with
  |.goto i=>i=l∧∃k',k'<k∧I k' env' h'
  |e=>Q e env' h')):W call (.scope c l r) env h Q:=by
 have eq:evC call (.scope c l r) env h=match evC call c env h with
  |.ok (.goto i) env h=>bif Nat.beq i l then
   (match dbl (fun env h=>match evC call r env h with
    |.ok (.goto i) env h=>bif Nat.beq i l then .ok .norm env h else .ok (.goto i) env h
    |.ok .norm env h=>.ok (.goto l) env h
    |r=>r) 48 env h with
    |.ok .norm _ _=>.fail
    |.ok (.goto i) env h=>bif Nat.beq i l then .ok .norm env h else .fail
    |r=>r)
   else .fail
  |r=>r:=rfl
 let⟨e,env1,h1,x,q⟩:=h0;cases e with
 |goto i=>
  obtain⟨rfl,q⟩:=q;let⟨e,env',h',y,ne,q⟩:=IB (body:=fun env h=>match evC call r env h with
            |.ok (.goto j) env h=>bif Nat.beq j i then .ok .norm env h else .ok (.goto j) env h
            |.ok .norm env h=>.ok (.goto i) env h
            |r=>r) I (fun e env' h'=>match e with
             |.goto j=>j=i∧Q .norm env' h'
             |e=>Q e env' h') (fun k env h hI=>by
   let⟨e,env2,h2,z,q⟩:=hr k env h hI;simp only[z];cases e with
   |norm=>exact⟨_,_,_,rfl,rfl,q⟩
   |goto j=>obtain⟨rfl,k',hk,q⟩:=q;exact⟨.norm,env2,h2,iS,k',hk,q⟩
   |_=>exact⟨_,_,_,rfl,q⟩) (2^48) n env1 h1 q (eV hn)
  cases e with
  |norm=>exact absurd rfl ne
  |goto j=>obtain⟨rfl,q⟩:=q;refine⟨.norm,env',h',?_,q⟩;rw[eq,x];simp only[Nat.beq_refl,cond_true,py];rw[y];simp
  |ret=>refine⟨.ret,env',h',?_,q⟩;rw[eq,x];simp only[Nat.beq_refl,cond_true,py];rw[y]
  |exit j=>refine⟨.exit j,env',h',?_,q⟩;rw[eq,x];simp only[Nat.beq_refl,cond_true,py];rw[y]
 |norm=>exact⟨_,_,_,by rw[eq,x],q⟩
 |ret=>exact⟨_,_,_,by rw[eq,x],q⟩
 |exit j=>exact⟨_,_,_,by rw[eq,x],q⟩
theorem Hg(l:List IStep):∀(i:Nat)(loc:List V)(h:Heap),lay call env [] l i loc h=some (l.map fun s=>(s,none),h):=by
 induction l with
 |nil=>intro i loc h;rfl
 |cons s l ih=>intro i loc h;simp[lay,ih]
def WD(call:aC)(env:T V)(l:List DS)(loc:List V)(hs:List Heap)(h:Heap)(K:List V→List Heap→Prop):Prop:=
 ∃loc' hs',gG call env l loc hs h=some (loc',hs')∧K loc' hs'
theorem Fp(hs:List Heap)(K:List V→List Heap→Prop):WD call env [] loc hs h K↔K loc hs:=
 ⟨fun⟨_,_,e,k⟩=>by cases e;exact k,fun k=>⟨_,_,rfl,k⟩⟩
def kd(call:aC)(env:T V)(l:List DS)(loc:List V)(hs:List Heap)(h:Heap)(e:Bool)(K:List V→List Heap→Prop):V→Heap→Prop:=fun v h'=>
 if e=true then WD call env l (v::loc) (h'::hs) h' K else WD call env l (v::loc) hs h K
theorem KA(l:List DS)(hs:List Heap)(h0:Heap)(K:List V→List Heap→Prop)(v:V):kd call env l loc hs h0 true K v h↔WD call env l (v::loc) (h::hs) h K:=by simp[kd]
theorem KB(l:List DS)(hs:List Heap)(h0:Heap)(K:List V→List Heap→Prop)(v:V):kd call env l loc hs h0 false K v h↔WD call env l (v::loc) hs h0 K:=by simp[kd]
theorem K2(o:IOp)(l:List DS)(hs:List Heap)(K:List V→List Heap→Prop):WD call env ((⟨none,o,none⟩,none)::l) loc hs h K↔
 OQ (aK call loc env h o) (kd call env l loc hs h (eff o) K):=by
 simp only[WD,gm,evG,OQ,kd];cases aK call loc env h o with
 |none=>simp
 |some r=>let⟨v,h'⟩:=r;cases eff o<;>simp[and_assoc]
def GD(o:Option V)(want:Bool)(call:aC)(env:T V)(p:IOp)(l:List DS)(loc:List V)(hs:List Heap)(h:Heap)(e:Bool)(K:List V→List Heap→Prop):Prop:=
 GQ o want (OQ (aK call loc env h p) (kd call env l loc hs h e K)) (if e=true then WD call env l (.tup []::loc) (h::hs) h K else WD call env l (.tup []::loc) hs h K)
theorem A0(b want:Bool)(p:IOp)(l:List DS)(hs:List Heap)(e:Bool)(K:List V→List Heap→Prop):GD (some (.bool b)) want call env p l loc hs h e K↔
 if b=want then OQ (aK call loc env h p) (kd call env l loc hs h e K)else(if e=true then WD call env l (.tup []::loc) (h::hs) h K else WD call env l (.tup []::loc) hs h K):=mW _ _ _ _
theorem FY(t:List V)(want:Bool)(p:IOp)(l:List DS)(hs:List Heap)(e:Bool)(K:List V→List Heap→Prop):GD (some (.tup t)) want call env p l loc hs h e K↔
 (if e=true then WD call env l (.tup []::loc) (h::hs) h K else WD call env l (.tup []::loc) hs h K):=zF _ _ _ _
theorem K3(x:Opd)(want:Bool)(o:IOp)(l:List DS)(hs:List Heap)(K:List V→List Heap→Prop):WD call env ((⟨some (x,want),o,none⟩,none)::l) loc hs h K↔
 GD (evO loc env x) want call env o l loc hs h (eff o) K:=by
 simp only[WD,gm,evG,OQ,GQ,GD,kd];cases evO loc env x with
 |none=>simp
 |some b=>
  cases b with
  |bool b=>
   have hb:(!(xor b want))=decide (b=want):=by grind
   simp only[hb];by_cases hw:b=want;grind;grind
  |tup t=>cases eff o<;>simp
  |_=>simp
theorem dg(s:IStep)(u:V)(c:List V)(l:List DS)(hs:List Heap)(K:List V→List Heap→Prop):WD call env ((s,some (u,c))::l) loc hs h K↔
 bJ loc env s.op u c=true∧WD call env l (u::loc) hs h K:=by
 simp only[WD,gm];cases bJ loc env s.op u c<;>simp
def DE(call:aC)(l:List IStep)(reads:List (Nat×Nat×Nat))(sets:List (Nat×Nat))(env:T V)(Q:T V→Heap→Prop)(loc:List V)(hs:List Heap):Prop:=
 reads.all (k8 call env l loc hs)=true∧∃env' h' hs',gI l.length loc sets env=some env'∧hs=h'::hs'∧Q env' h'
theorem HW(l:List IStep)(late R:List Nat)(reads:List (Nat×Nat×Nat))(sets:List (Nat×Nat))(Q:Ex→T V→Heap→Prop){dl:List DS}{h1:Heap}(hl:lay call env late l 0 [] h=some (dl,h1)):
 WD call env dl [] [h1] h1 (DE call l reads sets env (Q .norm))→W call (.dops l late R reads sets) env h Q:=by
 rintro⟨loc,hs,e,hr,env',h',hs',hset,rfl,q⟩;refine⟨.norm,env',h',?_,q⟩;show evD call l late reads sets env h=_;unfold evD;simp only[hl,e,hr,cond_true,hset]
theorem sA(o:IOp)(v:V):fC call loc env o v []=true↔True:=by simp[fC]
def kr(v:V):V→Heap→Prop:=fun u _=>vEq u v=true
theorem DJ(v u:V):kr v u h↔vEq u v=true:=Iff.rfl
theorem pW(o:IOp)(v:V)(hs:List Heap):fC call loc env o v (h::hs)=true↔OQ (aK call loc env h o) (kr v)∧fC call loc env o v hs=true:=by
 simp only[fC,OQ,Bool.and_eq_true,kr];cases aK call loc env h o with
 |none=>simp
 |some r=>let⟨u,h'⟩:=r;simp[and_assoc]
mutual
theorem dE:∀(v:V),vEq v v=true
 |.bool b=>by cases b<;>rfl
 |.int k n=>by simp only[vEq,d9];cases k<;>simp[lF]
 |.str s=>by simp[vEq]
 |.nilp=>rfl
 |.ptr _ _=>by simp[vEq]
 |.nils=>rfl
 |.slice _ _ _ _=>by simp[vEq]
 |.sliceU _ _ _ _=>by simp[vEq]
 |.sliceE=>rfl
 |.nilm=>rfl
 |.map _=>by simp[vEq]
 |.yld _=>by simp[vEq]
 |.sliceZ _ _=>by simp[vEq]
 |.nilf=>rfl
 |.func _ a c=>by simp[vEq,dq a,dq c]
 |.nili=>rfl
 |.iface _ v=>by simp[vEq,dE v]
 |.agg l=>by simp[vEq,dq l]
 |.tup l=>by simp[vEq,dq l]
theorem dq:∀(v:List V),kV v v=true
 |[]=>rfl
 |v::l=>by simp[kV,dE v,dq l]
end
theorem rW(n:Nat):gI n loc [] env=some env:=rfl
theorem xY(n s i:Nat)(r:List (Nat×Nat)):gI n loc ((s,i)::r) env=match nth loc (n-i-1)with
 |some v=>gI n loc r (env.set s v)
 |none=>none:=by
 rw[gR];rfl
def aj(call:aC)(f:Nat)(vs:List V)(h:Heap)(R:V→Heap→Prop):Prop:=OQ (call f vs h) R
theorem aa{f:Nat}{vs:List V}{R K:V→Heap→Prop}(d:aj call f vs h R)(k:∀v h',R v h'→K v h'):OQ (call f vs h) K:=d.mono k
def RsQ(o:Option (List V))(R:V→Heap→Prop)(h:Heap):Prop:=∃vs,o=some vs∧R (qd vs) h
theorem iB(vs:List V)(R:V→Heap→Prop):RsQ (some vs) R h↔R (qd vs) h:=
 ⟨fun⟨_,e,k⟩=>by cases e;exact k,fun k=>⟨vs,rfl,k⟩⟩
def iC(rs:List RV)(R:V→Heap→Prop):Ex→T V→Heap→Prop:=fun e env h=>(e=.norm∨e=.ret)∧RsQ (ef env h rs) R h
theorem ud(rs:List RV)(R:V→Heap→Prop):iC rs R .norm env h↔RsQ (ef env h rs) R h:=by simp[iC]
theorem dL(rs:List RV)(R:V→Heap→Prop):iC rs R .ret env h↔RsQ (ef env h rs) R h:=by simp[iC]
theorem iq:ef env h []=some []:=rfl
theorem nL(s:Nat)(rs:List RV):ef env h (.t s::rs)=jP (env.get s) (ef env h rs):=by
 simp only[ef,evR];cases env.get s with
 |none=>rfl
 |some v=>cases ef env h rs<;>rfl
theorem Ei(s n:Nat)(ia:Bool)(rs:List RV):ef env h (.c s n ia::rs)=jP ((env.get s).bind fun v=>iw h n ia v) (ef env h rs):=by
 simp only[ef,evR];cases env.get s with
 |none=>rfl
 |some p=>
  simp only[Option.bind_some];cases iw h n ia p with
  |none=>rfl
  |some v=>cases ef env h rs<;>rfl
theorem sD:qd []=.tup []:=rfl
theorem fM(v:V):qd [v]=v:=rfl
theorem sC(v u:V)(l:List V):qd (v::u::l)=.tup (v::u::l):=rfl
theorem ab{ov:aC}{F:T IFn}{f n:Nat}{b:IC}{rs:List RV}{vs:List V}{R:V→Heap→Prop}(hw:W (ev ov F) b (fF vs 0 .e) h (iC rs R))
 (hf:F.get f=some ⟨n,b,rs⟩:=by exact rfl) (hn:Nat.beq vs.length n=true:=by exact rfl):aj (ev ov F) f vs h R:=by
 let⟨e,env',h',x,he,rs,hr,q⟩:=hw;exact⟨_,_,HE hf hn x he hr,q⟩
end
end Go.Ev
