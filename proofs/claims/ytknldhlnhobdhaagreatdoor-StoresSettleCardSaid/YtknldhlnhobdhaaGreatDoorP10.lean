/- An evaluator of the program, and contracts over it: StaL to StbB. -/
import Derived.Test.YtknldhlnhobdhaaGreatDoorP09
set_option linter.unusedSimpArgs false
set_option linter.unusedVariables false
set_option linter.constructorNameAsVariable false
set_option linter.unnecessarySimpa false
set_option maxRecDepth 4000
namespace Go.Ev.Lay
variable{h':a_}{cap:Int}{ks late:List Nat}{loc cs:List V}{env:T V}{X:List m_}{bg bm bl:Nat}{vK:V}{st bs kn:List Bool}{pm:Option Nat}
def p_.l?(q p:p_):Prop:=q.k=p.k/\q.tg=p.tg/\q.ky=p.ky/\q.sl=p.sl/\q.tx=p.tx/\q.P=p.P/\q.Y=p.Y/\q.pool=p.pool/\PT.l? q.sub p.sub
theorem p_.same_okK{q p:p_}(h:q.l? p):Z9 q=Z9 p:=by let⟨h1,h2,h3,h4,h5,Z,_,_,K⟩:=h;unfold Z9;rw[h1,h2,h3,h4,h5,Z,PT.R? _ _ _ _ _ K]
def bX:List p_->List p_->Prop
 |[],[]=>True
 |q::l,p::m=>q.l? p/\bX l m
 |_,_=>False
theorem eX:∀{a b:List p_},bX a b->a.length=b.length
 |[],[],_=>rfl
 |_::_,_::_,h=>by simp[eX h.2]
 |[],_::_,h=>h.elim
 |_::_,[],h=>h.elim
theorem ti:∀{a b:List p_},bX a b->a.all Z9=b.all Z9
 |[],[],_=>rfl
 |_::_,_::_,h=>by rw[Yb,Yb,p_.same_okK h.1,ti h.2]
 |[],_::_,h=>h.elim
 |_::_,[],h=>h.elim
theorem Bd{a b:List p_}(h:bX a b)(cap:Int):X5 a cap=X5 b cap:=by unfold X5;rw[eX h,ti h]
theorem tf:∀{a b c d:List p_},bX a b->bX c d->bX (a++c) (b++d)
 |[],[],_,_,_,g=>g
 |_::_,_::_,_,_,h,g=>⟨h.1,tf h.2 g⟩
 |[],_::_,_,_,h,_=>h.elim
 |_::_,[],_,_,h,_=>h.elim
theorem nR:∀{a b:List p_}{i:Nat}{q:p_},bX a b->a[i]? =some q->∃p,b[i]? =some p/\q.l? p
 |_::_,p::_,0,_,h,e=>by simp at e;subst e;exact⟨p,rfl,h.1⟩
 |_::_,_::_,i+1,_,h,e=>by simpa using nR h.2 (eV e)
 |[],[],_,_,_,e=>by simp at e
 |[],_::_,_,_,h,_=>h.elim
 |_::_,[],_,_,h,_=>h.elim
theorem _root_.Go.Ev.Fr.old{S:List Nat}{h:a_}(w:WF h)(f:Fr S h h'):Fr (S.filter fun x=>decide (x<h.e)) h h':=
 ⟨f.e,f.o,fun b c hb o=>f.I b c (fun m=>hb (by have:=o.lt w;simp[m,this])) o,fun b c hb o=>f.pl b c (fun m=>hb (by have:=o.I.lt w;simp[m,this])) o,f.lp,f.ro⟩
theorem H9{h:a_}{b:Nat}(o:e_ h b [.r,ZZ 0,ZZ 0]):ao go 100 [.u b 0,ZZ 0,.r] h fun u h'=>u=ZZ 0/\h=h':=by have k:Y6 h b (b+1) .r [] [] [] 0 0 0:=⟨o,⟨rfl,.inl ⟨rfl,rfl⟩⟩,rfl,rfl,rfl,rfl,rfl,oM,oM,oM,fun x m=>by simp at m⟩;have e:BF (0+0) 0 0=0:=rfl;refine ah ?_;simp[b_];refine aa (mK k 0 0) ?_;rintro _ _ ⟨rfl,rfl⟩;rw[e];simp[b_];apply aa (d9 k);rintro _ _ ⟨rfl,rfl⟩;simp[b_,ag]
theorem H7{h:a_}(w:WF h):ao go 46 [.r] h fun z h'=>∃b,z=.D [.u b 0,ZZ 0]/\h.e<=b/\e_ h' b [.r,ZZ 0,ZZ 0]/\Fr [] h h':=by let⟨h1,ac,K,Z⟩:=aq w [.r,ZZ 0,ZZ 0];refine ah ?_;simp[b_,<-ac];refine aa (H9 Z) ?_;rintro _ _ ⟨rfl,rfl⟩;simp only[b_,seval];exact⟨h.e,rfl,VZ _,Z,K⟩
theorem NN{h:a_}{v:V}{L:List p_}(w:WF h)(a:q_ p_.s 9 h v L)(hL:∀q∈L,Q9 h q)(hn:L.length<=4096)(ok:X5 L cap=true):
 ao go 11 [.B [v,ZZ cap]] h fun u h'=>∃b bg bm bl vK K,u=.D [.u b 0,ZZ 0]/\Fr [] h h'/\bX L K/\e_ h' b [vK,ZZ cap,.u bg 0,.u bm 0,.u bl 0]/\
  e_ h' bg [.r,ZZ 0,ZZ 0]/\Km h' bm bm (fun _=>none) 0/\Q4 h' bl none [] [] []/\h.e<bg/\bg<bm/\bm<bl/\bl<b/\h.e<h'.e/\e_ h' h.e [v,ZZ cap]/\
  (∀(X:List Nat)(h2:a_),(∀y∈X,y<=h.e\/y=b\/y=bg\/y=bm\/y=bl\/h'.e<=y)->Fr X h' h2->q_ p_.s 9 h2 vK K/\∀q∈K,Q9 h2 q):=by
 have zv:nZ v=true:=by cases v<;>first|rfl|exact a.2.elim
 let⟨h1,an,Z,ac⟩:=aq w [v,ZZ cap];have l0:ab h1 h.e 0=some v:=ac.j 0;have l2:aj h1 h.e 0 2=some [v,ZZ cap]:=by rw[ac.N];rfl
 refine ah ?_;simp only[b_,seval,<-an,l2];refine aa (nM Z.o (Xn a Z) (fun q m=>(hL q m).fr Z) hn) ?_;rintro _ h2 ⟨rfl,F2⟩;rw[ok,if_pos rfl];simp only[b_,seval];apply aa (H7 F2.o);rintro _ h3 ⟨bg,rfl,bw,g3,F3⟩;have aH:=(Z.c F2).c F3;have o3:=F3.i (F2.i ac);have l3:ab h3 h.e 0=some v:=o3.j 0;simp only[b_,seval,l3];apply aa (yr F3.o (Sl.a (Xn a aH)) zv oM);rintro vK h4 ⟨gk,F4⟩;simp only[b_,seval,gk.sl.t_];have a7:=aH.c F4;have a9:∀y∈vb vK,h3.e<=y/\y<h4.e:=by obtain⟨_,⟨_,rfl|⟨b,_,rfl,_⟩⟩|⟨b,hb,rfl,o⟩⟩:=gk;simp[vb];simp[vb];have:=o.lt F4.o;simp only[vb,Wi];rintro y rfl;exact⟨hb,this⟩
 refine aA (fun n env hh=>Fr [] h hh/\Fr [] h1 hh/\Fr [] h3 hh/\h4.e<=hh.e/\
  ∃(i:Nat)(D:List p_),env.c_ 26=some (ZZ i)/\env.c_ 25=some (ZZ L.length)/\env.c_ 1=some (.u h.e 0)/\env.c_ 5=some (.u bg 0)/\env.c_ 7=some vK/\i<=L.length/\D.length=i/\bX (L.take i) D/\
  Gn 9 hh h3.e vK L.length ((D++L.drop i).flatMap p_.s)/\(∀(X:List Nat)(h2:a_),(∀y∈X,y<h3.e\/y∈vb vK)->Fr X hh h2->∀q∈D,Q9 h2 q)/\n=L.length-i) L.length oM ?_ ?_
 exact⟨a7,(F2.c F3).c F4,F4,VZ _,0,[],iS,iS,iS,iS,iS,oM,rfl,trivial,by simpa using gk,iS,rfl⟩;rintro n env hh ⟨F,aR,a5,bC,i,D,a0,a1,g1,g5,g7,hi,dl,ds,af,dst,rfl⟩;by_cases ba:i<L.length;have ax:(i:Int)<L.length:=oM;obtain⟨q,hq⟩:∃q,L[i]? =some q:=⟨_,Wf ba⟩;have bf:=hL q (Wc hq);obtain⟨_,⟨z,_⟩|⟨bp,bh,rfl,aT⟩⟩:=af;omega;have fl:∀M:List p_,(M.flatMap p_.s).length=M.length*9:=aC cS;have dc:(D.flatMap p_.s).length=i*9:=by rw[fl,dl]
 have eL:(D++L.drop i).flatMap p_.s=D.flatMap p_.s++(q.s++(L.drop (i+1)).flatMap p_.s):=by rw[aL hq];simp
 rw[eL]at aT;have ix:=lK 9 bp 0 L.length 9 .i64 (i:Int) oM ax;simp at ix;have lc:aj hh bp (i*9) 6=some q.part:=by rw[aT.N,bQ,<-dc,Ye];rfl
 have hb:=a9 bp (by simp[vb]);simp only[b_,seval,a0,a1,g7,ax,ix,lc];apply aa (yR (pcs q.sub) hh F.o (bf.fr F));rintro _ h7 ⟨aJ,ay,bk,rfl,sm,F7,a6⟩;have on:aw [ZY (q.k:Int),.f q.tg,.f q.ky,aJ,.f q.tx,ay]=true:=PH.ones (a6 [] h7 iS (Wl F7.o));simp only[b_,seval,g7,ix];have eC:bG (D.flatMap p_.s++(q.s++(L.drop (i+1)).flatMap p_.s)) (i*9) [ZY (q.k:Int),.f q.tg,.f q.ky,aJ,.f q.tx,ay]=some ((D++[(⟨q.k,q.tg,q.ky,q.sl,q.tx,aJ,ay,bk,q.P,q.Y,q.pool⟩:p_)]++L.drop (i+1)).flatMap p_.s):=by
  rw[cD _ _ _ (by rw[Wq,dc,Wq,cS];simp only[Wv,XM];omega)];congr 1;have q1:(D.flatMap p_.s++(q.s++(L.drop (i+1)).flatMap p_.s)).take (i*9)=D.flatMap p_.s:=by grind
  have q2:(D.flatMap p_.s++(q.s++(L.drop (i+1)).flatMap p_.s)).drop (i*9+6)=[ZZ q.P,.h q.Y,ZZ q.pool]++(L.drop (i+1)).flatMap p_.s:=by rw[<-dc,Xm];rfl
  show _++_++(D.flatMap p_.s++(q.s++(L.drop (i+1)).flatMap p_.s)).drop (i*9+6)=_;rw[q1,q2];simp[p_.s,p_.part]
 refine ai F7.o (F7.i aT) rfl on eC ?_;rintro h8 o8 F8 n8;have cc:=F7.e;have bt:=F4.e;simp(disch:=omega) only[b_,seval,ag,a0];refine s_ ⟨L.length-(i+1),oM,(F.c F7).z F8 w ?_,(aR.c F7).z F8 Z.o ?_,(a5.c F7).z F8 F3.o oM,oM,i+1,_,iS,iX,iX,iX,iX,oM,?_,?_,⟨?_,.inr ⟨bp,bh,rfl,o8⟩⟩,?_,rfl⟩;have:=aH.e;omega;have:=F2.e;have:=F3.e;omega;simp[dl];rw[Wn,hq];exact tf ds ⟨⟨rfl,rfl,rfl,rfl,rfl,rfl,rfl,rfl,sm⟩,trivial⟩;grind;intro X h9 hX f9 p hp;have a3:Fr ([bp]++X) h7 h9:=Wp F8 f9 F7.o (fun y hy=>.inl (by simp at hy;simp[hy])) (fun y hy=>.inl iX);have bA:Fr ([bp]++X) hh h9:=Wp F7 a3 F.o iS (fun y hy=>.inl hy);have aN:∀y∈[bp]++X,y<h3.e\/y∈vb (.G bp 0 L.length 9):=by intro y hy;simp at hy;obtain rfl|hy:=hy;exact .inr (by simp[vb]);exact hX y hy
 obtain hp|hp:=Wa.1 hp;grind;simp at hp;subst hp;refine a6 _ h9 (fun y hy=>?_) a3;obtain q|q:=aN y hy;omega;grind;have a8:i=L.length:=oM;subst a8;rw[Wj (VZ _)]at ds;rw[Wo (VZ _),Xg]at af;have ob:=aR.i ac;have l1:ab hh h.e 1=some (ZZ cap):=ob.j 1;simp only[b_,seval,j_,a0,a1,g1,g5,g7,(oM:¬((L.length:Nat):Int)<(L.length:Nat)),l1,aF af.U];apply aa (xX F.o);rintro _ h5 ⟨bm,rfl,bE,km,F5⟩;have bi:ab h5 h.e 1=some (ZZ cap):=(F5.i ob).j 1;simp only[b_,j_];apply aa (Lp F5.o);rintro _ h6 ⟨bl,rfl,bu,lo,ol,F6⟩;have a4:ab h6 h.e 1=some (ZZ cap):=(F6.i (F5.i ob)).j 1;let⟨h9,ar,ae,a2⟩:=aq F6.o [vK,ZZ cap,.u bg 0,.u bm 0,.u bl 0];have n9:=x_ ar;simp only[b_,seval,DF,j_,l1,bi,a4,<-ar];have n1:=x_ an;have bT:=F2.e;have cb:=F3.e;have ca:=F4.e;have cg:=F5.e;have bB:=F6.e;have bn:=g3.lt F3.o;have bv:bm<h5.e:=by obtain⟨o,_⟩|⟨v,sl,t,k,_⟩:=km;exact o.lt F5.o;exact k.ob.lt F5.o
 have bz:=ol.lt F6.o;have ak:=(F5.c F6).c ae;refine⟨h6.e,bg,bm,bl,vK,D,rfl,F.c ak,ds,a2,?_,(km.fr F6).fr ae,?_,oM,oM,oM,oM,oM,(aR.c ak).i ac,fun X az hX bj=>?_⟩;exact(a5.c ak).i g3;let⟨p,vk,pm,o,x⟩:=lo;have e:=o.uniq ol;cases pm with
 |none=>exact Q4.fr ⟨p,vk,o,x⟩ ae
 |some q=>simp[pv]at e
 have f:Fr X hh az:=Wp ak bj F.o iS (fun y hy=>.inl hy);have aN:∀y∈X,y<h3.e\/hh.e<=y:=fun y hy=>by grind
 refine⟨?_,dst _ az (fun y hy=>?_) (f.old F.o)⟩;have:=(af.frH F.o f aN).sl;show Sl az 9 vK D.length _;rw[dl];exact this;grind
def m?(h:a_)(b:Nat)(ks:List Nat):Prop:=∃es c,h.S.c_ b=some (.f es c)/\es.map (·.1)=ks.map (fun k:Nat=>ZX (k:Int))/\∀e∈es,e.2.1=.h true
theorem nX(k:Nat):∀(es:List (V×V×Nat))(ks:List Nat)(i:Nat),es.map (·.1)=ks.map (fun k:Nat=>V.A .u64 (k:Int))→(∀e∈es,e.2.1=.h true)→
 (k∈ks→∃j,gz none (.A .u64 (k:Int)) es i=some (some (j,.h true)))∧(k∉ks→gz none (.A .u64 (k:Int)) es i=some none)
 |[],[],_,_,_=>⟨by simp,fun _=>rfl⟩
 |[],_::_,_,e,_=>by simp at e
 |_::_,[],_,e,_=>by simp at e
 |(k',v,n)::es,q::ks,i,e,t=>by
  simp only[List.map_cons,List.cons.injEq]at e;let⟨e1,e2⟩:=e;have tv:v=.h true:=t (k',v,n) (by simp);subst e1 tv;have ih:=nX k es ks (i+1) e2 (fun x hx=>t x (by simp[hx]));have ek:tR none (.A .u64 (k:Int)) (.A .u64 (q:Int))=some (decide (k=q)):=by simp only[tR,bR,cond_true,ew];congr 1;by_cases c:k=q;simp[c];simp[c];omega
  by_cases c:k=q;refine⟨fun _=>⟨i,?_⟩,fun m=>absurd (by simp[c]) m⟩;simp only[gz];rw[ek,decide_eq_true c];refine⟨fun m=>?_,fun m=>?_⟩;let⟨j,hj⟩:=ih.1 (by simpa[c]using m);exact⟨j,by simp only[gz];rw[ek,decide_eq_false c];exact hj⟩;simp only[gz];rw[ek,decide_eq_false c];exact ih.2 (fun m'=>m (by simp[m']))
theorem m?.c{h:a_}{b:Nat}(s:m? h b ks)(w:WF h):b<h.e:=by let⟨Z,c,e,_⟩:=s;obtain q|q:=WY b h.e;exact q;rw[(w b q).1]at e;cases e
theorem LF{call:aI}{h:a_}(K:V->a_->Prop):OQ (aU call loc env h (.s [])) K↔K (.map h.e) (m9 h):=by show OQ (some (V.map h.e,m9 h)) K↔_;exact cF _ _ _
def LkQ(h:a_)(ks:Option (List Nat))(zero:V)(ok:Bool)(o:Option (List V))(K:V->a_->Prop):Prop:=∃x k,o=some [x,k]/\VQ (alk h ks zero ok x k) K h
theorem uT{h:a_}(ks:Option (List Nat))(zero:V)(ok:Bool)(x k:V)(K:V->a_->Prop):LkQ h ks zero ok (some [x,k]) K↔VQ (alk h ks zero ok x k) K h:=
 ⟨fun⟨_,_,e,q⟩=>by cases e;exact q,fun q=>⟨x,k,rfl,q⟩⟩
theorem Ht{call:aI}{h:a_}(ks:Option (List Nat))(zero:V)(ok:Bool)(x y:H_)(K:V->a_->Prop):OQ (aU call loc env h (.o ks zero ok [x,y])) K↔LkQ h ks zero ok (eg loc env [x,y]) K:=by
 simp[aU,OQ,LkQ,VQ,fP,cW];cases E_ loc env x with
 |none=>simp[lh]
 |some a=>
  cases E_ loc env y with
  |none=>simp[lh]
  |some b=>
   simp only[lh];cases e:alk h ks zero ok a b with
   |none=>simp[e]
   |some v=>refine⟨fun⟨_,_,q,k⟩=>?_,fun⟨_,_,q,u,q2,k⟩=>?_⟩;grind;grind
def MuQ(h:a_)(ks:Option (List Nat))(o:Option (List V))(K:V->a_->Prop):Prop:=∃x k v,o=some [x,k,v]/\OQ (amu h ks x k v) K
theorem AT{h:a_}(ks:Option (List Nat))(x k v:V)(K:V->a_->Prop):MuQ h ks (some [x,k,v]) K↔OQ (amu h ks x k v) K:=
 ⟨fun⟨_,_,_,e,q⟩=>by cases e;exact q,fun q=>⟨x,k,v,rfl,q⟩⟩
theorem LE{call:aI}{h:a_}(ks:Option (List Nat))(x y z:H_)(K:V->a_->Prop):OQ (aU call loc env h (.z ks [x,y,z])) K↔MuQ h ks (eg loc env [x,y,z]) K:=by
 simp[aU,OQ,MuQ,fP,cW];cases E_ loc env x with
 |none=>simp[lh]
 |some a=>
  cases E_ loc env y with
  |none=>simp[lh]
  |some b=>
   cases E_ loc env z with
   |none=>simp[lh]
   |some c=>simp only[lh];exact⟨fun q=>⟨a,b,c,rfl,q⟩,fun⟨_,_,_,e,q⟩=>by cases e;exact q⟩
theorem xR{h:a_}{b k:Nat}(s:m? h b ks):alk h none (.h false) false (.map b) (ZX (k:Int))=some (.h (decide (k∈ks))):=by let⟨Z,c,e,e1,K⟩:=s;have m:=nX k Z ks 0 e1 K;simp only[alk,BH,e,show ny none (ZX (k:Int))=true from rfl,cond_true];by_cases q:k∈ks;grind;rw[m.2 q];simp[q]
theorem m?.a{h:a_}{b:Nat}(s:m? h b ks)(f:Fr [] h h'):m? h' b ks:=by let⟨Z,c,e,x⟩:=s;exact⟨Z,c,f.lp _ _ rfl e,x⟩
theorem CK{h:a_}{b k:Nat}(w:WF h)(s:m? h b ks)(hk:k∉ks){K:V->a_->Prop}(q:∀h',m? h' b (ks++[k])->V5 [] b h h'->h'.e=h.e->K (.D []) h'):OQ (amu h none (.map b) (ZX (k:Int)) (.h true)) K:=by let⟨Z,c,e,e1,e2⟩:=s;have m:=nX k Z ks 0 e1 e2;refine⟨.D [],kD h b (Z++[(ZX (k:Int),.h true,c)]) (c+1),?_,q _ ⟨_,_,WI _ _ _,by simp[e1],fun x hx=>?_⟩ (V5.l w e rfl _) rfl⟩;simp[amu,e,show ny none (ZX (k:Int))=true from rfl,m.2 hk];grind
def W2(h:a_)(b:Nat)(Ks:List p_)(cap:Int):Prop:=∃vK c2 c3 c4,e_ h b [vK,ZZ cap,c2,c3,c4]/\q_ p_.s 9 h vK Ks/\∀q∈Ks,Q9 h q
theorem W2.fr{h:a_}{b:Nat}{Ks:List p_}(r:W2 h b Ks cap)(f:Fr [] h h'):W2 h' b Ks cap:=by let⟨Z,c2,c3,c4,o,r,k⟩:=r;exact⟨Z,c2,c3,c4,f.i o,Xn r f,fun q m=>(k q m).fr f⟩
def cG(Ks:List p_)(cap:Int)(x:m_):Int:=match Ks[x.K]? with
 |some q=>fL q.k q.tg q.ky q.sl q.tx q.sub x cap
 |none=>0
def h?(N:Nat)(h':a_)(Ks:List p_)(x:m_)(cs:List V):Prop:=∃q s va vc,Ks[x.K]? =some q/\cs=[ZY 1,.f q.tg,.f q.ky,va,.f [],vc]/\(∀(X:List Nat)(h2:a_),(∀y∈X,y<N)->Fr X h' h2->NH h2 (.z_ 1 q.tg q.ky (q.sl.map (N_ x)) [] va vc s .D_))/\
 s.sh=bZ x q.sub/\ST.V2 1 q.tg q.ky (q.sl.map (N_ x)) [] (bZ x q.sub)≠0
theorem qU{k:Nat}{tg ky tx:g_}{sl:List Q3}{sub:PT}{x:m_}{Z:Int}(e:fL k tg ky sl tx sub x Z=0):ST.V2 1 tg ky (sl.map (N_ x)) [] (bZ x sub)≠0:=by intro z;unfold fL at e;split at e;cases e;omega
theorem yY{h:a_}{b:Nat}{Ks:List p_}{x:m_}(w:WF h)(r:W2 h b Ks cap)(a:u_ h x)(ht:x.K<Ks.length):
 ao go 52 [.u b 0,.B x.s] h fun u h'=>∃cs,u=.D [.B cs,ZZ (cG Ks cap x)]/\Fr [] h h'/\aw cs=true/\cs.length=6/\(cG Ks cap x=0->h? h.e h' Ks x cs):=by
 let⟨vK,c2,c3,c4,o,rk,kh⟩:=r;let⟨h1,ac,af,ak⟩:=aq w x.s;let⟨h2,ae,Z,an⟩:=aq af.o [ZY 0,.f [],.f [],.r,.f [],.r];have n1:=x_ ac;have K:=af.c Z;have ob:=K.i o;have ox:=Z.i ak;have l0:ab h2 b 0=some vK:=ob.j 0;have l1:ab h2 b 1=some (ZZ cap):=ob.j 1;have x1:ab h2 h.e 1=some (ZY (x.K:Int)):=ox.j 1;have x4:aj h2 h.e 0 4=some x.s:=by rw[ox.N];rfl
 let⟨bk,ok',q,p1,p2,p3,p4⟩:=(Xn rk K).ix cS .u8 (x.K:Int) oM oM;rw[pi]at p4;have hq:=kh q (Wc p4);have er:cG Ks cap x=fL q.k q.tg q.ky q.sl q.tx q.sub x cap:=by simp[cG,p4]
 have p6:aj h2 bk ok' 6=some q.part:=by
  let⟨b',o',e1,_,g2⟩:=Sl.ix (Xn rk K) .u8 (x.K:Int) oM oM;rw[p1]at e1;cases e1;simp[aj]at p3|-;cases cc:dR h2 bk with
  |none=>rw[cc]at p3;cases p3
  |some C=>
   rw[cc]at p3;simp[bQ]at p3|-;have hl:9<=(C.drop ok').length:=by
    obtain z|z:=WY (C.drop ok').length 9;exfalso;have tk:∀(n:Nat)(l:List V),l.length<n->dG n l=none:=by
     intro n;induction n with
     |zero=>intro l hl;omega
     |succ n ih=>
      intro l hl;cases l with
      |nil=>rfl
      |cons a l=>rw[fU,ih l (eV hl)];rfl
    rw[tk 9 _ z]at p3;cases p3;exact z
   rw[bN _ _ hl]at p3;rw[bN _ _ oM];have ax:=Xl p3;have:(C.drop ok').take 6=((C.drop ok').take 9).take 6:=by grind
   rw[this,ax];rfl
 refine ah ?_;simp[b_,j_,<-ac,<-ae,l0,x1,p1,p6,x4,l1];refine aa (v7 (vs:=q.vs) (vp:=q.vp) Z.o (hq.fr K) (a.fr K)) ?_;rintro _ h3 ⟨cs,rfl,F3,z1,z2⟩;have on:aw cs=true/\cs.length=6:=by by_cases z:fL q.k q.tg q.ky q.sl q.tx q.sub x cap=0;obtain⟨s,va,vc,rfl,n,_⟩:=z2 z;exact⟨NH.ones (n [] h3 iS (Wl F3.o)),rfl⟩;rw[z1 z];exact⟨rfl,rfl⟩
 have ar:=F3.i an;simp[b_,j_];refine ai (c':=cs) F3.o ar on.2 on.1 (by
  rw[cD _ _ _ (by show 0+cs.length<=6;omega)];simp[V.s];omega) ?_
 rintro h4 o4 F4 n4;have l4:aj h4 h1.e 0 6=some cs:=by rw[o4.N,fY,bN _ _ oM,Wj oM]
 simp only[b_,seval,DF,j_,l0,x1,p6,x4,l1,l4];refine⟨cs,by rw[er],(K.c F3).z F4 w oM,on.1,on.2,fun z=>?_⟩;rw[er]at z;let⟨s,va,vc,e,n,es⟩:=z2 z;refine⟨q,s,va,vc,p4,e,fun X hh hX f=>n ([h1.e]++X) hh (fun y m=>?_) (Wp F4 f F3.o (fun y m=>.inl (Wa.2 (.inl m))) (fun y m=>.inl (Wa.2 (.inr m)))),es,qU z⟩;have:=Z.e;have n2:=x_ ae;obtain m|m:=Wa.1 m;simp at m;omega;grind
theorem A8{h:a_}{b:Nat}{Ks:List p_}{x:m_}(w:WF h)(r:W2 h b Ks cap)(a:u_ h x)(ht:x.K<Ks.length):
 ao go 52 [.u b 0,.B x.s] h fun u h'=>∃cs,u=.D [.B cs,ZZ (cG Ks cap x)]/\Fr [] h h'/\aw cs=true/\cs.length=6:=by
 apply ZW (yY w r a ht);rintro _ h' ⟨cs,e,f,o,l,_⟩;exact⟨cs,e,f,o,l⟩
def Jg(h0:a_)(g:Nat)(caps:List V)(p:Nat->Bool):Prop:=g<1099511627776/\∀(h:a_)(k:Nat),Fr [] h0 h->k<18446744073709551616->ao go g (ZX (k:Int)::caps) h fun u h'=>u=.h (p k)/\Fr [] h h'
def pF(Ks:List p_)(cap:Int)(p:Nat->Bool):List Nat->List m_->Int
 |_,[]=>0
 |seen,x::r=>if Q2 x Ks.length=false then 6 else if x.J∈seen\/p x.J=true then 8 else if cG Ks cap x≠0 then cG Ks cap x else pF Ks cap p (seen++[x.J]) r
theorem zV{h:a_}{b g:Nat}{Ks:List p_}{v:V}{ac:List V}{p:Nat->Bool}(w:WF h)(r:W2 h b Ks cap)(hK:Ks.length<=8)(sl:C_ m_.s 4 h v X)(hX:∀x∈X,u_ h x)(hn:X.length<=4096)(Th:Jg h g ac p):
 ao go 110 [.u b 0,v,.E (.func g) [] ac] h fun u h'=>u=ZZ (pF Ks cap p [] X)/\Fr [] h h':=by
 obtain⟨h1,Z⟩:∃h1,h1=m9 h:=⟨_,rfl⟩;have aT:Fr [] h h1:=Z▸Fr.hnew w _;have s1:m? h1 h.e []:=⟨[],0,by rw[Z];exact ua _ _,rfl,iS⟩;refine ah ?_;simp[b_,LF,<-Z,sl.t_];refine aA (fun n env hh=>Fr [] h hh/\∃(i:Nat)(seen:List Nat),env.c_ 16=some (ZZ i)/\env.c_ 15=some (ZZ X.length)/\env.c_ 14=some v/\env.c_ 0=some (.u b 0)/\env.c_ 2=some (.E (.func g) [] ac)/\env.c_ 7=some (.map h.e)/\
  i<=X.length/\m? hh h.e seen/\pF Ks cap p seen (X.drop i)=pF Ks cap p [] X/\n=X.length-i) X.length oM ?_ ?_
 ·exact⟨aT,0,[],iS,iS,iS,iS,iS,iS,oM,s1,rfl,rfl⟩
 ·rintro n env hh ⟨F,i,seen,ay,aN,a5,g0,g2,g7,hi,S,e,rfl⟩;by_cases a6:i<X.length
  ·have ae:(i:Int)<X.length:=oM
   let⟨bi,oi,x,p1,_,p3,p4⟩:=(sl.fr F).ix (f:=m_.s) (k:=4) (fun _=>rfl) .i64 (i:Int) oM ae;rw[pi]at p4;have a:=hX x (Wc p4);rw[aL p4]at e;simp only[pF]at e;let⟨h3,aR,ak,aJ⟩:=aq F.o [ZX 0,ZY 0,.f [],.r];simp only[b_,seval,ay,aN,a5,ae,p1,p3,<-aR];refine ai (c':=x.s) ak.o aJ rfl a.U rfl ?_;rintro h4 o4 F4 n4;have ax:Fr [] hh h4:=ak.z F4 F.o (VZ _);have F0:=F.c ax;let⟨vK,c2,c3,c4,ob,rk,kh⟩:=r.fr F0;have x4:aj h4 hh.e 0 4=some x.s:=by rw[o4.N];rfl
   have l0:ab h4 b 0=some vK:=ob.j 0;simp only[b_,seval,j_,g0,x4,l0,(ZU rk)];refine aa (uC ax.o (a.fr F0) oM) ?_;rintro _ h5 ⟨rfl,F5⟩;cases c1:Q2 x Ks.length
   ·rw[c1,if_pos rfl]at e;simp only[b_,seval,DF,j_,x4,l0];exact⟨by rw[<-e],F0.c F5⟩
   rw[c1,if_neg iS]at e;have ar:=F0.c F5;have o5:=F5.i o4;have k0:ab h5 hh.e 0=some (ZX (x.J:Int)):=o5.j 0;have S5:=(S.a ax).a F5;by_cases c2:x.J∈seen
   ·rw[if_pos (.inl c2)]at e;simp only[b_,seval,DF,j_,g7,x4,l0,k0,Ht,uT,xR S5,c2];exact⟨by rw[<-e],ar⟩
   simp only[b_,seval,DF,j_,g2,g7,x4,l0,k0,Ht,uT,xR S5,c2,Th.1];refine aa (Th.2 h5 x.J ar a.k) ?_;rintro _ h6 ⟨rfl,F6⟩;have aH:=ar.c F6;have o6:=F6.i o5;have a4:ab h6 hh.e 0=some (ZX (x.J:Int)):=o6.j 0;cases c3:p x.J
   ·rw[if_neg iX]at e;simp only[b_,seval,g7,a4,LE,AT];refine CK F6.o (S5.a F6) c2 ?_;intro h7 S7 B7 n7;have K:Fr [] h h7:=V5.j w aH B7 iS (VZ _);have o7:=B7.d _ _ iS o6;have x7:aj h7 hh.e 0 4=some x.s:=by rw[o7.N];rfl
    have ht:x.K<Ks.length:=by
     simp only[Q2,VY,decide_eq_true_eq]at c1;exact c1.2.1
    simp only[b_,seval,g0,x7];refine aa (A8 K.o (r.fr K) (a.fr K) ht) ?_;rintro _ h8 ⟨cs,rfl,F8,on,cl⟩;let⟨h9,az,an,a0⟩:=aq F8.o [ZY 0,.f [],.f [],.r,.f [],.r];simp only[b_,<-az];refine ai (c':=cs) an.o a0 cl on (by
     rw[cD _ _ _ (by show 0+cs.length<=6;omega)];simp[V.s];omega) ?_
    rintro a3 a8 a2 a7;have a1:Fr [] h7 a3:=(F8.c an).z a2 K.o (by have:=F8.e;omega);have af:=K.c a1;by_cases c4:cG Ks cap x=0
    ·rw[if_neg iX]at e;simp(disch:=omega) only[b_,seval,ag,ay,c4];refine s_ ⟨X.length-(i+1),oM,af,i+1,seen++[x.J],iS,iX,iX,iX,iX,iX,oM,S7.a a1,e,rfl⟩
     done
    ·rw[if_pos c4]at e;simp only[b_,seval,c4];exact⟨by rw[<-e],af⟩
   ·rw[if_pos (.inr c3)]at e;simp only[b_,seval];exact⟨by rw[<-e],aH⟩
  ·simp only[b_,seval,ay,aN,(oM:¬(i:Int)<X.length)];rw[Wo oM]at e;exact⟨by rw[<-e];rfl,F⟩
open Go.Ev.St
theorem dP(x:m_):x.s.length=4:=rfl
theorem BB{i:Nat}{x:m_}(h:X[i]? =some x):((X.flatMap m_.s).drop (i*4)).take 4=x.s:=by rw[ef dP,aL h];rfl
def O_(h:a_)(B:Nat):Prop:=∃c,e_ h B c/\c.length≠6/\∀L:List (Int×Int),0<L.length->c≠L.flatMap sp
theorem O_.fr{h:a_}{B:Nat}{S:List Nat}(g:O_ h B)(f:Fr S h h')(Z:B∉S):O_ h' B:=by let⟨c,o,x⟩:=g;exact⟨c,f.I _ _ Z o,x⟩
theorem Km.good{h:a_}{b S c:Nat}{m:Nat->Option Nat}(k:Km h b S m c){key x:Nat}(Z:m key=some x):O_ h S:=by
 obtain⟨_,_,z⟩|⟨v,sl,t,k,_⟩:=k;grind;have n8:=k.n8;have K:=qY sl;refine⟨_,k.tb.2,oM,?_⟩;intro L p e;cases sl with
 |nil=>simp at n8
 |cons s r=>
  cases L with
  |nil=>simp at p
  |cons q L=>rw[WH,WH]at e;simp[sc,sp]at e
abbrev dN:=(Nat->Option Nat)×Nat
def xM(mc:dN)(key i:Nat):dN:=(gy mc.1 key i,if(mc.1 key).isSome=true then mc.2 else mc.2+1)
def iF(mc:dN):List m_->Nat->dN
 |[],_=>mc
 |x::r,i=>iF (xM mc x.J i) r (i+1)
theorem KD{h:a_}{b B S i:Nat}{vc vl:V}{mc:dN}(w:WF h)(ob:e_ h b [vK,vc,.u bg 0,.u bm 0,vl])(g:Gp h bg B X.length (X.flatMap m_.s))(k:Km h bm S mc.1 mc.2)
 (hX:∀x∈X,0<x.J/\x.J<18446744073709551616) (hi:i<=X.length) (hc:mc.2+X.length<=4096) (d1:b≠bm) (d2:b≠S) (d3:bg≠bm) (d4:bg≠S) (d5:B≠bm) (d6:B≠S) (lt:B<h.e) (gS:O_ h S):
 ao go 116 [.u b 0,ZZ (i:Int)] h fun u h'=>u=.D []/\∃S',(S'=S\/h.e<=S')/\Km h' bm S' (iF mc (X.drop i) i).1 (iF mc (X.drop i) i).2/\Fr [bm,S] h h'/\O_ h' S':=by
 have hn:=g.u.2.1;have blt:=ob.lt w;have aJ:bg<h.e:=by let⟨v,c1,G,c2,a,gg,m,k,_⟩:=g;exact k.c.lt w
 refine ah ?_;simp only[b_];refine aA (fun n env hh=>∃(j S':Nat)(Z:dN),(S'=S\/h.e<=S')/\Km hh bm S' Z.1 Z.2/\Fr [bm,S] h hh/\O_ hh S'/\env.c_ 0=some (.u b 0)/\env.c_ 1=some (ZZ (j:Int))/\j<=X.length/\
  iF Z (X.drop j) j=iF mc (X.drop i) i/\Z.2+(X.length-j)<=4096/\n=X.length-j) (X.length-i) oM ?_ ?_
 exact⟨i,S,mc,.inl rfl,k,Wl w,gS,iS,iS,hi,rfl,oM,oM⟩;rintro n env hh ⟨j,S',Z,hS,km,F,gd,g0,g1,hj,e,aH,rfl⟩;have e1:S'≠b:=oM;have an:=F.I b _ (by simp;exact⟨d1,d2⟩) ob;have af:=g.l F (by simp;exact⟨d3,d4⟩) (by simp;exact⟨d5,d6⟩);have l2:ab hh b 2=some (.u bg 0):=an.j 2;simp only[b_,g0,l2];refine aa (Ad af) ?_;rintro _ _ ⟨rfl,rfl⟩;by_cases ar:j<X.length;obtain⟨x,hx⟩:∃x,X[j]? =some x:=⟨_,Wf ar⟩;have xk:=hX x (Wc hx);simp only[b_,seval,g0,g1,l2,(oM:(j:Int)<(X.length:Nat))];let⟨v,c1,G,c2,a,gg,m,gt,el,en⟩:=af;refine aa (Ia F.o gt (i:=j) oM) ?_;rintro _ h4 ⟨F4,rfl⟩;rw[<-el,BB hx];let⟨h5,ae,K,ak⟩:=aq F4.o [ZX 0,ZY 0,.f [],.r];simp only[b_,seval,<-ae];have on:aw x.s=true:=by rw[<-BB hx];exact eY 4 (dY _ g.u.2.2)
 refine ai (c':=x.s) K.o ak rfl on rfl ?_;rintro h6 o6 F6 n6;have Fa:Fr [] hh h6:=(F4.c K).z F6 F.o (by have:=F4.e;omega);have l3:ab h6 b 3=some (.u bm 0):=(Fa.i an).j 3;have x0:ab h6 h4.e 0=some (ZX (x.J:Int)):=o6.j 0;rw[aL hx]at e;simp[iF]at e;simp only[b_,seval,j_,g0,g1,l3,x0];refine aa (xW Fa.o (km.fr Fa) (.inl oM) xk.1 xk.2 oM) ?_;rintro _ h7 ⟨rfl,S2,ax,ac,F7⟩;have az:Fr [bm,S] h h7:=by refine Wp (Wp (T:=[bm,S]) F Fa w (fun y hy=>.inl hy) iS) F7 w (fun y hy=>.inl hy) (fun y hy=>?_);simp at hy;obtain rfl|rfl:=hy;exact .inl iS;grind
 have ay:S2=S\/h.e<=S2:=by obtain rfl|q:=ax;exact hS;exact .inr (Wy (Wy F.e Fa.e) q)
 simp(disch:=omega) only[b_,seval,DF,ag,g1,l3,x0];refine s_ ⟨X.length-(j+1),oM,j+1,S2,xM Z x.J j,ay,ac,az,ac.good (key:=x.J) (x:=j) (by simp[gy]),iX,iS,oM,e,?_,rfl⟩;simp[xM];split<;>omega
 simp only[b_,seval,g1,(oM:¬(j:Int)<(X.length:Nat))];rw[Wo oM]at e;simp[iF]at e;refine⟨S',hS,?_,F,gd⟩;rw[<-e];exact km
def aQ(Ks:List p_)(x:m_):Int:=match Ks[x.K]? with
 |some q=>q.P
 |none=>0
def bI(Ks:List p_)(x:m_):Bool:=match Ks[x.K]? with
 |some q=>q.Y
 |none=>false
theorem de{call:aI}{s:n_}{l:List n_}{i:Nat}{h:a_}{v:V}(K:late.contains i=false)(Z:j_ s.a=false)(e:aU call loc env h s.a=some (v,h')):
 Q7 call env late (s::l) i loc h=(Q7 call env late l (i+1) (v::loc) h).map fun r=>((s,none)::r.1,r.2):=by
 simp only[Q7,K,cond_false,ww,Z,e];cases Q7 call env late l (i+1) (v::loc) h<;>rfl
theorem zP{call:aI}{s:n_}{l:List n_}{i:Nat}{h:a_}(K:late.contains i=false)(Z:j_ s.a=true):
 Q7 call env late (s::l) i loc h=(Q7 call env late l (i+1) (.D []::loc) h).map fun r=>((s,none)::r.1,r.2):=by
 simp only[Q7,K,cond_false,ww,Z,cond_true];cases Q7 call env late l (i+1) (V.D []::loc) h<;>rfl
theorem CP{call:aI}{s:n_}{l:List n_}{i:Nat}{h:a_}{c:List V}{k:Option (Nat×Nat)}(Z:late.contains i=true)(e:jI loc env s.a=some (c,k)):
 Q7 call env late (s::l) i loc h=(Q7 call env late l (i+1) (eM h.e k::loc) (h_ h c)).map fun r=>((s,some (eM h.e k,c))::r.1,r.2):=by
 simp only[Q7,Z,cond_true,e];cases Q7 call env late l (i+1) (eM h.e k::loc) (h_ h c)<;>rfl
theorem PC{h:a_}{b8:Nat}{v4 v5:V}{base:Int}{st:Bool}(g4:env.c_ 4=some v4)(g5:env.c_ 5=some v5)(g8:env.c_ 8=some (.u b8 0))(l6:ab h b8 6=some (ZZ base))(l7:ab (h_ h [ZZ base]) b8 7=some (.h st)):
 Q7 go env [3,8] [⟨none,.p .o [.v 4],none⟩,⟨none,.p (.b 6) [.v 8],none⟩,⟨none,.a 1 false (.l 0),none⟩,⟨none,.b [(ZZ 0)] [(0,1)] 1 [.l 0],none⟩,⟨none,.i 1 8 (.l 3) (.l 0),none⟩,⟨none,.p .o [.v 5],none⟩,⟨none,.p (.b 7) [.v 8],none⟩,⟨none,.a 1 false (.l 0),none⟩,⟨none,.b [(.h false)] [(0,1)] 1 [.l 0],none⟩,⟨none,.i 1 1 (.l 3) (.l 0),none⟩,⟨none,.p .o [.l 5],none⟩,⟨none,.p .o [.l 1],none⟩] 0 [] h=
  some ([(⟨none,.p .o [.v 4],none⟩,none),(⟨none,.p (.b 6) [.v 8],none⟩,none),(⟨none,.a 1 false (.l 0),none⟩,none),(⟨none,.b [(ZZ 0)] [(0,1)] 1 [.l 0],none⟩,some (.y h.e 0 1 1,[ZZ base])),(⟨none,.i 1 8 (.l 3) (.l 0),none⟩,none),(⟨none,.p .o [.v 5],none⟩,none),(⟨none,.p (.b 7) [.v 8],none⟩,none),(⟨none,.a 1 false (.l 0),none⟩,none),(⟨none,.b [(.h false)] [(0,1)] 1 [.l 0],none⟩,some (.y (h.e+1) 0 1 1,[.h st])),(⟨none,.i 1 1 (.l 3) (.l 0),none⟩,none),(⟨none,.p .o [.l 5],none⟩,none),(⟨none,.p .o [.l 1],none⟩,none)],
   h_ (h_ h [ZZ base]) [.h st]):=by
 have Z:∀(K:List V)(h:a_)(x:H_)(v:V),E_ K env x=some v->aU go K env h (.p .o [x])=some (v,h):=fun K h x v e=>by simp[aU,fP,cW,e,cC,aP]
 have ac:∀(K:List V)(h:a_)(k:Nat),aU go K env h (.p (.b k) [.v 8])=some (.u b8 k,h):=fun K h k=>by simp[aU,fP,cW,iI,g8,cC,jR]
 have ae:∀(K:List V)(h:a_)(k:Nat)(v:V),ab h b8 k=some v->aU go (.u b8 k::K) env h (.a 1 false (.l 0))=some (v,h):=fun K h k v e=>by simp[aU,nD,bO,fE,e]
 rw[de rfl rfl (Z _ _ _ _ (by rw[iI];exact g4)),de rfl rfl (ac _ _ _),de rfl rfl (ae _ _ _ _ l6)];rw[CP (c:=[ZZ base]) (k:=some (1,1)) rfl rfl,zP rfl rfl,de rfl rfl (Z _ _ _ _ (by rw[iI];exact g5)),de rfl rfl (ac _ _ _),de rfl rfl (ae _ _ _ _ l7)];rw[CP (c:=[.h st]) (k:=some (1,1)) rfl rfl,zP rfl rfl,de (v:=.D []) rfl rfl (Z _ _ _ _ rfl),de (v:=.D []) rfl rfl (Z _ _ _ _ rfl)];rfl
theorem Oe(Z:List V)(env:T V)(n:Nat)(b:Int):ce (ZZ b::Z) env (.b [ZZ 0] [(0,1)] 1 [.l 0]) (.y n 0 1 1) [ZZ b]=true:=by have e:jI (ZZ b::Z) env (.b [ZZ 0] [(0,1)] 1 [.l 0])=some ([ZZ b],some (1,1)):=rfl;simp[ce,e,T2,eM,eK,nL]
theorem Od(Z:List V)(env:T V)(n:Nat)(b:Bool):ce (.h b::Z) env (.b [.h false] [(0,1)] 1 [.l 0]) (.y n 0 1 1) [.h b]=true:=by have e:jI (.h b::Z) env (.b [.h false] [(0,1)] 1 [.l 0])=some ([.h b],some (1,1)):=rfl;simp[ce,e,T2,eM,eK,nL]
theorem AG{h:a_}{b:Nat}{Ks:List p_}{v:V}(w:WF h)(r:W2 h b Ks cap)(sl:C_ m_.s 4 h v X)(hX:∀x∈X,u_ h x/\x.K<Ks.length)(hn:X.length<=4096):
 ao go 119 [.u b 0,v] h fun u h'=>∃v4 v5,u=.D [v4,v5]/\Gs h' h.e 1 v4 (X.map fun x=>ZZ (aQ Ks x))/\Gs h' h.e 1 v5 (X.map fun x=>.h (bI Ks x))/\Fr [] h h':=by
 refine ah ?_;simp[b_,sl.t_];refine aA (fun n env hh=>Fr [] h hh/\∃(i:Nat)(v4 v5:V),env.c_ 11=some (ZZ i)/\env.c_ 10=some (ZZ X.length)/\env.c_ 9=some v/\env.c_ 0=some (.u b 0)/\env.c_ 4=some v4/\env.c_ 5=some v5/\
  i<=X.length/\Gs hh h.e 1 v4 ((X.take i).map fun x=>ZZ (aQ Ks x))/\Gs hh h.e 1 v5 ((X.take i).map fun x=>.h (bI Ks x))/\(∀y∈vb v4,y∉vb v5)/\n=X.length-i) X.length oM ?_ ?_
 exact⟨Wl w,0,.r,.r,iS,iS,iS,iS,iS,iS,oM,.inl ⟨rfl,rfl⟩,.inl ⟨rfl,rfl⟩,by simp[vb],rfl⟩;rintro n env hh ⟨F,i,v4,v5,g11,a2,g9,g0,g4,g5,hi,G4,G5,dj,rfl⟩;by_cases bn:i<X.length;have ak:(i:Int)<X.length:=oM;let⟨bi,oi,x,p1,_,p3,p4⟩:=(sl.fr F).ix (f:=m_.s) (k:=4) (fun _=>rfl) .i64 (i:Int) oM ak;rw[pi]at p4;let⟨a,ht⟩:=hX x (Wc p4);let⟨h3,ay,af,aR⟩:=aq F.o [ZX 0,ZY 0,.f [],.r];simp only[b_,seval,g11,a2,g9,ak,p1,p3,<-ay];refine ai (c':=x.s) af.o aR rfl a.U rfl ?_;rintro h4 o4 F4 n4;have ac:Fr [] hh h4:=af.z F4 F.o (VZ _);have F0:=F.c ac;let⟨vK,c2,c3,c4,ob,rk,kh⟩:=r.fr F0;have l0:ab h4 b 0=some vK:=ob.j 0;have x1:ab h4 hh.e 1=some (ZY (x.K:Int)):=o4.j 1;let⟨bk,ok',q,q1,_,q3,q4⟩:=(YX cS rk .u8 (x.K:Int) oM oM);rw[pi]at q4;have hq:=kh q (Wc q4);have e1:aQ Ks x=q.P:=by simp[aQ,q4]
 have e2:bI Ks x=q.Y:=by simp[bI,q4]
 let⟨h5,a0,Z,a1⟩:=aq ac.o [ZY 0,.f [],.f [],.r,.f [],.r,ZZ 0,.h false,ZZ 0];simp only[b_,seval,j_,g0,l0,x1,q1,q3,<-a0];have a8:ab h5 b 0=some vK:=(Z.i ob).j 0;refine ai (c':=q.s) Z.o a1 rfl hq.ones9 rfl ?_;rintro h6 o6 F6 n6;have K:Fr [] h4 h6:=Z.z F6 ac.o (VZ _);have bA:ab h6 hh.e 1=some (ZY (x.K:Int)):=(K.i o4).j 1;have bm:ab h6 b 0=some vK:=(K.i ob).j 0;have a4:∀h',Fr [] h4 h'->aj h' bk ok' 9=some q.s:=by intro h' f;let⟨b9,o9,_,r1,_,r3,r4⟩:=(YX cS (Xn rk f) .u8 (x.K:Int) oM oM);rw[pi,q4]at r4;cases r4;rw[q1]at r1;cases r1;exact r3
 have q5:=a4 h5 Z;have q6:=a4 h6 K;have x5:ab h5 hh.e 1=some (ZY (x.K:Int)):=(Z.i o4).j 1;simp only[b_,DF,l0,x1,q3,a8,q5,x5];have F7:=WA K.o [ZZ q.P];have o7:=F7.i o6;have F8:=WA F7.o [.h q.Y];have w1:=Xc K.o [ZZ q.P];have w2:=Xc F7.o [.h q.Y];have l6:ab h6 h4.e 6=some (ZZ q.P):=o6.j 6;have l7:ab (h_ h6 [ZZ q.P]) h4.e 7=some (.h q.Y):=o7.j 7;refine(Fv _ _ _ _ _ _).2 ?_;rw[PC (v4:=v4) (v5:=v5) (b8:=h4.e) iX iX iS l6 l7,jT];have o8:=F8.i o7;have ar:ab (h_ (h_ h6 [ZZ q.P]) [.h q.Y]) h4.e 6=some (ZZ q.P):=o8.j 6;have aH:ab (h_ (h_ h6 [ZZ q.P]) [.h q.Y]) h4.e 7=some (.h q.Y):=o8.j 7;have aJ:=F8.i w1;have a3:e_ (h_ (h_ h6 [ZZ q.P]) [.h q.Y]) (h6.e+1) [.h q.Y]:=w2;have an:Fr [] h6 (h_ (h_ h6 [ZZ q.P]) [.h q.Y]):=F7.c F8;have nx:(h_ (h_ h6 [ZZ q.P]) [.h q.Y]).e=h6.e+2:=rfl;generalize h_ (h_ h6 [ZZ q.P]) [.h q.Y]=h8 at ar aH aJ a3 an nx o8|-;simp only[b_,seval,j_,g4,ar,Oe];have ae:Fr [] hh h8:=(ac.c K).c an;have bu:=ae.e;have bt:=K.e;have bv:=F.e;have ax:∀y∈vb v4,y<hh.e:=by obtain⟨rfl,_⟩|⟨b,n,rfl,_,_,_,o⟩:=G4;simp[vb];have:=o.lt F.o;simp only[vb,Wi];rintro y rfl;exact this
 have bf:∀y∈vb v5,y<hh.e:=by obtain⟨rfl,_⟩|⟨b,n,rfl,_,_,_,o⟩:=G5;simp[vb];have:=o.lt F.o;simp only[vb,Wi];rintro y rfl;exact this
 have bB:hh.e<=h4.e:=ac.e;refine Ym (n:=1) an.o (G4.fr ae) (Xy aJ rfl) oM oM rfl oM oO ?_;intro a5 h9 G9 e9 F9;have bz:ab h9 h4.e 6=some (ZZ q.P):=(F9.I _ _ (fun m=>by have:=ax _ m;omega) o8).j 6;have aN:ab h9 h4.e 7=some (.h q.Y):=(F9.I _ _ (fun m=>by have:=ax _ m;omega) o8).j 7;have ba:=F9.I _ _ (fun m=>by have:=ax _ m;omega) a3;have bh:Gs h9 h.e 1 v5 ((X.take i).map fun x=>.h (bI Ks x)):=by obtain⟨rfl,z⟩|⟨b,n,rfl,z1,z2,z3,o⟩:=G5.fr ae;exact .inl ⟨rfl,z⟩;exact .inr ⟨b,n,rfl,z1,z2,z3,F9.I _ _ (fun m=>dj _ m (by simp[vb])) o⟩
 simp only[b_,seval,j_,g5,aN,Od];have bw:=F9.e;refine Ym (n:=1) F9.o bh (Xy ba rfl) oM oM rfl oM oO ?_;intro a9 aT bj bg a6;have a7:Fr [] h aT:=by refine XD w (XD w (F.c ae) F9 (fun y hy=>?_)) a6 (fun y hy=>?_);obtain⟨rfl,_⟩|⟨b,n,rfl,_,_,hb,o⟩:=G4;simp[vb]at hy;simp[vb]at hy;omega;obtain⟨rfl,_⟩|⟨b,n,rfl,_,_,hb,o⟩:=G5;simp[vb]at hy;simp[vb]at hy;omega
 have az:Gs aT h.e 1 a5 ((X.take i).map (fun x=>ZZ (aQ Ks x))++[ZZ q.P]):=by obtain⟨rfl,z⟩|⟨b,n,rfl,z1,z2,z3,o⟩:=G9;exact .inl ⟨rfl,z⟩;refine .inr ⟨b,n,rfl,z1,z2,z3,a6.I _ _ (fun m=>?_) o⟩;have:=bf _ m;simp[vb]at e9;omega
 simp(disch:=omega) only[b_,seval,DF,j_,ag,g11,ar,aH,aN];refine s_ ⟨X.length-(i+1),oM,a7,i+1,a5,a9,iS,iX,iX,iX,iS,iS,oM,?_,?_,?_,rfl⟩;rw[Wn,p4];simpa[e1]using az;rw[Wn,p4];simpa[e2]using bj;have:h8.e<h9.e:=by obtain⟨rfl,_⟩|⟨b,n,rfl,_,_,_,o⟩:=G9;simp[vb]at e9;have:=o.lt F9.o;simp[vb]at e9;omega
 rw[e9,bg];simp;omega;simp only[b_,seval,g11,a2,g4,g5,(oM:¬(i:Int)<X.length)];rw[Wj oM]at G4 G5;exact⟨v4,v5,rfl,G4,G5,F⟩
def Y9(h:a_)(S:List Nat):Prop:=∀b∈S,∀c,e_ h b c->c.length≠6/\∀L:List (Int×Int),0<L.length->c≠L.flatMap sp
theorem At.frS{h:a_}{S:List Nat}(f:Fr S h h')(o:Y9 h S):∀{t:Tr}{p:Option Nat},At h t p->At h' t p
 |.w_,_,a=>a
 |.node l s r,_,⟨q,pl,pr,e,oq,al,ar⟩=>⟨q,pl,pr,e,f.I _ _ (fun m=>(o q m _ oq).1 rfl) oq,At.frS f o al,At.frS f o ar⟩
theorem Q4.frS{h:a_}{b:Nat}{l:List Int}{ks:List Bool}{S:List Nat}(a:Q4 h b pm l ks bs)(f:Fr S h h')(o:Y9 h S)(hb:b∉S)(hp:∀q,pm=some q->q∉S):Q4 h' b pm l ks bs:=by
 let⟨p,vk,ow,v1,⟨p',K,L,e1,⟨t,p2,e2,at',tl,ft⟩,sL,x⟩,mk,e⟩:=a;refine⟨p,vk,f.I _ _ hb ow,v1,⟨p',K,L,e1,⟨t,p2,e2,At.frS f o at',tl,ft⟩,?_,x⟩,?_,e⟩;obtain z|⟨q,e3,Z,lq⟩:=sL;exact .inl z;exact .inr ⟨q,e3,f.I _ _ (fun m=>(o q m _ Z).2 L lq rfl) Z,lq⟩;cases pm with
 |none=>exact mk
 |some q=>let⟨ws,Z,y⟩:=mk;exact⟨ws,f.I _ _ (hp q rfl) Z,y⟩
theorem Bt{c:List V}(n:V_ c):∀L:List (Int×Int),0<L.length->c≠L.flatMap sp:=by
 intro L p e;cases L with
 |nil=>simp at p
 |cons s L=>exact n (ZZ s.1) (by rw[e];simp[sp]) _ rfl
open Go.Ev.St
theorem Km.frS{h:a_}{b S c:Nat}{m:Nat->Option Nat}{X:List Nat}(k:Km h b S m c)(f:Fr X h h')(Z:b∉X)(hS:S∉X):Km h' b S m c:=by obtain⟨o,x⟩|⟨v,sl,t,k,x⟩:=k;exact .inl ⟨f.I _ _ Z o,x⟩;exact .inr ⟨v,sl,t,{k with ob:=f.I _ _ Z k.ob,tb:=⟨k.tb.1,f.I _ _ hS k.tb.2⟩},x⟩
theorem Km.lt{h:a_}{b S c:Nat}{m:Nat->Option Nat}(k:Km h b S m c)(w:WF h):b<h.e:=by obtain⟨o,x⟩|⟨v,sl,t,k,x⟩:=k;exact o.lt w;exact k.ob.lt w
theorem j4{c:List V}{n:Nat}(h:c.length=2*n+1):∀L:List (Int×Int),0<L.length->c≠L.flatMap sp:=by rintro L _ rfl;have:=aC eS L;omega
theorem Y9.X0{h:a_}{A B:List Nat}(a:Y9 h A)(b:Y9 h B):Y9 h (A++B):=fun x m=>(Wa.1 m).elim (a x) (b x)
theorem Y9.I{h:a_}{b:Nat}{c:List V}(o:e_ h b c)(h6:c.length≠6)(Z:∀L:List (Int×Int),0<L.length->c≠L.flatMap sp):Y9 h [b]:=by intro x m c' K;simp at m;subst m;rw[K.uniq o];exact⟨h6,Z⟩
theorem Gp.g{h:a_}{b B n:Nat}{l:List V}(w:WF h)(g:Gp h b B n l)(Z:B<h.e->e_ h B []\/∀c,e_ h B c->c.length%4=0/\V_ c):Y9 h [b,B]:=by
 let⟨v,c1,G,c2,a,gg,m,k,_⟩:=g;intro x mx c o;simp at mx;obtain rfl|rfl:=mx;rw[o.uniq k.c];exact⟨iS,j4 (n:=1) rfl⟩;obtain e|e:=Z (o.lt w);rw[o.uniq e];exact⟨iS,fun L p q=>by cases L with|nil=>simp at p|cons s L=>simp[sp]at q⟩
 let⟨e1,K⟩:=e c o;exact⟨oM,Bt K⟩
theorem O_.oth{h:a_}{B:Nat}(g:O_ h B):Y9 h [B]:=by let⟨c,o,a,b⟩:=g;exact Y9.I o a b
theorem Gp.a{h:a_}{b B n:Nat}{l:List V}(g:Gp h b B n l)(h0:0<n):O_ h B:=by obtain⟨v,c1,G,c2,a,K,m,k,_,rfl⟩:=g;obtain⟨Z,⟨_,z⟩|⟨_,o⟩⟩:=k.d;omega;exact⟨_,o,oM,Bt k.o⟩
theorem Gp.c{h:a_}{b B n:Nat}{l:List V}(g:Gp h b B n l):O_ h b/\B≠b:=by obtain⟨v,c1,G,c2,a,Z,m,k,_,rfl⟩:=g;exact⟨⟨_,k.c,iS,j4 (n:=1) rfl⟩,k.i⟩
structure Dis(b bg B bm S bl:Nat)(pm:Option Nat):Prop where
 m:b≠bg
 i:b≠B
 n:b≠bm
 o:b≠S
 r:b≠bl
 j:bg≠bm
 e:bg≠S
 f:bg≠bl
 d:B≠bm
 a:B≠S
 c:B≠bl
 k:bm≠bl
 g:S≠bl
 p:∀q,pm=some q->q≠b/\q≠bg/\q≠B/\q≠bm/\q≠S/\q≠bl
def Wr(b bg B bm S bl:Nat)(pm:Option Nat):List Nat:=[b,bg,B,bm,S,bl]++pm.toList
abbrev NL:=Nat×Option Nat
def Lx(n:NL)(z:Nat):Prop:=z<n.1\/n.2=some z
theorem Lx.a{n z:Nat}(h:Lx (n,none) z):z<n:=h.elim id fun e=>by cases e
structure L_(n0:NL)(h:a_)(b:Nat)(Ks:List p_)(cap:Int)(X:List m_)(l:List Int)(kn st:List Bool)(vK:V)(bg B bm S bl:Nat)(pm:Option Nat)(mc:dN):Prop where
 ob:e_ h b [vK,ZZ cap,.u bg 0,.u bm 0,.u bl 0]
 g:Gp h bg B X.length (X.flatMap m_.s)
 gB:O_ h B
 k:Km h bm S mc.1 mc.2
 gS:O_ h S
 lo:Q4 h bl pm l kn st
 t_:l.length=X.length
 rd:∀(Z:List Nat)(h':a_),(∀z∈Z,z∈Wr b bg B bm S bl pm\/h.e<=z\/Lx n0 z)->Fr Z h h'->q_ p_.s 9 h' vK Ks/\(∀q∈Ks,Q9 h' q)/\∀x∈X,u_ h' x
 d:Dis b bg B bm S bl pm
 Sl':S<h.e
 pl:∀q,pm=some q->q<h.e
 bl':bl<h.e
 n0l:∀z,Lx n0 z->z<h.e
theorem Sl.noint{h:a_}{e:Nat}{v:V}{n:Nat}(a:Sl h e v n cs)(k:IntKind)(i:Int):v≠.A k i:=by rintro rfl;exact a.2.elim
theorem ip(x:m_)(v:V):(x.I v).s=[ZX (x.J:Int),ZY (x.K:Int),.f x.X,v]:=rfl
theorem Km.bmgood{h:a_}{b S c:Nat}{m:Nat->Option Nat}(k:Km h b S m c):O_ h b:=by obtain⟨o,x⟩|⟨v,sl,t,k,x⟩:=k;exact⟨_,o,iS,j4 (n:=1) rfl⟩;exact⟨_,k.ob,iS,j4 (n:=1) rfl⟩
theorem O_.lt{h:a_}{b:Nat}(g:O_ h b)(w:WF h):b<h.e:=by let⟨c,o,_⟩:=g;exact o.lt w
theorem Q4.pmlt{h:a_}{b:Nat}{l:List Int}{ks:List Bool}(a:Q4 h b pm l ks bs)(w:WF h):(∀q,pm=some q->q<h.e)/\b<h.e:=by let⟨p,vk,o,_,_,mk,_⟩:=a;refine⟨?_,o.lt w⟩;rintro q rfl;let⟨K,Z,_⟩:=mk;exact Z.lt w
theorem J8{x:m_}{v:V}(h:∀n:Int,v≠ ZZ n):V_ (x.I v).s:=by intro y m n;rw[ip]at m;simp at m;obtain rfl|rfl|rfl|rfl:=m;simp;simp;simp;exact h n
def X_:List m_->List m_->Prop
 |[],[]=>True
 |x::l,y::m=>(∃v,y=x.I v/\nZ v=true)/\X_ l m
 |_,_=>False
theorem X_.t_:∀{a b:List m_},X_ a b->a.length=b.length
 |[],[],_=>rfl
 |_::_,_::_,h=>by simp[X_.t_ h.2]
 |[],_::_,h=>h.elim
 |_::_,[],h=>h.elim
theorem X_.X0:∀{a b c d:List m_},X_ a b->X_ c d->X_ (a++c) (b++d)
 |[],[],_,_,_,g=>g
 |_::_,_::_,_,_,h,g=>⟨h.1,X_.X0 h.2 g⟩
 |[],_::_,_,_,h,_=>h.elim
 |_::_,[],_,_,h,_=>h.elim
theorem X_.mem:∀{a b:List m_}{y:m_},X_ a b→y∈b→∃x∈a,∃v,y=x.I v
 |x::a,z::b,y,h,m=>by obtain rfl|m:=List.mem_cons.1 m;let⟨⟨v,e,_⟩,_⟩:=h;exact⟨x,iS,v,e⟩;let⟨x',hx,e⟩:=X_.mem h.2 m;exact⟨x',by simp[hx],e⟩
 |[],[],_,_,m=>by simp at m
 |[],_::_,_,h,_=>h.elim
 |_::_,[],_,h,_=>h.elim
theorem Sl.nz{h:a_}{e:Nat}{v:V}{n:Nat}(a:Sl h e v n cs):nZ v=true:=by cases v<;>first|rfl|exact a.2.elim
theorem X_.nz:∀{a b:List m_},X_ a b→∀y∈b,nZ y.vm=true
 |x::a,z::b,h,y,m=>by obtain rfl|m:=List.mem_cons.1 m;obtain⟨⟨v,rfl,z⟩,_⟩:=h;exact z;exact X_.nz h.2 y m
 |[],[],_,_,m=>by simp at m
 |[],_::_,h,_,_=>h.elim
theorem JJ{n0:NL}{h:a_}{b B S p:Nat}{Ks:List p_}{Y:List m_}{l:List Int}{v:V}{mc:dN}(w:WF h)(s:L_ n0 h b Ks cap X l kn st vK bg B bm S bl pm mc)
 (hp:p<=X.length) (hn:X.length+Y.length<=1024) (hc:mc.2+(X.length+Y.length)<=4096)
 (sv:∀(Z:List Nat)(K:a_),(∀z∈Z,z∈Wr b bg B bm S bl pm\/h.e<=z)->Fr Z h K->C_ m_.s 4 K v Y/\∀y∈Y,u_ K y)
 (hY:∀y∈Y,nZ y.vm=true/\y.K<Ks.length/\0<y.J) (hX:∀x∈X,0<x.J) (e0:c9 l p (Y.map (aQ Ks))=0):
 ao go 112 [.u b 0,ZZ (p:Int),v] h fun u K=>u=ZZ 0/\∃Y' B' S' pm',X_ Y Y'/\
  L_ n0 K b Ks cap (X.take p++Y'++X.drop p) (l.take p++Y.map (aQ Ks)++l.drop p) (kn.take p++List.replicate Y.length false++kn.drop p) (st.take p++Y.map (bI Ks)++st.drop p) vK bg B' bm S' bl pm'
   (iF mc ((X.take p++Y'++X.drop p).drop p) p)/\Fr (Wr b bg B bm S bl pm) h K/\(B'=B\/h.e<=B')/\(S'=S\/h.e<=S')/\(pm'=pm\/∀q,pm'=some q->h.e<=q):=by
 let⟨sY,bf⟩:=sv [] h iS (Wl w);let⟨rk,kh,xh⟩:=s.rd [] h iS (Wl w);refine ah ?_;simp only[b_,seval];refine aa (AG w ⟨vK,_,_,_,s.ob,rk,kh⟩ sY (fun y m=>⟨bf y m,(hY y m).2.1⟩) oM) ?_;rintro _ h1 ⟨v4,v5,rfl,G4,G5,F1⟩;have am:lP h1 v4 (Y.map (aQ Ks)):=by have:=G4.sl (n:=(Y.map (aQ Ks)).length) iS oM;unfold lP Q5;rw[WL];exact this
 have as:P9 h1 v5 (Y.map (bI Ks)):=by have:=G5.sl (n:=(Y.map (bI Ks)).length) iS oM;unfold P9 Q5;rw[WL];exact this
 have l4:ab h1 b 4=some (.u bl 0):=(F1.i s.ob).j 4;simp only[b_,seval,l4];apply aa (AU F1.o (s.lo.fr F1) am as oO iS oM oM);rintro _ h2 ⟨rfl,F2,pm',a4,aN⟩;rw[e0,if_pos rfl]at aN;simp only[pi,Xd]at aN;have d:=s.d;have c0:∀q,pm'=some q->pm=some q\/h.e<=q:=by intro q hq;obtain rfl|⟨_,x⟩:=a4;exact .inl hq;exact .inr (Wy F1.e (x q hq))
 have af:Fr (bl::pm.toList) h h2:=Wp F1 F2 w iS (fun x m=>.inl m);have an:∀x,(∀q,pm=some q->q≠x)->bl≠x->x∉bl::pm.toList:=by intro x a c m;obtain q|q:=Wt.1 m;exact c q.symm;simp at q;exact a _ q rfl
 have bn:=af.I b _ (an b (fun q e=>(d.p q e).1) d.r.symm) s.ob;have g2:=s.g.l af (an bg (fun q e=>(d.p q e).2.1) d.f.symm) (an B (fun q e=>(d.p q e).2.2.1) d.c.symm);have bh:=s.gB.fr af (an B (fun q e=>(d.p q e).2.2.1) d.c.symm);have k2:=s.k.frS af (an bm (fun q e=>(d.p q e).2.2.2.1) d.k.symm) (an S (fun q e=>(d.p q e).2.2.2.2.1) d.g.symm);have ch:bg<h2.e:=by let⟨c,o,_⟩:=g2.c.1;exact o.lt F2.o
 have Bl:B<h2.e:=by let⟨c,o,_⟩:=bh;exact o.lt F2.o
 have a5:∀x,x∈bl::pm.toList->x∈Wr b bg B bm S bl pm:=by intro x m;simp only[Wt]at m;simp only[Wr,Wa,Wt];obtain m|m:=m;exact .inl (.inr (.inr (.inr (.inr (.inr (.inl m))))));exact .inr m
 have bv:∀K,Fr [bg,B] h2 K->C_ m_.s 4 K v Y/\∀y∈Y,u_ K y:=by intro K f;refine sv ((bl::pm.toList)++[bg,B]) K (fun z m=>?_) (Wp af f w (fun x m=>.inl (Wa.2 (.inl m))) (fun x m=>.inl (Wa.2 (.inr m))));obtain m|m:=Wa.1 m;exact .inl (a5 z m);simp at m;left;simp only[Wr,Wa,Wt];obtain m|m:=m<;>simp[m]
 have bu:=(bv h2 (Wl F2.o)).1.t_;simp only[b_,seval,bu,e0];refine aA (fun n env hh=>∃(i B':Nat)(D:List m_),Fr [bg,B] h2 hh/\(B'=B\/h2.e<=B')/\B'<hh.e/\env.c_ 32=some (ZZ i)/\env.c_ 31=some (ZZ (Y.length:Nat))/\env.c_ 30=some v/\env.c_ 0=some (.u b 0)/\env.c_ 1=some (ZZ (p:Int))/\
  i<=Y.length/\X_ (Y.take i) D/\Gp hh bg B' (X.length+i) ((X.take p++D++X.drop p).flatMap m_.s)/\O_ hh B'/\
  (∀(Z:List Nat)(K:a_),(∀z∈Z,z<h2.e\/z=B'\/hh.e<=z)->Fr Z hh K->∀x∈D,q_ sS 1 K x.vm x.C)/\n=Y.length-i) Y.length oM ?_ ?_
 exact⟨0,B,[],Wl F2.o,.inl rfl,Bl,iS,iS,iS,iS,iS,oM,trivial,by simpa using g2,bh,iS,rfl⟩;rintro n env hh ⟨i,B',D,F,ak,cz,a6,ca,cl,g0,g1,hi,cp,gp,gd,bB,rfl⟩;have ax:=F.I b _ (by simp;exact⟨d.m,d.i⟩) bn;have dl:=cp.t_;rw[Yk,XN hi]at dl;by_cases da:i<Y.length;have a2:(i:Int)<Y.length:=oM;let⟨cq,co⟩:=bv hh F;let⟨bi,oi,y,p1,_,p3,p4⟩:=cq.ix (f:=m_.s) (k:=4) (fun _=>rfl) .i64 (i:Int) oM a2;rw[pi]at p4;have ym:=Wc p4;have ay:=co y ym;let⟨h3,bt,aT,bz⟩:=aq F.o [ZX 0,ZY 0,.f [],.r];simp only[b_,seval,a6,ca,cl,a2,p1,p3,<-bt];refine ai (c':=y.s) aT.o bz rfl ay.U rfl ?_;rintro h4 o4 F4 n4;have az:Fr [] hh h4:=aT.z F4 F.o (VZ _);have l2:ab h4 b 2=some (.u bg 0):=(az.i ax).j 2;have y4:aj h4 hh.e 0 4=some y.s:=by rw[o4.N];rfl
 simp(disch:=omega) only[b_,seval,j_,ag,g0,g1,l2,y4];apply aa (EY az.o (ay.fr az) (hY y ym).1);rintro _ h5 ⟨vy,rfl,F5,nE,v1,bw⟩;have aJ:=az.c F5;have cU:ab h5 b 2=some (.u bg 0):=(aJ.i ax).j 2;let⟨h6,a0,ae,a1⟩:=aq F5.o [ZX (y.J:Int),ZY (y.K:Int),.f y.X,vy];have n6:=x_ a0;have cj:ab h6 b 2=some (.u bg 0):=(ae.i (aJ.i ax)).j 2;simp only[b_,seval,j_,ip,<-a0];have a9:=aJ.c ae;have cx:=F.e;have dc:=az.e;have dd:=F5.e;have s6:Sl h6 4 (.y h5.e 0 1 1) 1 (y.I vy).s:=Xy a1 rfl;have cr:aw (y.I vy).s=true:=by rw[ip];simp only[au,aB,v1];rfl
 have bT:=bw [] h5 iS (Wl F5.o);have cA:=gp.l a9 iS iS;apply aa (BG (p:=p+i) (q:=1) ae.o cA (fun K f=>Xy (f.I _ _ oO a1) rfl) cr (J8 fun n=>Sl.noint bT _ _) oM oM);rintro _ h7 ⟨rfl,B2,a8,a7,F7⟩;have dr:ab h7 b 2=some (.u bg 0):=(F7.I _ _ (by simp;exact⟨d.m,by obtain rfl|q:=ak;exact d.i;have:=bn.lt F2.o;omega⟩) (ae.i (aJ.i ax))).j 2
 simp(disch:=omega) only[b_,seval,DF,j_,ag,a6,l2,y4,cU,cj];have bk:=a7.a oM;have cB:B2<h7.e:=by let⟨c,o,_⟩:=bk;exact o.lt F7.o
 have cO:Fr [bg,B] h2 h7:=by refine Wp (Wp (T:=[bg,B]) F a9 F2.o (fun x m=>.inl m) iS) F7 F2.o (fun x m=>.inl m) (fun x m=>?_);simp at m;obtain rfl|rfl:=m;exact .inl iS;obtain rfl|q:=ak;exact .inl iS;exact .inr q
 have lA:(X.take p++D).length=p+i:=by simp;omega
 have eA:((X.take p++D++X.drop p).flatMap m_.s).take ((p+i) *4)++(y.I vy).s++((X.take p++D++X.drop p).flatMap m_.s).drop ((p+i) *4)=(X.take p++(D++[y.I vy])++X.drop p).flatMap m_.s:=by rw[mM dP,ef dP,<-lA,YH,Ye];simp
 rw[<-ip y vy,eA,XA]at a7;have f7:∀(Z:List Nat)(K:a_),Fr Z h7 K->Fr ([bg,B']++Z) h6 K:=fun Z K f=>Wp F7 f ae.o (fun x m=>.inl (Wa.2 (.inl m))) (fun x m=>.inl (Wa.2 (.inr m)));have dF:=F7.e;refine s_ ⟨Y.length-(i+1),oM,i+1,B2,D++[y.I vy],cO,?_,cB,iS,iX,iX,iX,iX,oM,?_,a7,bk,?_,rfl⟩;obtain rfl|q:=a8;exact ak;exact .inr oM;rw[Wn,p4];exact X_.X0 cp ⟨⟨vy,rfl,Sl.nz bT⟩,trivial⟩;intro Z K hZ f x hx;have f6:=f7 Z K f;obtain hx|hx:=Wa.1 hx;refine bB _ K (fun z m=>?_) (Wp a9 f6 F.o iS (fun x m=>.inl m)) x hx;obtain m|m:=Wa.1 m;simp at m;obtain rfl|rfl:=m;exact .inl ch;exact .inr (.inl rfl);obtain q|q|q:=hZ z m;exact .inl q;subst q;obtain q|q:=a8;exact .inr (.inl q);exact .inr (.inr oM);exact .inr (.inr oM);simp at hx;subst hx;have f5:=(Wp (T:=[bg,B']++Z) ae f6 F5.o iS (fun x m=>.inl m)).old F5.o;refine bw _ K (fun z m=>?_) f5;simp only[Yj,decide_eq_true_eq]at m;let⟨m,m2⟩:=m;obtain m|m:=Wa.1 m;simp at m;obtain rfl|rfl:=m<;>omega
 obtain q|q|q:=hZ z m;omega;subst q;obtain q|q:=a8<;>omega
 omega;have cg:i=Y.length:=oM;subst cg;rw[Wj (VZ _)]at cp;have cb:Km hh bm S mc.1 mc.2:=k2.frS F (by simp;exact⟨d.j.symm,d.d.symm⟩) (by simp;exact⟨d.e.symm,d.a.symm⟩);have bC:O_ hh S:=(s.gS.fr af (an S (fun q e=>(d.p q e).2.2.2.2.1) d.g.symm)).fr F (by simp;exact⟨d.e.symm,d.a.symm⟩);have lX:(X.take p++D++X.drop p).length=X.length+Y.length:=by simp;omega
 rw[<-lX]at gp;have aR:bm<h.e:=s.k.lt w;have key:∀x∈X.take p++D++X.drop p,0<x.J/\x.J<18446744073709551616:=by intro x m;obtain m|m:=Wa.1 m;obtain m|m:=Wa.1 m;have m:=WX m;exact⟨hX x m,(xh x m).k⟩;obtain⟨y,ym,vy,rfl⟩:=cp.mem m;exact⟨(hY y ym).2.2,(bf y ym).k⟩;have m:=WR m;exact⟨hX x m,(xh x m).k⟩
 have c6:=F1.e;have cx:=F2.e;have dp:=F.e;have aH:=s.Sl';have ac:∀x,x<h.e->x≠B->B'≠x:=fun x a c=>by obtain rfl|q:=ak;exact c.symm;omega
 simp only[b_,seval,a6,ca,g0,g1,(oM:¬((Y.length:Nat):Int)<(Y.length:Nat))];refine aa (KD (mc:=mc) F.o ax gp cb key oM (by rw[lX];exact hc) d.n d.o d.j d.e (ac bm aR d.d.symm) (ac S aH d.a.symm) cz bC) ?_;rintro _ h3 ⟨rfl,S',ar,k3,F3,bA⟩;simp only[b_,seval];have b0:=s.ob.lt w;have dx:=s.g.c.1.lt w;have B0:=s.gB.lt w;have cu:=s.bl';have S3:=bA.lt F3.o;have dz:=F3.e;let⟨bj,dB⟩:=aN.pmlt F2.o;have ba:∀q,pm'=some q->(pm=some q/\q<h.e)\/(h1.e<=q/\q<h2.e):=by intro q hq;obtain e|⟨_,x⟩:=a4;rw[e]at hq;exact .inl ⟨hq,s.pl q hq⟩;exact .inr ⟨x q hq,bj q hq⟩
 have a3:∀q,pm'=some q->q≠b/\q≠bg/\q≠B/\q≠B'/\q≠bm/\q≠S/\q≠S'/\q≠bl:=by
  intro q hq;obtain⟨e,z⟩|⟨z1,z2⟩:=ba q hq;let⟨y1,y2,y3,y4,y5,y6⟩:=d.p q e;refine⟨y1,y2,y3,?_,y4,y5,?_,y6⟩;obtain rfl|r:=ak;exact y3;omega;obtain rfl|r:=ar;exact y5;omega;refine⟨oM,oM,oM,?_,oM,oM,?_,oM⟩;obtain rfl|r:=ak<;>omega
  obtain rfl|r:=ar<;>omega
 have nS:∀x,x<hh.e->x≠S->S'≠x:=fun x a c=>by obtain rfl|q:=ar;exact c.symm;omega
 have cc:Q4 h3 bl pm' (l.take p++Y.map (aQ Ks)++l.drop p) (kn.take p++List.replicate Y.length false++kn.drop p) (st.take p++Y.map (bI Ks)++st.drop p):=by refine Q4.frS (Q4.frS aN F (Y9.X0 (A:=[bg]) g2.c.1.oth bh.oth) (by simp;exact⟨d.f.symm,d.c.symm⟩) (fun q e=>?_)) F3 (Y9.X0 (A:=[bm]) cb.bmgood.oth bC.oth) (by simp;exact⟨d.k.symm,d.g.symm⟩) (fun q e=>?_);let⟨y1,y2,y3,y4,y5,y6,y7,y8⟩:=a3 q e;simp;exact⟨y2,y3⟩;let⟨y1,y2,y3,y4,y5,y6,y7,y8⟩:=a3 q e;simp;exact⟨y5,y6⟩
 refine⟨D,B',S',pm',cp,⟨F3.I b _ (by simp;exact⟨d.n,d.o⟩) ax,gp.l F3 (by simp;exact⟨d.j,d.e⟩) (by simp;exact⟨ac bm aR d.d.symm,ac S aH d.a.symm⟩),gd.fr F3 (by simp;exact⟨ac bm aR d.d.symm,ac S aH d.a.symm⟩),k3,bA,cc,?_,?_,?_,S3,fun q e=>by have:=bj q e;omega,oM,by exact fun z q=>by have:=s.n0l z q;omega⟩,?_,?_,?_,?_⟩;have:=s.t_;simp;omega;intro Z K hZ f;have ci:Fr ([bg,B]++[bm,S]++Z) h2 K:=by refine Wp (Wp (T:=[bg,B]++[bm,S]) F F3 F2.o (fun x m=>.inl (Wa.2 (.inl m))) (fun x m=>.inl (Wa.2 (.inr m)))) f F2.o (fun x m=>.inl (Wa.2 (.inl m))) (fun x m=>.inl (Wa.2 (.inr m)))
 have f0:Fr ((bl::pm.toList)++([bg,B]++[bm,S]++Z)) h K:=Wp af ci w (fun x m=>.inl (Wa.2 (.inl m))) (fun x m=>.inl (Wa.2 (.inr m)));have cn:∀z∈(bl::pm.toList)++([bg,B]++[bm,S]++Z),z∈Wr b bg B bm S bl pm\/h.e<=z\/Lx n0 z:=by
  intro z m;obtain m|m:=Wa.1 m;exact .inl (a5 z m);obtain m|m:=Wa.1 m;left;simp only[Wr,Wa,Wt,Xb,or_false]at m|-;obtain(m|m)|(m|m):=m<;>simp[m]
  obtain q|q|q:=hZ z m;simp only[Wr,Wa,Wt,Xb,or_false]at q;obtain(q|q|q|q|q|q)|q:=q;exact .inl (by simp[Wr,q]);exact .inl (by simp[Wr,q]);subst q;obtain r|r:=ak;exact .inl (by simp[Wr,r]);exact .inr (.inl oM);exact .inl (by simp[Wr,q]);subst q;obtain r|r:=ar;exact .inl (by simp[Wr,r]);exact .inr (.inl oM);exact .inl iX;simp at q;obtain⟨e,_⟩|⟨z1,_⟩:=ba z q;exact .inl (by simp[Wr,e]);exact .inr (.inl oM);exact .inr (.inl oM);exact .inr (.inr q)
 let⟨cy,ct,bE⟩:=s.rd _ K cn f0;refine⟨cy,ct,fun x m=>?_⟩;obtain m|m:=Wa.1 m;obtain m|m:=Wa.1 m;exact bE x (WX m);have fh:Fr ([bm,S]++Z) hh K:=Wp F3 f F.o (fun x m=>.inl (Wa.2 (.inl m))) (fun x m=>.inl (Wa.2 (.inr m)));have r:=bB _ K (fun z m=>?_) fh x m;obtain⟨y,ym,vy,rfl⟩:=cp.mem m;have ay:=bf y ym;exact⟨ay.k,ay.t,Sl.a r,ay.n,ay.l⟩;obtain m|m:=Wa.1 m;simp at m;obtain rfl|rfl:=m;exact .inl oM;exact .inl oM;obtain q|q|q:=hZ z m;simp only[Wr,Wa,Wt,Xb,or_false]at q;obtain(q|q|q|q|q|q)|q:=q;exact .inl oM;exact .inl oM;exact .inr (.inl q);exact .inl oM;obtain r|r:=ar;exact .inl oM;exact .inr (.inr oM);exact .inl oM;simp at q;obtain⟨_,z1⟩|⟨_,z2⟩:=ba z q;exact .inl oM;exact .inl oM;exact .inr (.inr oM);exact .inl (by have:=s.n0l z q;omega);exact bE x (WR m);exact⟨d.m,(ac b b0 d.i).symm,d.n,(nS b oM d.o).symm,d.r,d.j,(nS bg oM d.e).symm,d.f,ac bm aR d.d.symm,by
  obtain rfl|q:=ar;exact ac _ aH d.a.symm;omega,ac bl cu d.c.symm,d.k,nS bl oM d.g.symm,fun q e=>by
  let⟨y1,y2,y3,y4,y5,y6,y7,y8⟩:=a3 q e;exact⟨y1,y2,y4,y5,y7,y8⟩⟩
 refine Wp (Wp (T:=Wr b bg B bm S bl pm) af F w (fun x m=>.inl (a5 x m)) (fun x m=>.inl ?_)) F3 w (fun x m=>.inl m) (fun x m=>.inl ?_);simp only[Wr,Wa,Wt,Xb,or_false]at m|-;obtain m|m:=m<;>simp[m]
 simp only[Wr,Wa,Wt,Xb,or_false]at m|-;obtain m|m:=m<;>simp[m]
 obtain r|r:=ak;exact .inl r;exact .inr oM;obtain r|r:=ar;exact .inl r;exact .inr oM;obtain e|⟨_,x⟩:=a4;exact .inl e;exact .inr fun q hq=>by have:=x q hq;omega
open Go.Ev.St
theorem JP{h:a_}{v:V}{L:List p_}(w:WF h)(a:q_ p_.s 9 h v L)(hL:∀q∈L,Q9 h q)(hn:L.length<=4096)(ok:X5 L cap=true):
 ao go 11 [.B [v,ZZ cap]] h fun u h'=>∃b bg bm bl vK K,u=.D [.u b 0,ZZ 0]/\Fr [] h h'/\bX L K/\L_ (h.e,none) h' b K cap [] [] [] [] vK bg h.e bm bm bl none (fun _=>none,0)/\(∀y∈Wr b bg h.e bm bm bl none,h.e<=y):=by
 have nv:∀n:Int,v≠ ZZ n:=fun n=>Sl.noint a _ _;apply ZW (NN w a hL hn ok);rintro u h' ⟨b,bg,bm,bl,vK,K,rfl,F,sK,ob,ac,km,lo,c1,c2,c3,c4,c5,oB,st⟩;have w':=F.o;have gB:O_ h' h.e:=⟨_,oB,iS,by
  intro L p e;cases L with
  |nil=>simp at p
  |cons q L=>simp[sp]at e;exact nv _ e.1⟩
 have pl:=lo.pmlt w';refine⟨b,bg,bm,bl,vK,K,rfl,F,sK,⟨ob,?_,gB,km,km.bmgood,lo,rfl,?_,?_,km.lt w',iS,pl.2,fun z q=>Xh q.a F.e⟩,?_⟩;exact⟨.r,[],[],[],0,0,0,⟨ac,⟨rfl,.inl ⟨rfl,rfl⟩⟩,rfl,rfl,rfl,rfl,rfl,oM,oM,oM,fun x m=>by simp at m⟩,rfl,rfl⟩;intro Z h2 hZ f;let⟨x1,x2⟩:=st Z h2 (fun y m=>by
  obtain q|q|q:=hZ y m;simp[Wr]at q;obtain q|q|q|q|q:=q;exact .inr (.inl q);omega;omega;omega;omega;omega;exact .inl (by have:=q.a;omega)) f
 exact⟨x1,x2,iS⟩;exact⟨oM,oM,oM,oM,oM,oM,oM,oM,oM,oM,oM,oM,oM,iS⟩;intro y m;simp[Wr]at m;omega
section
variable {n0 : NL} {h : a_} {b : Nat} {Ks : List p_} {cap : Int} {X : List m_} {l : List Int} {kn st : List Bool} {vK : V} {bg B bm S bl : Nat} {pm : Option Nat} {mc : dN}
theorem mA(s:L_ n0 h b Ks cap X l kn st vK bg B bm S bl pm mc):ao go 33 [.u b 0] h fun u h'=>u=.h false/\h=h':=by have l2:ab h b 2=some (.u bg 0):=s.ob.j 2;refine ah ?_;simp[b_,l2]
theorem oX(s:L_ n0 h b Ks cap X l kn st vK bg B bm S bl pm mc):ao go 21 [.u b 0] h fun u h'=>u=ZZ (X.length:Nat)/\h=h':=by have l2:ab h b 2=some (.u bg 0):=s.ob.j 2;refine ah ?_;simp[b_];refine aa (mA s) ?_;rintro _ _ ⟨rfl,rfl⟩;simp[b_,l2];apply aa (Ad s.g);rintro _ _ ⟨rfl,rfl⟩;simp[b_]
end
open Go.Ev.St
theorem L_.move{n0:Nat}{m0:NL}{h:a_}{b K B S:Nat}{Ks:List p_}{l:List Int}{mc:dN}{c0:List V}(w:WF h)(s:L_ (n0,none) h K Ks cap X l kn st vK bg B bm S bl pm mc)
 (ge:∀y∈Wr K bg B bm S bl pm,n0<=y) (o0:e_ h b c0) (h5:c0.length=5) (hb:b<n0) (hm:∀z,Lx m0 z->z<n0) (f:Fr [b] h h') (ob:e_ h' b [vK,ZZ cap,.u bg 0,.u bm 0,.u bl 0]):
 L_ m0 h' b Ks cap X l kn st vK bg B bm S bl pm mc:=by
 have g:∀y∈Wr K bg B bm S bl pm,y≠b:=fun y m=>by have:=ge y m;omega
 simp only[Wr,Wa,Wt,Xb,or_false]at g;have g1:=g bg iS;have g2:=g B iS;have g3:=g bm iS;have g4:=g S iS;have g5:=g bl iS;have g6:∀q,pm=some q->q≠b:=fun q e=>g q iX;have d:=s.d;have fn:=f.e;have n0l:=s.n0l;refine⟨ob,s.g.l f (eV g1) (eV g2),s.gB.fr f (eV g2),s.k.frS f (eV g3) (eV g4),s.gS.fr f (eV g4),?_,s.t_,?_,?_,by have:=s.Sl';omega,fun q e=>by have:=s.pl q e;omega,by have:=s.bl';omega,fun z q=>by have:=hm z q;have:=n0l z (.inl this);omega⟩
 ·exact s.lo.frS f (Y9.I o0 oM (j4 (n:=2) h5)) (eV g5) (fun q e=>by simpa using g6 q e)
 ·intro Z h2 hZ f2;refine s.rd ([b]++Z) h2 (fun z m=>?_) (Wp f f2 w (fun x m=>.inl (Wa.2 (.inl m))) (fun x m=>.inl (Wa.2 (.inr m))));obtain m|m:=Wa.1 m
  ·simp at m;subst m;exact .inr (.inr (.inl hb))
  ·obtain q|q|q:=hZ z m
   ·simp only[Wr,Wa,Wt,Xb,or_false]at q|-;obtain(q|q|q|q|q|q)|q:=q
    ·exact .inr (.inr (.inl oM))
    all_goals exact .inl iX
   ·omega
   ·exact .inr (.inr (.inl (hm z q)))
 ·exact⟨g1.symm,g2.symm,g3.symm,g4.symm,g5.symm,d.j,d.e,d.f,d.d,d.a,d.c,d.k,d.g,fun q e=>⟨g6 q e,(d.p q e).2⟩⟩
theorem CT{Ks:List p_}{cap:Int}{p:Nat→Bool}:∀{seen:List Nat}{Y:List m_},pF Ks cap p seen Y=0→∀y∈Y,Q2 y Ks.length=true
 |_,[],_,y,m=>by simp at m
 |seen,x::r,e,y,m=>by simp only[pF]at e;by_cases c1:Q2 x Ks.length=false;grind;rw[if_neg c1]at e;by_cases c2:x.J∈seen∨p x.J=true;grind;rw[if_neg c2]at e;by_cases c3:cG Ks cap x≠0;omega;rw[if_neg c3]at e;obtain rfl|m:=List.mem_cons.1 m;simpa using c1;exact CT e y m
theorem ql{Ks K:List p_}(h:bX Ks K)(y:m_):aQ K y=aQ Ks y/\bI K y=bI Ks y:=by
 unfold aQ bI;cases e:Ks[y.K]? with
 |none=>
  have:K[y.K]? =none:=by rw[Za]at e|-;rw[<-eX h];exact e
  rw[this];exact⟨rfl,rfl⟩
 |some q=>let⟨p,e2,s⟩:=nR h e;rw[e2];let⟨_,_,_,_,_,h6,Z,_⟩:=s;exact⟨h6.symm,Z.symm⟩
theorem L_.fr{n0:NL}{h:a_}{b B S:Nat}{Ks:List p_}{l:List Int}{mc:dN}(w:WF h)(s:L_ n0 h b Ks cap X l kn st vK bg B bm S bl pm mc)(f:Fr [] h h'):
 L_ n0 h' b Ks cap X l kn st vK bg B bm S bl pm mc:=by
 have fn:=f.e;refine⟨f.i s.ob,s.g.l f iS iS,s.gB.fr f iS,s.k.fr f,s.gS.fr f iS,s.lo.fr f,s.t_,?_,s.d,by have:=s.Sl';omega,fun q e=>by have:=s.pl q e;omega,by have:=s.bl';omega,by exact fun z q=>by have:=s.n0l z q;omega⟩;intro Z h2 K f2;refine s.rd Z h2 (fun z m=>?_) (Wp f f2 w (fun x m=>by simp at m) (fun x m=>.inl m));obtain q|q|q:=K z m;exact .inl q;omega;exact .inr (.inr q)
theorem L_.lay{n0:NL}{h:a_}{b B S:Nat}{Ks:List p_}{l l':List Int}{ac ae:List Bool}{K:Option Nat}{mc:dN}(w:WF h)(s:L_ n0 h b Ks cap X l kn st vK bg B bm S bl pm mc)(f:Fr (bl::pm.toList) h h')
 (a:Q4 h' bl K l' ac ae) (hl:l'.length=X.length) (hp:K=pm\/∀q,K=some q->h.e<=q):L_ n0 h' b Ks cap X l' ac ae vK bg B bm S bl K mc:=by
 have d:=s.d;have fn:=f.e;have n0l:=s.n0l;have nb:∀y,y≠bl->(∀q,pm=some q->q≠y)->y∉bl::pm.toList:=by grind
 have lb:=s.ob.lt w;have lg:bg<h.e:=s.g.c.1.lt w;have lB:=s.gB.lt w;have lm:=s.k.lt w;have lS:=s.Sl';have ll:=s.bl';have pl:=a.pmlt f.o;have dp:=d.p;have xb:=nb b d.r fun q e=>(dp q e).1;have xg:=nb bg d.f fun q e=>(dp q e).2.1;have xB:=nb B d.c fun q e=>(dp q e).2.2.1;have xm:=nb bm d.k fun q e=>(dp q e).2.2.2.1;have xS:=nb S d.g fun q e=>(dp q e).2.2.2.2.1;refine⟨f.I _ _ xb s.ob,s.g.l f xg xB,s.gB.fr f xB,s.k.frS f xm xS,s.gS.fr f xS,a,hl,?_,?_,oM,pl.1,oM,fun z q=>by have:=n0l z q;omega⟩;intro Z h2 hZ f2;refine s.rd ((bl::pm.toList)++Z) h2 (fun z m=>?_) (Wp f f2 w (fun x m=>.inl (Wa.2 (.inl m))) (fun x m=>.inl (Wa.2 (.inr m))));obtain m|m:=Wa.1 m;refine .inl ?_;obtain rfl|m:=Wt.1 m;simp[Wr];exact Wa.2 (.inr m);obtain q|q|q:=hZ z m;obtain q|q:=Wa.1 q;exact .inl (Wa.2 (.inl q));grind;omega;exact .inr (.inr q);refine⟨d.m,d.i,d.n,d.o,d.r,d.j,d.e,d.f,d.d,d.a,d.c,d.k,d.g,fun q e=>?_⟩;obtain rfl|hp:=hp;exact dp q e;grind
theorem JK{n0:NL}{h:a_}{b B S p:Nat}{Ks:List p_}{Y:List m_}{l:List Int}{v:V}{mc:dN}(w:WF h)(s:L_ n0 h b Ks cap X l kn st vK bg B bm S bl pm mc)
 (hp:p<=X.length) (hn:Y.length<=1024) (hx:X.length<=1024) (sY:C_ m_.s 4 h v Y) (ac:∀y∈Y,u_ h y/\y.K<Ks.length) (e0:c9 l p (Y.map (aQ Ks))≠0):
 ao go 112 [.u b 0,ZZ (p:Int),v] h fun u h'=>u=ZZ (c9 l p (Y.map (aQ Ks)))/\Fr (bl::pm.toList) h h'/\∃pm',(pm'=pm\/∀q,pm'=some q->h.e<=q)/\L_ n0 h' b Ks cap X l kn st vK bg B bm S bl pm' mc:=by
 let⟨rk,kh,xh⟩:=s.rd [] h iS (Wl w);refine ah ?_;simp only[b_,seval];refine aa (AG w ⟨vK,_,_,_,s.ob,rk,kh⟩ sY ac oM) ?_;rintro _ h1 ⟨v4,v5,rfl,G4,G5,Z⟩;have am:lP h1 v4 (Y.map (aQ Ks)):=by have:=G4.sl (n:=(Y.map (aQ Ks)).length) iS oM;unfold lP Q5;rw[WL];exact this
 have as:P9 h1 v5 (Y.map (bI Ks)):=by have:=G5.sl (n:=(Y.map (bI Ks)).length) iS oM;unfold P9 Q5;rw[WL];exact this
 have l4:ab h1 b 4=some (.u bl 0):=(Z.i s.ob).j 4;simp only[b_,seval,l4];apply aa (AU Z.o (s.lo.fr Z) am as oO iS oM oM);rintro _ h2 ⟨rfl,F2,pm',hp,a⟩;rw[if_neg e0]at a;have n1:=Z.e;have K:pm'=pm\/∀q,pm'=some q->h1.e<=q:=by grind
 have s2:=(s.fr w Z).lay Z.o F2 a s.t_ K;simp only[b_,seval,eq_false e0];refine⟨Wp Z F2 w iS (fun x m=>.inl m),pm',?_,s2⟩;obtain hp|hp:=K;exact .inl hp;grind
theorem JF{h:a_}{g b S c:Nat}{m:Nat->Option Nat}{k0 k1 k3:V}{k2:V}(og:e_ h g [.u b 0])(ob:e_ h b [k0,k1,k2,.u bm 0,k3])(k:Km h bm S m c):Jg h 111 [.u g 0] (fun x=>(m x).isSome):=⟨dI,fun h1 x f hx=>by
 have l0:ab h1 g 0=some (.u b 0):=(f.i og).j 0;have l3:ab h1 b 3=some (.u bm 0):=(f.i ob).j 3;refine ah ?_;simp[b_,l0,l3];refine aa (mG f.o (k.fr f) hx) ?_;rintro _ h2 ⟨rfl,F2⟩;cases e:m x with
 |none=>simp[b_,fJ];exact F2
 |some i=>simp[b_,fJ];exact F2⟩
def m8(Ks:List p_)(cap at_:Int)(X Y:List m_)(l:List Int)(p:Nat->Bool):Int:=
 if at_<0\/(X.length:Int)<at_ then 4 else if(1024:Int)-X.length<Y.length then 3 else if pF Ks cap p [] Y≠0 then pF Ks cap p [] Y else c9 l at_.toNat (Y.map (aQ Ks))
theorem ED{n0:NL}{h:a_}{b B S:Nat}{Ks:List p_}{a:Int}{Y:List m_}{l:List Int}{v:V}{mc:dN}{k0 c0 t0:V}(w:WF h)(s:L_ n0 h b Ks cap X l kn st vK bg B bm S bl pm mc)(ha:-9223372036854775808<=a/\a<9223372036854775808)
 (ok:X5 Ks cap=true) (hX:∀x∈X,0<x.J) (hx:X.length<=1024) (hc:mc.2+1024<=4096)
 (sv:∀(Z:List Nat)(h':a_),(∀z∈Z,z∈Wr b bg B bm S bl pm\/h.e<=z)->Fr Z h h'->C_ m_.s 4 h' v Y/\∀y∈Y,u_ h' y) (hY:∀y∈Y,nZ y.vm=true) (hl:Y.length<=4096) (ones:aw [k0,ZZ a,c0,t0,v]=true):
 ao go 57 [.u b 0,.B [k0,ZZ a,c0,t0,v]] h fun u h'=>u=ZZ (m8 Ks cap a X Y l (fun x=>(mc.1 x).isSome))/\
  (m8 Ks cap a X Y l (fun x=>(mc.1 x).isSome)≠0->Fr (bl::pm.toList) h h'/\∃pm',(pm'=pm\/∀q,pm'=some q->h.e<=q)/\L_ n0 h' b Ks cap X l kn st vK bg B bm S bl pm' mc)/\
  (m8 Ks cap a X Y l (fun x=>(mc.1 x).isSome)=0->0<=a/\a<=X.length/\X.length+Y.length<=1024/\∃Y' B' S' pm',X_ Y Y'/\
   L_ n0 h' b Ks cap (X.take a.toNat++Y'++X.drop a.toNat) (l.take a.toNat++Y.map (aQ Ks)++l.drop a.toNat) (kn.take a.toNat++List.replicate Y.length false++kn.drop a.toNat) (st.take a.toNat++Y.map (bI Ks)++st.drop a.toNat) vK bg B' bm S' bl pm'
    (iF mc ((X.take a.toNat++Y'++X.drop a.toNat).drop a.toNat) a.toNat)/\Fr (Wr b bg B bm S bl pm) h h'/\(B'=B\/h.e<=B')/\(S'=S\/h.e<=S')/\(pm'=pm\/∀q,pm'=some q->h.e<=q)):=by
 let⟨rk,kh,xh⟩:=s.rd [] h iS (Wl w);let⟨sY,az⟩:=sv [] h iS (Wl w);have hK:Ks.length<=8:=by simp only[X5,VY,decide_eq_true_eq]at ok;exact ok.2.1
 have same:∀{h'},Fr [] h h'->Fr (bl::pm.toList) h h'/\∃pm',(pm'=pm\/∀q,pm'=some q->h.e<=q)/\L_ n0 h' b Ks cap X l kn st vK bg B bm S bl pm' mc:=fun f=>⟨frQ f,pm,.inl rfl,s.fr w f⟩;let⟨h0,ar,ax,ak⟩:=aq w [.u b 0];let⟨h1,ay,ac,af⟩:=aq ax.o [k0,ZZ a,c0,t0,v];have K:=ax.c ac;have s1:=s.fr w K;have l0:ab h1 h.e 0=some (.u b 0):=(ac.i ak).j 0;have l1:ab h1 h0.e 1=some (ZZ a):=af.j 1;have l4:ab h1 h0.e 4=some v:=af.j 4;by_cases c1:a<0;refine ah ?_;simp only[b_,↓reduceIte,Nat.reduceEqDiff,Nat.reduceAdd,DF,j_,Nat.reduceSub,<-ar,<-ay,l1,eq_true c1];have e:m8 Ks cap a X Y l (fun x=>(mc.1 x).isSome)=4:=by rw[m8,if_pos (.inl c1)]
 rw[e];exact⟨rfl,fun _=>same K,fun e=>by cases e⟩;refine ah ?_;simp only[b_,↓reduceIte,Nat.reduceEqDiff,j_,<-ar,<-ay,l0,l1,eq_false c1];apply aa (oX s1);rintro _ _ ⟨rfl,rfl⟩;by_cases c2:(X.length:Int)<a;simp only[b_,↓reduceIte,Nat.reduceEqDiff,Nat.reduceAdd,DF,j_,Nat.reduceSub,eq_true c2,l0,l1];have e:m8 Ks cap a X Y l (fun x=>(mc.1 x).isSome)=4:=by rw[m8,if_pos (.inr c2)]
 rw[e];exact⟨rfl,fun _=>same K,fun e=>by cases e⟩;simp only[b_,↓reduceIte,Nat.reduceEqDiff,Nat.reduceAdd,DF,j_,Nat.reduceSub,eq_false c2,l0,l1,l4,(sY.fr K).t_];apply aa (oX s1);rintro _ _ ⟨rfl,rfl⟩;have an:¬(a<0\/(X.length:Int)<a):=oM;by_cases c3:(1024:Int)-X.length<Y.length;simp(disch:=omega) only[b_,↓reduceIte,Nat.reduceEqDiff,Nat.reduceAdd,DF,j_,Nat.reduceSub,ag,eq_true c3,l0,l4];have e:m8 Ks cap a X Y l (fun x=>(mc.1 x).isSome)=3:=by rw[m8,if_neg an,if_pos c3]
 rw[e];exact⟨rfl,fun _=>same K,fun e=>by cases e⟩;have th:Jg h1 111 [.u h.e 0] (fun x=>(mc.1 x).isSome):=JF (ac.i ak) s1.ob s1.k;simp(disch:=omega) only[b_,↓reduceIte,Nat.reduceEqDiff,Nat.reduceAdd,DF,j_,Nat.reduceSub,ag,eq_false c3,l0,l4];apply aa (zV ac.o (W2.fr ⟨vK,_,_,_,s.ob,rk,kh⟩ K) hK (sY.fr K) (fun y m=>(az y m).fr K) hl th);rintro _ h2 ⟨rfl,F2⟩;have ae:=K.c F2;have l0:=(F2.i (ac.i ak)).j 0;have l1:ab h2 h0.e 1=some (ZZ a):=(F2.i af).j 1;have l4:ab h2 h0.e 4=some v:=(F2.i af).j 4;by_cases c4:pF Ks cap (fun x=>(mc.1 x).isSome) [] Y=0;have good:=CT c4;obtain⟨p,rfl⟩:∃p:Nat,a=p:=⟨a.toNat,oM⟩;have hp:p<=X.length:=oM;have hn:X.length+Y.length<=1024:=oM;have e:m8 Ks cap p X Y l (fun x=>(mc.1 x).isSome)=c9 l p (Y.map (aQ Ks)):=by rw[m8,if_neg an,if_neg c3,if_neg iX];rfl
 have ht:∀y∈Y,y.K<Ks.length/\0<y.J:=by intro y m;have:=good y m;simp only[Q2,VY,decide_eq_true_eq]at this;exact⟨this.2.1,oM⟩
 simp only[b_,↓reduceIte,Nat.reduceEqDiff,c4,l0,l1,l4];rw[e];have s2:=s.fr w ae;have n2:=ae.e;by_cases c5:c9 l p (Y.map (aQ Ks))=0;refine aa (JJ (p:=p) F2.o s2 hp hn oM (fun Z x hZ f=>?_) (fun y m=>⟨hY y m,ht y m⟩) hX c5) ?_;refine sv Z x (fun z m=>?_) (Wp ae f w (fun x m=>by simp at m) (fun x m=>.inl m));obtain q|q:=hZ z m;exact .inl q;omega;rintro _ h4 ⟨rfl,Y',B',S',pm',cp,s4,F4,aJ,aN,aH⟩;have f4:Fr (Wr b bg B bm S bl pm) h h4:=Wp ae F4 w (fun x m=>by simp at m) (fun x m=>.inl m);rw[c5];simp only[b_,↓reduceIte];have q1:B'=B\/h.e<=B':=oM;have q2:S'=S\/h.e<=S':=oM;have q3:pm'=pm\/∀q,pm'=some q->h.e<=q:=by grind
 exact⟨fun e=>absurd rfl e,fun _=>⟨oM,oM,hn,Y',B',S',pm',cp,s4,f4,q1,q2,q3⟩⟩;apply aa (JK (p:=p) F2.o s2 hp oM hx (sY.fr ae) (fun y m=>⟨(az y m).fr ae,(ht y m).1⟩) c5);rintro _ h4 ⟨rfl,F4,pm',aH,s4⟩;have f4:Fr (bl::pm.toList) h h4:=Wp ae F4 w (fun x m=>by simp at m) (fun x m=>.inl m);simp only[b_,↓reduceIte,eq_false c5];have q3:pm'=pm\/∀q,pm'=some q->h.e<=q:=by grind
 exact⟨fun _=>⟨f4,pm',q3,s4⟩,fun e=>e.elim⟩;have e:m8 Ks cap a X Y l (fun x=>(mc.1 x).isSome)=pF Ks cap (fun x=>(mc.1 x).isSome) [] Y:=by rw[m8,if_neg an,if_neg c3,if_pos c4]
 simp only[b_,↓reduceIte,Nat.reduceEqDiff,eq_false c4];rw[e];exact⟨rfl,fun _=>same ae,fun e=>absurd e c4⟩
open Go.Ev.St
section
variable {n0 : NL} {h : a_} {b bg B bm S bl : Nat} {Ks : List p_} {cap : Int} {X : List m_} {l : List Int} {kn st : List Bool} {vK : V} {pm : Option Nat} {mc : dN}
theorem GM{key:Nat}(w:WF h)(s:L_ n0 h b Ks cap X l kn st vK bg B bm S bl pm mc)(K:key<18446744073709551616):ao go 17 [.u b 0,ZX (key:Int)] h fun u h'=>u=fJ (mc.1 key)/\Fr [] h h':=by
 have l3:ab h b 3=some (.u bm 0):=s.ob.j 3;refine ah ?_;simp[b_];refine aa (mA s) ?_;rintro _ _ ⟨rfl,rfl⟩;simp[b_,l3];apply aa (mG w s.k K);rintro _ h2 ⟨rfl,Z⟩;cases e:mc.1 key with
 |none=>simp[b_,fJ];exact Z
 |some i=>simp[b_,fJ];exact Z
theorem Bg(w:WF h)(s:L_ n0 h b Ks cap X l kn st vK bg B bm S bl pm mc):ao go 20 [.u b 0] h fun u h'=>∃c pm',u=.u c 0/\h.e<=c/\(∀q,pm'=some q->h.e<=q)/\Q4 h' c pm' l kn st/\Fr [] h h':=by have K:ab h b 4=some (.u bl 0):=s.ob.j 4;refine ah ?_;simp only[b_,seval];refine aa (mA s) ?_;rintro _ _ ⟨rfl,rfl⟩;simp only[b_,seval,K];apply aa (xo w s.lo);rintro _ h2 ⟨c,pm',rfl,hc,Z,a,F2⟩;simp only[b_,seval];exact⟨c,pm',rfl,hc,Z,a,F2⟩
end
open Go.Ev.St
theorem L_.relay{n0:NL}{h:a_}{b B S c:Nat}{Ks:List p_}{l l':List Int}{ac ae:List Bool}{K:Option Nat}{mc:dN}(w:WF h)(s:L_ n0 h b Ks cap X l kn st vK bg B bm S bl pm mc)(f:Fr (b::bl::pm.toList) h h')
 (ob:e_ h' b [vK,ZZ cap,.u bg 0,.u bm 0,.u c 0]) (a:Q4 h' c K l' ac ae) (hl:l'.length=X.length) (hc:h.e<=c) (hp:∀q,K=some q->h.e<=q/\q≠c):L_ n0 h' b Ks cap X l' ac ae vK bg B bm S c K mc:=by
 have d:=s.d;have fn:=f.e;have n0l:=s.n0l;have nb:∀y,b≠y->y≠bl->(∀q,pm=some q->q≠y)->y∉b::bl::pm.toList:=by grind
 have lb:=s.ob.lt w;have lg:bg<h.e:=s.g.c.1.lt w;have lB:=s.gB.lt w;have lm:=s.k.lt w;have lS:=s.Sl';have ll:=s.bl';have pl:=a.pmlt f.o;have dp:=d.p;have xg:=nb bg d.m d.f fun q e=>(dp q e).2.1;have xB:=nb B d.i d.c fun q e=>(dp q e).2.2.1;have xm:=nb bm d.n d.k fun q e=>(dp q e).2.2.2.1;have xS:=nb S d.o d.g fun q e=>(dp q e).2.2.2.2.1;refine⟨ob,s.g.l f xg xB,s.gB.fr f xB,s.k.frS f xm xS,s.gS.fr f xS,a,hl,?_,?_,oM,pl.1,pl.2,fun z q=>by have:=n0l z q;omega⟩;intro Z h2 hZ f2;refine s.rd ((b::bl::pm.toList)++Z) h2 (fun z m=>?_) (Wp f f2 w (fun x m=>.inl (Wa.2 (.inl m))) (fun x m=>.inl (Wa.2 (.inr m))));obtain m|m:=Wa.1 m;refine .inl ?_;obtain rfl|m:=Wt.1 m;simp[Wr];obtain rfl|m:=Wt.1 m;simp[Wr];exact Wa.2 (.inr m);obtain q|q|q:=hZ z m;obtain q|q:=Wa.1 q;simp at q;obtain q|q|q|q|q|q:=q;exact .inl (by simp[Wr,q]);exact .inl (by simp[Wr,q]);exact .inl (by simp[Wr,q]);exact .inl (by simp[Wr,q]);exact .inl (by simp[Wr,q]);omega;grind;omega;exact .inr (.inr q);refine⟨d.m,d.i,d.n,d.o,oM,d.j,d.e,oM,d.d,d.a,oM,oM,oM,fun q e=>?_⟩;have:=hp q e;omega
theorem Q4.ne{h:a_}{b:Nat}{l:List Int}{ks:List Bool}(a:Q4 h b pm l ks bs):∀q,pm=some q->q≠b:=by let⟨p,vk,o,v1,ix,mk,e⟩:=a;rintro q rfl;let⟨K,Z,x⟩:=mk;refine Own.ne Z o fun e=>?_;unfold P7 at e;cases p<;>simp[pv]at e
theorem Q4.oth{h:a_}{b:Nat}{l:List Int}{ks:List Bool}(a:Q4 h b pm l ks bs):Y9 h (b::pm.toList):=by
 let⟨p,vk,o,v1,ix,mk,e⟩:=a;apply Y9.X0 (A:=[b]) (Y9.I o iS (j4 (n:=1) rfl));cases pm with
 |none=>exact fun x m=>by simp at m
 |some q=>
  let⟨Z,oq,x,_⟩:=mk;have K:=x.t_;refine Y9.I oq (by simp[P7];omega) ?_;intro L hL e;match Z,K,L with
  |w1::w2::Z,_,(x1,x2)::(y1,y2)::L=>simp[P7,sp,uw]at e
  |w1::w2::Z,_,[(x1,x2)]=>simp[P7,sp]at e
def htC(x:Nat×Int):List V:=[ZX (x.1:Int),ZZ x.2]
def j5(m:Nat->Option Nat):List (Nat×Int)->Nat->List Int->List Bool->Int×Nat×List Int×List Bool
 |[],i,l,kn=>(0,i,l,kn)
 |x::r,i,l,kn=>match m x.1 with
  |none=>(11,i,l,kn)
  |some j=>if bJ l j x.2=0 then j5 m r (i+1) (l.set j x.2) (kn.set j true)else(bJ l j x.2,i,l,kn)
theorem zf{n0:NL}{h:a_}{b B S:Nat}{Ks:List p_}{l:List Int}{v:V}{mc:dN}{H:List (Nat×Int)}(w:WF h)(s:L_ n0 h b Ks cap X l kn st vK bg B bm S bl pm mc)
 (sv:∀(Z:List Nat)(h':a_),(∀z∈Z,z∈Wr b bg B bm S bl pm\/h.e<=z)->Fr Z h h'->C_ htC 2 h' v H) (hH:∀x∈H,x.1<18446744073709551616/\-9223372036854775808<=x.2/\x.2<=9223372036854775807) (hl:H.length<=4096) (hm:∀k j,mc.1 k=some j->j<=4096):
 ao go 15 [.u b 0,v] h fun u h'=>u=.D [ZZ ((j5 mc.1 H 0 l kn).2.1:Int),ZZ (j5 mc.1 H 0 l kn).1]/\
  ((j5 mc.1 H 0 l kn).1=0->Fr (bl::pm.toList) h h'/\L_ n0 h' b Ks cap X (j5 mc.1 H 0 l kn).2.2.1 (j5 mc.1 H 0 l kn).2.2.2 st vK bg B bm S bl pm mc)/\
  ((j5 mc.1 H 0 l kn).1≠0->Fr (b::bl::pm.toList) h h'/\∃c pm',h.e<=c/\(∀q,pm'=some q->h.e<=q)/\L_ n0 h' b Ks cap X l kn st vK bg B bm S c pm' mc):=by
 have l4:ab h b 4=some (.u bl 0):=s.ob.j 4;have sH:=sv [] h iS (Wl w);refine ah ?_;simp only[b_,seval];refine aa (mA s) ?_;rintro _ _ ⟨rfl,rfl⟩;simp only[b_,seval,l4];apply aa (xo w s.lo);rintro _ h1 ⟨c,af,rfl,hc,hp,a1,F1⟩;simp only[b_,seval,(sH.fr F1).t_];have aR:=Q4.ne a1;have n1:=F1.e;have wm:∀z,z∈bl::pm.toList->z∈Wr b bg B bm S bl pm:=by intro z m;obtain rfl|m:=Wt.1 m;simp[Wr];exact Wa.2 (.inr m)
 have wl:∀z,z∈bl::pm.toList->z<h.e:=by intro z m;obtain rfl|m:=Wt.1 m;exact s.bl';exact s.pl z (eV m)
 have bn:=s.ob.lt w;refine aA (fun n env hh=>Fr (bl::pm.toList) h1 hh/\∃(i:Nat)(l2:List Int)(ak:List Bool),Q4 hh c af l kn st/\L_ n0 hh b Ks cap X l2 ak st vK bg B bm S bl pm mc/\
  env.c_ 21=some (ZZ i)/\env.c_ 20=some (ZZ H.length)/\env.c_ 19=some v/\env.c_ 0=some (.u b 0)/\env.c_ 1=some v/\env.c_ 6=some (.u c 0)/\i<=H.length/\j5 mc.1 (H.drop i) i l2 ak=j5 mc.1 H 0 l kn/\n=H.length-i) H.length oM ?_ ?_
 exact⟨frQ (Wl F1.o),0,l,kn,a1,s.fr w F1,iS,iS,iS,iS,iS,iS,oM,rfl,rfl⟩;rintro n env hh ⟨F,i,l2,ak,ac,ss,ay,aJ,a0,g0,g1,g6,hi,em,rfl⟩;have Fh:Fr (bl::pm.toList) h hh:=Wp F1 F w iS (fun x m=>.inl m);have aH:=sv (bl::pm.toList) hh (fun z m=>.inl (wm z m)) Fh;by_cases a3:i<H.length;have ae:(i:Int)<H.length:=oM;let⟨bi,oi,x,p1,_,p3,p4⟩:=aH.ix (f:=htC) (k:=2) (fun _=>rfl) .i64 (i:Int) oM ae;rw[pi]at p4;let⟨k0,z0,z1⟩:=hH x (Wc p4);have hd:H.drop i=x::H.drop (i+1):=aL p4;let⟨h3,aN,ar,az⟩:=aq F.o [ZX 0,ZZ 0];simp only[b_,seval,ay,aJ,a0,ae,p1,p3,<-aN];apply B_ ar.o az;rintro h4 o4 F4 n4;have ax:Fr [] hh h4:=ar.z F4 F.o (VZ _);have s4:=ss.fr F.o ax;have x0:ab h4 hh.e 0=some (ZX (x.1:Int)):=o4.j 0;have x1:ab h4 hh.e 1=some (ZZ x.2):=o4.j 1;have b3:ab h4 b 3=some (.u bm 0):=s4.ob.j 3;simp only[b_,seval,j_,g0,x0,b3];apply aa (mG ax.o s4.k k0);rintro _ h5 ⟨rfl,F5⟩;have K:=ax.c F5;have s5:=ss.fr F.o K;have x1:ab h5 hh.e 1=some (ZZ x.2):=(F5.i o4).j 1;have b4:ab h5 b 4=some (.u bl 0):=s5.ob.j 4;cases ek:mc.1 x.1 with
 |none=>
  have e:j5 mc.1 H 0 l kn=(11,i,l2,ak):=by rw[<-em,hd];simp[j5,ek]
  rw[e];simp only[b_,seval,DF,j_,fJ,x0,b3,g0,g6];apply B_ K.o s5.ob;rintro h6 o6 F6 n6;have an:Q4 h6 c af l kn st:=(ac.fr K).frS F6 (Y9.I s5.ob iS (j4 (n:=2) rfl)) oO (fun q e=>by have:=hp q e;simp;omega);have f6:Fr (b::bl::pm.toList) h h6:=Wp (Wp Fh K w (fun x m=>.inl m) (fun x m=>by simp at m)) F6 w (fun x m=>.inl (YY _ m)) (fun x m=>.inl (by simp at m;simp[m]));have s6:=s.relay w f6 o6 an s.t_ hc (fun q e=>⟨hp q e,aR q e⟩);simp only[b_,seval];exact⟨fun e=>e.elim,fun _=>⟨f6,c,af,hc,hp,s6⟩⟩
 |some j=>
  have jl:=hm _ _ ek;simp only[b_,seval,DF,j_,fJ,x0,b3,x1,b4,g0];apply aa (Jv K.o s5.lo z0 z1 oM oM);rintro _ h6 ⟨rfl,a6,F6⟩;have a4:ab h6 b 4=some (.u bl 0):=(F6.I b _ (fun m=>by have:=s.d;obtain m|m:=Wt.1 m;exact this.r m;exact(this.p b (eV m)).1 rfl) s5.ob).j 4
  have a5:ab h6 hh.e 1=some (ZZ x.2):=(F6.I _ _ (fun m=>by have:=F.e;have:=wl _ m;omega) (F5.i o4)).j 1;have an:Q4 h6 c af l kn st:=(ac.fr K).frS F6 s5.lo.oth (fun m=>by have:=wl _ m;omega) (fun q e m=>by have:=hp q e;have:=wl _ m;omega);by_cases c5:bJ l2 j x.2=0;rw[if_pos c5]at a6;have s6:=s5.lay K.o F6 a6 (eG ss.t_) (.inl rfl);have aT:Fr (bl::pm.toList) h1 h6:=Wp (Wp F K F1.o (fun x m=>.inl m) (fun x m=>by simp at m)) F6 F1.o (fun x m=>.inl m) (fun x m=>.inl m);have e:j5 mc.1 (H.drop (i+1)) (i+1) (l2.set j x.2) (ak.set j true)=j5 mc.1 H 0 l kn:=by rw[<-em,hd];simp[j5,ek,c5]
  simp(disch:=omega) only[b_,seval,DF,j_,ag,x1,b4,ay,eq_true c5];refine s_ ⟨H.length-(i+1),oM,aT,i+1,_,_,an,s6,iS,iX,iX,iX,iX,iX,oM,e,rfl⟩;rw[if_neg c5]at a6;have s6:=s5.lay K.o F6 a6 ss.t_ (.inl rfl);have e:j5 mc.1 H 0 l kn=(bJ l2 j x.2,i,l2,ak):=by rw[<-em,hd];simp[j5,ek,c5]
  rw[e];simp only[b_,seval,DF,j_,x1,b4,g0,g6,eq_false c5];apply B_ F6.o s6.ob;rintro h7 o7 F7 n7;have a2:Q4 h7 c af l kn st:=an.frS F7 (Y9.I s6.ob iS (j4 (n:=2) rfl)) oO (fun q e=>by have:=hp q e;simp;omega);have f7:Fr (b::bl::pm.toList) h h7:=Wp (Wp (Wp Fh K w (fun x m=>.inl m) (fun x m=>by simp at m)) F6 w (fun x m=>.inl m) (fun x m=>.inl m)) F7 w (fun x m=>.inl (YY _ m)) (fun x m=>.inl (by simp at m;simp[m]));have s7:=s.relay w f7 o7 a2 s.t_ hc (fun q e=>⟨hp q e,aR q e⟩);simp only[b_,seval];exact⟨fun e=>e.elim,fun _=>⟨f7,c,af,hc,hp,s7⟩⟩
 have:i=H.length:=oM;subst this;rw[XR]at em;rw[<-em];have ae:¬(H.length:Int)<H.length:=oM;simp only[b_,seval,ay,aJ,g1,eq_false ae,aH.t_];exact⟨rfl,fun _=>⟨Fh,ss⟩,fun e=>absurd rfl e⟩
def oI:List V:=[.f [],.h false,.h false,.h false,.h false,.R,.f [105,110,115,101,114,116],.h true,.h false,.h false,.h true,.E (.func 168) [] [],.f [114,101,109,111,118,101],.h true,.h true,.h false,.h false,.E (.func 170) [] [],
 .f [109,111,118,101],.h true,.h true,.h true,.h false,.E (.func 171) [] [],.f [99,104,97,110,103,101],.h true,.h false,.h false,.h true,.E (.func 173) [] [],.f [114,101,115,101,116],.h false,.h false,.h false,.h true,.E (.func 175) [] []]
theorem HR{h:a_}(w:WF h):ao go 109 [] h fun u h'=>u=.B oI/\Fr [] h h':=by
 let⟨h1,K,Z,ac⟩:=aq w [.f [],.h false,.h false,.h false,.h false,.R,.f [],.h false,.h false,.h false,.h false,.R,.f [],.h false,.h false,.h false,.h false,.R,.f [],.h false,.h false,.h false,.h false,.R,.f [],.h false,.h false,.h false,.h false,.R,.f [],.h false,.h false,.h false,.h false,.R];refine ah ?_;simp[b_,<-K];refine B_ Z.o ac ?_;rintro h2 o2 F2 n2;have l2:aj h2 h.e 0 36=some oI:=by rw[o2.N];rfl
 have ae:Fr [] h h2:=Z.z F2 w (VZ _);simp[b_,l2];exact ae
def eO(k:Nat)(a c t:Int)(n:Nat):Int:=
 if k<1\/5<k then 1 else if(k=5/\a≠0)\/(¬(k=2\/k=3)/\c≠0)\/(k≠3/\t≠0)\/((k=2\/k=3)/\0<n)then 5 else 0
theorem Oa{call:aI}{s:n_}{l:List n_}{i:Nat}{h:a_}(K:late.contains i=false)(Z:j_ s.a=false)(e:aU call loc env h s.a=none):
 Q7 call env late (s::l) i loc h=(Q7 call env late l (i+1) (.D []::loc) h).map fun r=>((s,none)::r.1,r.2):=by
 simp only[Q7,K,cond_false,ww,Z,e];cases Q7 call env late l (i+1) (V.D []::loc) h<;>rfl
abbrev zh:List V:=[.f [],.h false,.h false,.h false,.h false,.R]
theorem Pf{h:a_}{b1:Nat}{k:Nat}(g1:env.c_ 1=some (.u b1 0))(l0:ab h b1 0=some (ZY (k:Int))):
 Q7 go env [4] [⟨none,.d 109 [],none⟩,⟨none,.p (.b 0) [.v 1],none⟩,⟨none,.a 1 false (.l 0),none⟩,⟨none,.p (.f 6 6 true) [.l 2,.l 0],none⟩,⟨none,.c zh,none⟩,⟨none,.h 6 (.l 0) (.l 1),none⟩] 0 [] h=
  some ([(⟨none,.d 109 [],none⟩,none),(⟨none,.p (.b 0) [.v 1],none⟩,none),(⟨none,.a 1 false (.l 0),none⟩,none),(⟨none,.p (.f 6 6 true) [.l 2,.l 0],none⟩,none),(⟨none,.c zh,none⟩,some (.u h.e 0,zh)),(⟨none,.h 6 (.l 0) (.l 1),none⟩,none)],h_ h zh):=by
 have K:∀(Z:List V)(h:a_)(k:Nat),aU go Z env h (.p (.b k) [.v 1])=some (.u b1 k,h):=fun Z h k=>by simp[aU,fP,cW,iI,g1,cC,jR]
 have ac:∀(Z:List V)(h:a_)(k:Nat)(v:V),ab h b1 k=some v->aU go (.u b1 k::Z) env h (.a 1 false (.l 0))=some (v,h):=fun Z h k v e=>by simp[aU,nD,bO,fE,e]
 rw[zP rfl rfl,de rfl rfl (K _ _ _),de rfl rfl (ac _ _ _ _ l0),Oa rfl rfl rfl,CP (c:=zh) (k:=none) rfl rfl,zP rfl rfl];rfl
theorem zQ(Z:List V)(env:T V)(n:Nat):ce Z env (.c zh) (.u n 0) zh=true:=by simp[ce,jI,nL,R1,eM,T2]
theorem Er{h:a_}{k n:Nat}{a c t:Int}{v:V}(w:WF h)(hk:k<256)(sl:T5 h 4 v n cs):
 ao go 56 [.B [ZY (k:Int),ZZ a,ZZ c,ZZ t,v]] h fun u h'=>u=ZZ (eO k a c t n)/\Fr [] h h':=by
 have v1:v.U=true:=T5.U sl;let⟨h1,an,ac,ak⟩:=aq w [ZY (k:Int),ZZ a,ZZ c,ZZ t,v];have l0:ab h1 h.e 0=some (ZY (k:Int)):=ak.j 0;by_cases c1:k<1;have ar:(k:Int)<1:=oM;refine ah ?_;simp only[b_,↓reduceIte,Nat.reduceEqDiff,<-an,l0,eq_true ar];rw[eO,if_pos (.inl c1)];exact⟨rfl,ac⟩;have ar:¬(k:Int)<1:=oM;by_cases c2:5<k;have ay:(5:Int)<k:=oM;refine ah ?_;simp only[b_,↓reduceIte,Nat.reduceEqDiff,<-an,l0,eq_false ar,eq_true ay];rw[eO,if_pos (.inr c2)];exact⟨rfl,ac⟩;have ay:¬(5:Int)<k:=oM;refine ah ?_;simp[b_,<-an,l0,eq_false ar,eq_false ay];refine(Fv _ _ _ _ _ _).2 ?_;rw[Pf (b1:=h.e) iS l0,jT];let⟨h3,aH,af,az⟩:=aq ac.o zh;simp[b_,j_,<-aH];refine aa (HR af.o) ?_;rintro _ h4 ⟨rfl,F4⟩;have l0:ab h4 h.e 0=some (ZY (k:Int)):=((af.c F4).i ak).j 0;have ob:=F4.i az;have K:ab h3 h.e 0=some (ZY (k:Int)):=(af.i ak).j 0;have nq:h1.e≠h.e:=by rw[an];simp[h_]
 obtain rfl|rfl|rfl|rfl|rfl:k=1\/k=2\/k=3\/k=4\/k=5:=oM;have ax:aP (PK.f 6 6 true) [.B oI,ZY ((1:Nat):Int)]=some (.B [.f [105,110,115,101,114,116],.h true,.h false,.h false,.h true,.E (.func 168) [] []]):=rfl;simp only[b_,↓reduceIte,Nat.reduceEqDiff,j_,l0,zQ,ax];refine B_ F4.o ob ?_;rintro h5 o5 F5 n5;have ae:Fr [] h1 h5:=(af.c F4).z F5 ac.o (VZ _);have Z:=ac.c ae;have om:=ae.i ak;have m0:=om.j 0;have m1:=om.j 1;have m2:=om.j 2;have m3:=om.j 3;have m4:=om.j 4;have r1:=o5.j 1;have r2:=o5.j 2;have r3:=o5.j 3;have r4:=o5.j 4;simp only[bO,cL]at m0 m1 m2 m3 m4 r1 r2 r3 r4;by_cases hc:c=0;by_cases ht:t=0;simp only[b_,↓reduceIte,Nat.reduceEqDiff,DF,l0,K,m2,m3,r1,r2,r3,r4,eq_true hc,eq_true ht];exact⟨by rw[eO,if_neg oM];split<;>first|rfl|omega,Z⟩
 simp only[b_,↓reduceIte,Nat.reduceEqDiff,DF,l0,K,m2,m3,r1,r2,r3,eq_true hc,eq_false ht];exact⟨by rw[eO,if_neg oM];split<;>first|rfl|omega,Z⟩
 by_cases ht:t=0;simp only[b_,↓reduceIte,Nat.reduceEqDiff,DF,l0,K,m2,r1,r2,eq_false hc];exact⟨by rw[eO,if_neg oM];split<;>first|rfl|omega,Z⟩
 simp only[b_,↓reduceIte,Nat.reduceEqDiff,DF,l0,K,m2,r1,r2,eq_false hc];exact⟨by rw[eO,if_neg oM];split<;>first|rfl|omega,Z⟩
 have ax:aP (PK.f 6 6 true) [.B oI,ZY ((2:Nat):Int)]=some (.B [.f [114,101,109,111,118,101],.h true,.h true,.h false,.h false,.E (.func 170) [] []]):=rfl;simp only[b_,↓reduceIte,Nat.reduceEqDiff,j_,l0,zQ,ax];refine B_ F4.o ob ?_;rintro h5 o5 F5 n5;have ae:Fr [] h1 h5:=(af.c F4).z F5 ac.o (VZ _);have Z:=ac.c ae;have om:=ae.i ak;have m0:=om.j 0;have m1:=om.j 1;have m2:=om.j 2;have m3:=om.j 3;have m4:=om.j 4;have r1:=o5.j 1;have r2:=o5.j 2;have r3:=o5.j 3;have r4:=o5.j 4;simp only[bO,cL]at m0 m1 m2 m3 m4 r1 r2 r3 r4;by_cases ht:t=0;by_cases hn:(0:Int)<(n:Int);simp only[b_,↓reduceIte,Nat.reduceEqDiff,DF,l0,K,m3,m4,r1,r2,r3,r4,(sl.fr Z).t_,eq_true ht,eq_true hn];exact⟨by rw[eO,if_neg oM];split<;>first|rfl|omega,Z⟩
 simp only[b_,↓reduceIte,Nat.reduceEqDiff,DF,l0,K,m3,m4,r1,r2,r3,r4,(sl.fr Z).t_,eq_true ht,eq_false hn];exact⟨by rw[eO,if_neg oM];split<;>first|rfl|omega,Z⟩
 by_cases hn:(0:Int)<(n:Int);simp only[b_,↓reduceIte,Nat.reduceEqDiff,DF,l0,K,m3,r1,r2,r3,eq_false ht];exact⟨by rw[eO,if_neg oM];split<;>first|rfl|omega,Z⟩
 simp only[b_,↓reduceIte,Nat.reduceEqDiff,DF,l0,K,m3,r1,r2,r3,eq_false ht];exact⟨by rw[eO,if_neg oM];split<;>first|rfl|omega,Z⟩
 have ax:aP (PK.f 6 6 true) [.B oI,ZY ((3:Nat):Int)]=some (.B [.f [109,111,118,101],.h true,.h true,.h true,.h false,.E (.func 171) [] []]):=rfl;simp only[b_,↓reduceIte,Nat.reduceEqDiff,j_,l0,zQ,ax];refine B_ F4.o ob ?_;rintro h5 o5 F5 n5;have ae:Fr [] h1 h5:=(af.c F4).z F5 ac.o (VZ _);have Z:=ac.c ae;have om:=ae.i ak;have m0:=om.j 0;have m1:=om.j 1;have m2:=om.j 2;have m3:=om.j 3;have m4:=om.j 4;have r1:=o5.j 1;have r2:=o5.j 2;have r3:=o5.j 3;have r4:=o5.j 4;simp only[bO,cL]at m0 m1 m2 m3 m4 r1 r2 r3 r4;by_cases hn:(0:Int)<(n:Int);simp only[b_,↓reduceIte,Nat.reduceEqDiff,DF,l0,K,m4,r1,r2,r3,r4,(sl.fr Z).t_,eq_true hn];exact⟨by rw[eO,if_neg oM];split<;>first|rfl|omega,Z⟩
 simp only[b_,↓reduceIte,Nat.reduceEqDiff,DF,l0,K,m4,r1,r2,r3,r4,(sl.fr Z).t_,eq_false hn];exact⟨by rw[eO,if_neg oM];split<;>first|rfl|omega,Z⟩
 have ax:aP (PK.f 6 6 true) [.B oI,ZY ((4:Nat):Int)]=some (.B [.f [99,104,97,110,103,101],.h true,.h false,.h false,.h true,.E (.func 173) [] []]):=rfl;simp only[b_,↓reduceIte,Nat.reduceEqDiff,j_,l0,zQ,ax];refine B_ F4.o ob ?_;rintro h5 o5 F5 n5;have ae:Fr [] h1 h5:=(af.c F4).z F5 ac.o (VZ _);have Z:=ac.c ae;have om:=ae.i ak;have m0:=om.j 0;have m1:=om.j 1;have m2:=om.j 2;have m3:=om.j 3;have m4:=om.j 4;have r1:=o5.j 1;have r2:=o5.j 2;have r3:=o5.j 3;have r4:=o5.j 4;simp only[bO,cL]at m0 m1 m2 m3 m4 r1 r2 r3 r4;by_cases hc:c=0;by_cases ht:t=0;simp only[b_,↓reduceIte,Nat.reduceEqDiff,DF,l0,K,m2,m3,r1,r2,r3,r4,eq_true hc,eq_true ht];exact⟨by rw[eO,if_neg oM];split<;>first|rfl|omega,Z⟩
 simp only[b_,↓reduceIte,Nat.reduceEqDiff,DF,l0,K,m2,m3,r1,r2,r3,eq_true hc,eq_false ht];exact⟨by rw[eO,if_neg oM];split<;>first|rfl|omega,Z⟩
 by_cases ht:t=0;simp only[b_,↓reduceIte,Nat.reduceEqDiff,DF,l0,K,m2,r1,r2,eq_false hc];exact⟨by rw[eO,if_neg oM];split<;>first|rfl|omega,Z⟩
 simp only[b_,↓reduceIte,Nat.reduceEqDiff,DF,l0,K,m2,r1,r2,eq_false hc];exact⟨by rw[eO,if_neg oM];split<;>first|rfl|omega,Z⟩
 have ax:aP (PK.f 6 6 true) [.B oI,ZY ((5:Nat):Int)]=some (.B [.f [114,101,115,101,116],.h false,.h false,.h false,.h true,.E (.func 175) [] []]):=rfl;simp only[b_,↓reduceIte,Nat.reduceEqDiff,j_,l0,zQ,ax];refine B_ F4.o ob ?_;rintro h5 o5 F5 n5;have ae:Fr [] h1 h5:=(af.c F4).z F5 ac.o (VZ _);have Z:=ac.c ae;have om:=ae.i ak;have m0:=om.j 0;have m1:=om.j 1;have m2:=om.j 2;have m3:=om.j 3;have m4:=om.j 4;have r1:=o5.j 1;have r2:=o5.j 2;have r3:=o5.j 3;have r4:=o5.j 4;simp only[bO,cL]at m0 m1 m2 m3 m4 r1 r2 r3 r4;by_cases ha:a=0;by_cases hc:c=0;by_cases ht:t=0;simp only[b_,↓reduceIte,Nat.reduceEqDiff,DF,l0,K,m1,m2,m3,r1,r2,r3,r4,eq_true ha,eq_true hc,eq_true ht];exact⟨by rw[eO,if_neg oM];split<;>first|rfl|omega,Z⟩
 simp only[b_,↓reduceIte,Nat.reduceEqDiff,DF,l0,K,m1,m2,m3,r1,r2,r3,eq_true ha,eq_true hc,eq_false ht];exact⟨by rw[eO,if_neg oM];split<;>first|rfl|omega,Z⟩
 by_cases ht:t=0;simp only[b_,↓reduceIte,Nat.reduceEqDiff,DF,l0,K,m1,m2,r1,r2,eq_true ha,eq_false hc];exact⟨by rw[eO,if_neg oM];split<;>first|rfl|omega,Z⟩
 simp only[b_,↓reduceIte,Nat.reduceEqDiff,DF,l0,K,m1,m2,r1,r2,eq_true ha,eq_false hc];exact⟨by rw[eO,if_neg oM];split<;>first|rfl|omega,Z⟩
 by_cases hc:c=0;by_cases ht:t=0;simp only[b_,↓reduceIte,Nat.reduceEqDiff,DF,l0,K,m1,r1,eq_false ha];exact⟨by rw[eO,if_neg oM];split<;>first|rfl|omega,Z⟩
 simp only[b_,↓reduceIte,Nat.reduceEqDiff,DF,l0,K,m1,r1,eq_false ha];exact⟨by rw[eO,if_neg oM];split<;>first|rfl|omega,Z⟩
 by_cases ht:t=0;simp only[b_,↓reduceIte,Nat.reduceEqDiff,DF,l0,K,m1,r1,eq_false ha];exact⟨by rw[eO,if_neg oM];split<;>first|rfl|omega,Z⟩
 simp only[b_,↓reduceIte,Nat.reduceEqDiff,DF,l0,K,m1,r1,eq_false ha];exact⟨by rw[eO,if_neg oM];split<;>first|rfl|omega,Z⟩
theorem pW{z:g_}{i:Nat}(Z:i<z.length)(p:Int->Bool):fD p (z.drop i)=(p ((z[i]).toNat:Int)||fD p (z.drop (i+1))):=by unfold fD;rw[Xf Z,ZA]
theorem r8{z:g_}{i:Nat}(Z:z.length<=i)(p:Int->Bool):fD p (z.drop i)=false:=by rw[Wo Z];rfl
def kQ(b:Bool):Int:=if b then 1 else 0
theorem lV{h:a_}{z:g_}:ao go 138 [.f z] h fun u h'=>u=ZZ (kQ (P8 z))/\h=h':=by
 by_cases c1:(64:Int)<(z.length:Nat);refine ah ?_;simp only[b_,seval,aK,eq_true c1];have:P8 z=false:=by unfold P8;rw[decide_eq_false oM];rfl
 rw[this];rfl;refine ah ?_;simp[b_,aK,eq_false c1];refine aA (fun k env hh=>hh=h/\∃(i:Nat),env.c_ 3=some (ZZ i)/\env.c_ 0=some (.f z)/\i<=z.length/\fD i7 (z.drop i)=fD i7 z/\k=z.length-i) z.length oM ?_ ?_;exact⟨rfl,0,iS,iS,oM,rfl,rfl⟩;rintro k env hh ⟨rfl,i,g3,g0,hi,e,rfl⟩;by_cases K:i<z.length;have Z:(i:Int)<z.length:=oM;rw[pW K]at e;by_cases c2:((z[i]).toNat:Int)<32;simp only[b_,seval,g3,g0,aK,Z,bW K,eq_true c2];have:P8 z=false:=by unfold P8;rw[<-e];simp[i7,c2]
 rw[this];rfl;by_cases c3:(126:Int)<((z[i]).toNat:Int);simp only[b_,seval,g3,g0,aK,Z,bW K,eq_false c2,eq_true c3];have:P8 z=false:=by unfold P8;rw[<-e];simp[i7,c3]
 rw[this];rfl;simp(disch:=omega)[b_,ag,g3,g0,aK,Z,bW K,eq_false c2,eq_false c3];have b0:i7 ((z[i]).toNat:Int)=false:=by simp only[i7,Bool.or_eq_false_iff,decide_eq_false_iff_not];exact⟨c2,c3⟩
 rw[b0,Yr]at e;refine s_ ⟨z.length-(i+1),oM,rfl,i+1,iS,iX,oM,e,rfl⟩;simp only[b_,seval,g3,g0,aK,(oM:¬(i:Int)<z.length)];rw[r8 oM]at e;have:P8 z=true:=by unfold P8;rw[<-e,decide_eq_true oM];rfl
 rw[this];rfl
theorem kK{h:a_}{z:g_}:ao go 200 [.f z] h fun u h'=>u=.h (P8 z)/\h=h':=by
 by_cases c1:(64:Int)<(z.length:Nat);refine ah ?_;simp only[b_,seval,aK,eq_true c1];have:P8 z=false:=by unfold P8;rw[decide_eq_false oM];rfl
 rw[this];refine ah ?_;simp[b_,aK,eq_false c1];refine aA (fun k env hh=>hh=h/\∃(i:Nat),env.c_ 3=some (ZZ i)/\env.c_ 0=some (.f z)/\i<=z.length/\fD i7 (z.drop i)=fD i7 z/\k=z.length-i) z.length oM ?_ ?_;exact⟨rfl,0,iS,iS,oM,rfl,rfl⟩;rintro k env hh ⟨rfl,i,g3,g0,hi,e,rfl⟩;by_cases K:i<z.length;have Z:(i:Int)<z.length:=oM;rw[pW K]at e;by_cases c2:((z[i]).toNat:Int)<32;simp only[b_,seval,g3,g0,aK,Z,bW K,eq_true c2];have:P8 z=false:=by unfold P8;rw[<-e];simp[i7,c2]
 rw[this];by_cases c3:(126:Int)<((z[i]).toNat:Int);simp only[b_,seval,g3,g0,aK,Z,bW K,eq_false c2,eq_true c3];have:P8 z=false:=by unfold P8;rw[<-e];simp[i7,c3]
 rw[this];simp(disch:=omega)[b_,ag,g3,g0,aK,Z,bW K,eq_false c2,eq_false c3];have b0:i7 ((z[i]).toNat:Int)=false:=by simp only[i7,Bool.or_eq_false_iff,decide_eq_false_iff_not];exact⟨c2,c3⟩
 rw[b0,Yr]at e;refine s_ ⟨z.length-(i+1),oM,rfl,i+1,iS,iX,oM,e,rfl⟩;simp only[b_,seval,g3,g0,aK,(oM:¬(i:Int)<z.length)];rw[r8 oM]at e;have:P8 z=true:=by unfold P8;rw[<-e,decide_eq_true oM];rfl
 rw[this]
theorem HB{h:a_}{z:g_}:ao go 139 [.f z] h fun u h'=>u=ZZ (kQ (G_ z))/\h=h':=by
 by_cases c0:(z.length:Int)<1;refine ah ?_;simp only[b_,seval,aK,eq_true c0];have:G_ z=false:=by unfold G_;rw[decide_eq_false oM];rfl
 rw[this];rfl;by_cases c1:(16:Int)<(z.length:Nat);refine ah ?_;simp only[b_,seval,aK,eq_false c0,eq_true c1];have:G_ z=false:=by unfold G_;rw[decide_eq_false (oM:¬z.length<=16)];simp
 rw[this];rfl;refine ah ?_;simp[b_,aK,eq_false c0,eq_false c1];refine aA (fun k env hh=>hh=h/\∃(i:Nat),env.c_ 3=some (ZZ i)/\env.c_ 0=some (.f z)/\i<=z.length/\fD dA (z.drop i)=fD dA z/\k=z.length-i) z.length oM ?_ ?_;exact⟨rfl,0,iS,iS,oM,rfl,rfl⟩;rintro k env hh ⟨rfl,i,g3,g0,hi,e,rfl⟩;by_cases K:i<z.length;have Z:(i:Int)<z.length:=oM;rw[pW K]at e;have bad:dA ((z[i]).toNat:Int)=true->G_ z=false:=fun q=>by unfold G_;rw[<-e,q];simp
 have good:dA ((z[i]).toNat:Int)=false->fD dA (z.drop (i+1))=fD dA z:=fun q=>by rw[<-e,q];rfl
 by_cases c1:(97:Int)<=((z[i]).toNat:Int);by_cases c2:((z[i]).toNat:Int)<=122;simp(disch:=omega)[b_,ag,g3,g0,aK,Z,bW K,eq_true c1,eq_true c2];refine s_ ⟨z.length-(i+1),oM,rfl,i+1,iS,iX,oM,good (by simp[dA];omega),rfl⟩;by_cases c3:(48:Int)<=((z[i]).toNat:Int);have c4:¬((z[i]).toNat:Int)<=57:=oM;simp only[b_,seval,g3,g0,aK,Z,bW K,eq_true c1,eq_false c2,eq_true c3,eq_false c4];rw[bad (by simp[dA];omega)];rfl;omega;by_cases c3:(48:Int)<=((z[i]).toNat:Int);by_cases c4:((z[i]).toNat:Int)<=57;simp(disch:=omega)[b_,ag,g3,g0,aK,Z,bW K,eq_false c1,eq_true c3,eq_true c4];refine s_ ⟨z.length-(i+1),oM,rfl,i+1,iS,iX,oM,good (by simp[dA];omega),rfl⟩;simp only[b_,seval,g3,g0,aK,Z,bW K,eq_false c1,eq_true c3,eq_false c4];rw[bad (by simp[dA];omega)];rfl;simp only[b_,seval,g3,g0,aK,Z,bW K,eq_false c1,eq_false c3];rw[bad (by simp[dA];omega)];rfl;simp only[b_,seval,g3,g0,aK,(oM:¬(i:Int)<z.length)];rw[r8 oM]at e;have:G_ z=true:=by unfold G_;rw[<-e,decide_eq_true oM,decide_eq_true (oM:z.length<=16)];rfl
 rw[this];rfl
theorem fG{h:a_}{z:g_}:ao go 201 [.f z] h fun u h'=>u=.h (G_ z)/\h=h':=by
 refine ah ?_;simp[b_];refine aA (fun k env hh=>hh=h/\∃(i:Nat),env.c_ 3=some (ZZ i)/\env.c_ 0=some (.f z)/\i<=z.length/\i<=17/\fD dA (z.drop i)=fD dA z/\k=17-i) 17 oM ?_ ?_;exact⟨rfl,0,iS,iS,oM,oM,rfl,rfl⟩;rintro k env hh ⟨rfl,i,g3,g0,hi,ae,e,rfl⟩;by_cases K:i<z.length;have Z:(i:Int)<z.length:=oM;by_cases ac:(i:Int)<17;rw[pW K]at e;have bad:dA ((z[i]).toNat:Int)=true->G_ z=false:=fun q=>by unfold G_;rw[<-e,q];simp
 have good:dA ((z[i]).toNat:Int)=false->fD dA (z.drop (i+1))=fD dA z:=fun q=>by rw[<-e,q];rfl
 by_cases c1:((z[i]).toNat:Int)<97;by_cases c3:((z[i]).toNat:Int)<48;simp only[b_,seval,g3,g0,aK,Z,bW K,eq_true c1,eq_true c3,eq_true ac];rw[bad (by simp[dA];omega)];by_cases c4:(57:Int)<((z[i]).toNat:Int);simp only[b_,seval,g3,g0,aK,Z,bW K,eq_true c1,eq_false c3,eq_true c4,eq_true ac];rw[bad (by simp[dA];omega)];simp(disch:=omega)[b_,ag,g3,g0,aK,Z,bW K,eq_true c1,eq_false c3,eq_false c4,eq_true ac];refine s_ ⟨17-(i+1),oM,rfl,i+1,iS,iX,oM,oM,good (by simp[dA];omega),rfl⟩;by_cases c2:(122:Int)<((z[i]).toNat:Int);have c3:¬((z[i]).toNat:Int)<48:=oM;have c4:(57:Int)<((z[i]).toNat:Int):=oM;simp only[b_,seval,g3,g0,aK,Z,bW K,eq_false c1,eq_true c2,eq_false c3,eq_true c4,eq_true ac];rw[bad (by simp[dA];omega)];simp(disch:=omega)[b_,ag,g3,g0,aK,Z,bW K,eq_false c1,eq_false c2,eq_true ac];refine s_ ⟨17-(i+1),oM,rfl,i+1,iS,iX,oM,oM,good (by simp[dA];omega),rfl⟩;simp only[b_,seval,g3,g0,aK,Z,eq_false ac,(oM:(1:Int)<=(z.length:Nat)),(oM:¬((z.length:Nat):Int)<=16)];have:G_ z=false:=by unfold G_;rw[decide_eq_false (oM:¬z.length<=16)];simp
 rw[this];rw[r8 oM]at e;by_cases c0:(1:Int)<=(z.length:Nat);have e2:G_ z=decide (((z.length:Nat):Int)<=16):=by
  unfold G_;rw[<-e,decide_eq_true oM];have:decide (z.length<=16)=decide (((z.length:Nat):Int)<=16):=by rw[decide_eq_decide];omega
  rw[this];simp
 by_cases c1:((z.length:Nat):Int)<=16;simp only[b_,seval,g3,g0,aK,(oM:¬(i:Int)<z.length),eq_true c0,eq_true c1];rw[e2,decide_eq_true c1];simp only[b_,seval,g3,g0,aK,(oM:¬(i:Int)<z.length),eq_true c0,eq_false c1];rw[e2,decide_eq_false c1];simp only[b_,seval,g3,g0,aK,(oM:¬(i:Int)<z.length),eq_false c0];have:G_ z=false:=by unfold G_;rw[decide_eq_false oM];rfl
 rw[this]
theorem Iu:∀d,d<10->aP (.C true true) [.f [48,49,50,51,52,53,54,55,56,57],ZX (d:Nat),ZX ((d:Nat)+1)]=some (.f [UInt8.ofNat (48+d)]):=by
 intro d Z;match d,Z with
 |0,_=>rfl
 |1,_=>rfl
 |2,_=>rfl
 |3,_=>rfl
 |4,_=>rfl
 |5,_=>rfl
 |6,_=>rfl
 |7,_=>rfl
 |8,_=>rfl
 |9,_=>rfl
theorem IX(a b:g_)(h:a.length+b.length<9223372036854775808):aP (.B .add) [.f a,.f b]=some (.f (a++b)):=by simp[aP,qg,(WB ..).mpr h]
theorem C6:∀(k n:Nat),n<10^(k+1)→(W8 n).length≤k+1
 |k,n,h=>by
  by_cases c:n<10;rw[yn c];simp;match k,h with
  |0,h=>omega
  |k+1,h=>rw[BL c,List.length_append];have:=C6 k (n/10) (by rw[Nat.pow_succ]at h;omega);simp only[List.length_cons,List.length_nil];omega
theorem wH{n:Nat}(h:n<18446744073709551616):(W8 n).length<=20:=C6 19 n oM
theorem pL{h:a_}:∀(k n:Nat),n<k→n<18446744073709551616→ao go 202 [.A .u64 (n:Int)] h fun u h'=>u=.f (W8 n)∧h=h'
 |0,_,hk,_=>by omega
 |k+1,n,hk,hn=>by
  by_cases c:n<10;have c':(n:Int)<10:=oM;have f1:bP .u64 ((n:Int)+1)=(n:Int)+1:=bS _ oM oM;refine ah ?_;simp only[b_,seval,eq_true c',f1,Iu n c];rw[yn c];have c':¬(n:Int)<10:=oM;have r1:aP (.e .rem) [.A .u64 (n:Int),.A .u64 10]=some (.A .u64 ((n%10:Nat):Int)):=by rw[jD _ _ _ dI];rfl
  have r2:aP (.e .quo) [.A .u64 (n:Int),.A .u64 10]=some (.A .u64 ((n/10:Nat):Int)):=by rw[qL _ _ _ dI,(iR:((n:Int)).tdiv 10=((n/10:Nat):Int)),bS _ oM oM]
  refine ah ?_;simp only[b_,seval,eq_false c',r2];apply aa (pL k (n/10) oM oM);rintro _ _ ⟨rfl,rfl⟩;simp only[b_,seval,r1];apply aa (pL k (n%10) oM oM);rintro _ _ ⟨rfl,rfl⟩;have q1:=wH (n:=n/10) oM;have q2:=wH (n:=n%10) oM;simp only[b_,seval,IX _ _ (oM:(W8 (n/10)).length+(W8 (n%10)).length<9223372036854775808)];rw[BL c,yn (Nat.mod_lt n dI)]
theorem rD{h:a_}{x:m_}(w:WF h)(a:u_ h x):ao go 141 [.B x.s] h fun u h'=>u=ZZ (if iG x then 0 else 6)/\Fr [] h h':=by
 let⟨h1,ac,Z,K⟩:=aq w x.s;have l0:ab h1 h.e 0=some (ZX (x.J:Int)):=K.j 0;have l2:ab h1 h.e 2=some (.f x.X):=K.j 2;have l3:ab h1 h.e 3=some x.vm:=K.j 3;have am:=a.m.fr Z;by_cases c0:(x.J:Int)=0;refine ah ?_;simp only[b_,seval,<-ac,l0,eq_true c0];exact⟨by simp[iG,(oM:x.J=0)],Z⟩;refine ah ?_;simp only[b_,seval,<-ac,l0,eq_false c0,l2];apply aa kK;rintro _ _ ⟨rfl,rfl⟩;cases c2:P8 x.X;simp only[b_,seval];exact⟨by simp[iG,c2],Z⟩;by_cases c3:(8:Int)<(x.C.length:Nat);simp only[b_,seval,l3,am.t_,eq_true c3];exact⟨by simp[iG,x?,(oM:¬x.C.length<=8)],Z⟩;simp[b_,l3,am.t_,eq_false c3];refine aA (fun k env hh=>hh=h1/\∃(i:Nat),env.c_ 3=some (ZZ i)/\env.c_ 1=some (.u h.e 0)/\i<=x.C.length/\(x.C.drop i).all G_=x.C.all G_/\k=x.C.length-i) x.C.length oM ?_ ?_;exact⟨rfl,0,iS,iS,oM,rfl,rfl⟩;rintro k env hh ⟨rfl,i,g3,g1,hi,e,rfl⟩;by_cases af:i<x.C.length;have ae:(i:Int)<x.C.length:=oM;let⟨b,o,s,e1,e2,_,e5⟩:=am.ix fW .i64 i oM ae;have e4:ab hh b o=some (.f s):=e2 0 oM;rw[pi]at e5;rw[aL e5,Yb]at e;simp[b_,g3,g1,l3,am.t_,ae,e1,e4];apply aa fG;rintro _ _ ⟨rfl,rfl⟩;cases c:G_ s;simp only[b_,seval];rw[c]at e;have e':x.C.all G_=false:=by rw[<-e];rfl
 exact⟨by simp[iG,x?,e'],Z⟩;simp(disch:=omega)[b_,ag,g3];rw[c]at e;refine s_ ⟨x.C.length-(i+1),oM,rfl,i+1,iS,iX,oM,by simpa using e,rfl⟩;simp only[b_,seval,g3,g1,l3,am.t_,(oM:¬(i:Int)<x.C.length)];rw[Wo oM]at e;have e':x.C.all G_=true:=by rw[<-e];rfl
 exact⟨by simp[iG,x?,e',c2,(oM:x.J≠0),(oM:x.C.length<=8)],Z⟩
theorem Ih{h:a_}{v:V}{key:Nat}(a:q_ m_.s 4 h v X)(hn:X.length<=4096):
 ao go 79 [v,ZX (key:Int)] h fun u h'=>h=h'/\∃r:Int,u=ZZ r/\(0<=r↔∃x∈X,x.J=key):=by
 refine ah ?_;simp[b_];refine aA (fun k env hh=>hh=h/\∃(i:Nat),env.c_ 5=some (ZZ i)/\env.c_ 0=some v/\env.c_ 1=some (ZX (key:Int))/\i<=X.length/\(∀x∈X.take i,x.J≠key)/\k=X.length-i) X.length oM ?_ ?_;exact⟨rfl,0,iS,iS,iS,oM,iS,rfl⟩;rintro k env hh ⟨rfl,i,g5,g0,g1,hi,e,rfl⟩;by_cases ac:i<X.length;have Z:(i:Int)<X.length:=oM;let⟨b,o,x,e1,e2,_,K⟩:=YX (f:=m_.s) (k:=4) (fun _=>rfl) a .i64 i oM Z;have e4:ab hh b o=some (ZX (x.J:Int)):=e2 0 oM;rw[pi]at K;by_cases c:x.J=key;simp only[b_,seval,g5,g0,g1,a.t_,Z,e1,e4,c];exact⟨(i:Int),rfl,fun _=>⟨x,Wc K,c⟩,fun _=>by omega⟩;have c':¬(x.J:Int)=(key:Int):=oM;simp(disch:=omega) only[b_,seval,ag,g5,g0,g1,a.t_,Z,e1,e4,eq_false c'];refine s_ ⟨X.length-(i+1),oM,rfl,i+1,iS,iX,iX,oM,?_,rfl⟩;rw[Wn,K];intro y m;obtain m|m:=Wa.1 m;exact e y m;grind;simp only[b_,seval,g5,g0,a.t_,(oM:¬(i:Int)<X.length)];rw[Wj oM]at e;exact⟨-1,rfl,fun q=>by omega,fun⟨x,m,q⟩=>absurd q (e x m)⟩
end Go.Ev.Lay
