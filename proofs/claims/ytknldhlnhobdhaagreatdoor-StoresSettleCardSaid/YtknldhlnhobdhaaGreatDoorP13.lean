/- An evaluator of the program, and contracts over it: StcP to LmD. -/
import Derived.Test.YtknldhlnhobdhaaGreatDoorP09
import Derived.Test.YtknldhlnhobdhaaGreatDoorP12
set_option linter.unusedSimpArgs false
set_option linter.unusedVariables false
set_option linter.constructorNameAsVariable false
set_option linter.unnecessarySimpa false
set_option maxRecDepth 4000
namespace Go.Ev.Lay
variable{E Z:List d_}{Ks:List p_}{h' h1:a_}{vK vE:V}{n0:NL}{C:Nat}{pm:Option Nat}{bs ks:List Bool}{view over anchor delta:Int}{caps:List V}{lo:Bool}
open Go.Ev.St
theorem un{h:a_}{b n e:Nat}{c Z:List V}{x:V}{K:V->a_->Prop}(w:WF h)(o:e_ h b c)(hc:c.length=n*e)(a:T5 h e x n Z)(h1:aw Z=true)
 (k:∀h',e_ h' b Z->Fr [b] h h'->h'.e=h.e->K (ZZ (n:Int)) h'):OQ (rP h e (.y b 0 n n) x) K:=by
 let⟨s1,s2,_⟩:=a.src rfl;have hx:=a.1;unfold rP OQ;have hd:jB (.y b 0 n n)=some n:=rfl;simp[hd,s1];by_cases c0:n=0;subst c0;have:Z=[]:=Wu.1 oM;have:c=[]:=Wu.1 oM;subst Z c;exact⟨_,_,rfl,k h o (Wl w) rfl⟩;rw[fC c0];let⟨h',e1,o1,f1,n1⟩:=ig w o h1 (cD c 0 Z oM);refine⟨_,h',?_,k h' ?_ f1 n1⟩;grind;grind
theorem Hw:∀L:List g_,aw (L.flatMap sS)=true
 |[]=>rfl
 |s::L=>by rw[WH,aW,Hw L];rfl
theorem Ij{h:a_}{v:V}{L:List g_}(w:WF h)(a:C_ sS 1 h v L)(hn:L.length<=4096):ao go 305 [v] h fun u h'=>R0 h.e h' u L/\Fr [] h h':=by by_cases c:L.length=0;refine ah ?_;simp only[b_,seval,a.t_,eq_true (oM:(L.length:Int)=0)];exact⟨.inl ⟨Wu.1 c,.inl rfl⟩,Wl w⟩;refine ah ?_;simp only[b_,seval,a.t_,eq_false (oM:¬(L.length:Int)=0)];refine(bV _ _ _ _ _ _ _ _ oM oM oM oM).2 ?_;simp;let⟨h1,Z,K,o1⟩:=aq w (bq [.f []] L.length);rw[<-Z];clear Z;simp[b_];apply un K.o o1 (dV _ _) (a.fr K) (Hw L);intro h2 o2 F2 n2;simp[b_];exact⟨.inr ⟨h.e,rfl,VZ _,o2⟩,XD w K F2 iS⟩
theorem EP{h:a_}{b:Nat}{x:m_}(w:WF h)(o:e_ h b x.s)(a:u_ h x):ao go 304 [.y b 0 1 1] h fun u h'=>u=.y h.e 0 1 1/\e_ h' h.e x.s/\Fr [] h h':=by refine ah ?_;simp only[b_,↓reduceIte,Nat.reduceEqDiff];refine(bV _ _ _ _ _ _ _ _ oM oM oM dI).2 ?_;let⟨h1,Z,K,o1⟩:=aq w (bq Z4 1);rw[(iR:((1:Nat):Int).toNat=1),<-Z];clear Z;simp only[b_,↓reduceIte,Nat.reduceEqDiff];apply un K.o o1 rfl (Sl.a (Xy (K.i o) rfl)) a.U;intro h2 o2 F2 n2;simp[b_];exact⟨o2,XD w K F2 iS⟩
theorem Iz{h:a_}{b:Nat}{x:m_}(w:WF h)(o:e_ h b x.s)(a:u_ h x):ao go 283 [.y b 0 1 1] h fun u h'=>∃b' v,u=.y b' 0 1 1/\h.e<=b'/\e_ h' b' (x.I v).s/\R0 h.e h' v x.C/\Fr [] h h':=by refine ah ?_;simp only[b_,seval];refine aa (EP w o a) ?_;rintro _ h1 ⟨rfl,o1,Z⟩;have ae:=o1.lt Z.o;simp only[b_,seval];refine aA (fun k env K=>∃v,Fr [h.e] h1 K/\env.c_ 8=some (ZZ 1)/\env.c_ 3=some (.y h.e 0 1 1)/\((env.c_ 9=some (ZZ 0)/\k=1/\K=h1)\/(env.c_ 9=some (ZZ 1)/\k=0/\e_ K h.e (x.I v).s/\R0 h.e K v x.C))) 1 oM ?_ ?_;exact⟨.r,Wl Z.o,iS,iS,.inl ⟨iS,rfl,rfl⟩⟩;rintro k env K ⟨v,F,g8,g3,⟨g9,rfl,rfl⟩|⟨g9,rfl,ow,cp⟩⟩;have px:aP (.c 4) [.y h.e 0 1 1,ZZ 0]=some (.u h.e 0):=rfl;have l3:ab K h.e 3=some x.vm:=o1.j 3;simp only[b_,seval,g8,g3,g9,px,l3];apply aa (Ij Z.o (a.m.fr Z) a.n);rintro v' h2 ⟨cp,F2⟩;simp only[b_,seval,g3,px];have n1:=Z.e;have c1:=cp.U;refine ai (c':=(x.I v').s) F2.o (F2.i o1) (by rw[aF c1];rfl) (by rw[aF c1];simp only[au,aB,c1];rfl) (by rw[aF c1];rfl) ?_;rintro h3 o3 F3 n3;simp only[b_,seval,ag,g9];have n2:=F2.e;have ac:=cp.fr F3 oO;refine s_ ⟨0,oM,v',Wp F2 F3 Z.o iS (fun x m=>.inl m),iX,iX,.inr ⟨iS,rfl,o3,ac.le oM⟩⟩;simp only[b_,seval,g8,g3,g9];exact⟨h.e,v,rfl,VZ _,ow,cp,XD w Z F iS⟩
theorem MI{h:a_}{v:V}(w:WF h)(re:q_ d_.s 6 h v E)(hE:∀e∈E,u_ h e.x)(hn:E.length<=4096):
 ao go 247 [v] h fun u h'=>Fr [] h h'/\∃v' Z,u=.B [v']/\Y7 h.e h' v' Z/\Z.map d_.sx=E.map d_.sx/\∀z∈Z,u_ h' z.x:=by
 let⟨h1,af,K,az⟩:=aq w [.r];have n1:=x_ af;by_cases c0:E.length=0;refine ah ?_;simp only[b_,seval,<-af,re.t_,eq_true (oM:(E.length:Int)=0)];refine ai (o:=0) (v:=.B [.r]) (c':=[.r]) K.o az rfl rfl rfl ?_;rintro h2 o2 F2 n2;have l2:aj h2 h.e 0 1=some [.r]:=by rw[o2.N];rfl
 simp only[b_,seval,l2];have:E=[]:=Wu.1 c0;subst this;exact⟨K.z F2 w (VZ _),.r,[],rfl,.inl ⟨rfl,rfl⟩,rfl,iS⟩;refine ah ?_;simp only[b_,seval,<-af,re.t_,eq_false (oM:¬(E.length:Int)=0)];refine(bV _ _ _ _ _ _ _ _ oM oM oM oM).2 ?_;simp only[pi];let⟨h2,ak,F2,o2⟩:=aq K.o (bq [ZX 0,ZY 0,.f [],.r,ZZ 0,.h false] E.length);rw[<-ak];have n2:=x_ ak;clear ak;have a4:=K.c F2;simp only[b_,seval,re.t_];refine aA (fun k env hh=>Fr [h1.e] h2 hh/\∃(i:Nat)(Z:List d_),env.c_ 15=some (ZZ i)/\env.c_ 14=some (ZZ E.length)/\env.c_ 13=some v/\env.c_ 3=some (.y h1.e 0 E.length E.length)/\env.c_ 2=some (.u h.e 0)/\i<=E.length/\Z.length=i/\
  e_ hh h1.e (Z.flatMap d_.s++bq E0 (E.length-i))/\Z.map d_.sx=(E.take i).map d_.sx/\(∀z∈Z,R0 h2.e hh z.x.vm z.x.C/\∀H,R0 h2.e H z.x.vm z.x.C->u_ H z.x)/\k=E.length-i) E.length oM ?_ ?_
 exact⟨Wl F2.o,0,[],iS,iS,iS,iS,iS,oM,rfl,o2,rfl,iS,rfl⟩;rintro k env hh ⟨F,i,Z,aN,a1,g13,g3,g2,hi,zl,oo,zv,zi,rfl⟩;have nF:=F.e;have aJ:Fr [] h hh:=XD w a4 F oO;have a6:e_ hh h.e [.r]:=F.I _ _ oO (F2.i az);by_cases c:i<E.length;let⟨bi,oi,e,p1,_,p3,p4⟩:=(re.fr aJ).ix aM .i64 (i:Int) oM oM;rw[pi]at p4;have em:=Wc p4;have ae:=(hE e em).fr aJ;let⟨ha,ax,ay,aT⟩:=aq F.o [ZX 0,ZY 0,.f [],.r,ZZ 0,.h false];have na:=x_ ax;simp only[b_,seval,aN,a1,g13,(oM:(i:Int)<E.length),p1,p3,<-ax];refine ai (c':=e.s) ay.o aT rfl (jr ae) rfl ?_;rintro hb ob Fb nb;have aH:Fr [] hh hb:=ay.z Fb F.o (VZ _);have b4:aj hb hh.e 0 4=some e.x.s:=by rw[ob.N];rfl
 have a2:=ae.fr aH;have u1:bG [ZX 0,ZY 0,.f [],.r] 0 e.x.s=some e.x.s:=rfl;let⟨hc,ar,ac,a0⟩:=aq Fb.o e.x.s;have nc:=x_ ar;simp only[b_,seval,b4,u1,(iR:e.x.s.length=4),<-ar];apply aa (Iz ac.o a0 (a2.fr ac));rintro _ hd ⟨b',vy,rfl,bf,od,cp,Fd⟩;have px:aP (.c 4) [.y b' 0 1 1,ZZ 0]=some (.u b' 0):=rfl;have a3:aj hd b' 0 4=some (e.x.I vy).s:=by rw[od.N];rfl
 have v1:=cp.U;have aR:=ac.c Fd;have nd:=Fd.e;have on:aw (e.x.I vy).s=true:=by rw[ip];simp only[au,aB,v1];rfl
 have yl:(e.x.I vy).s.length=4:=rfl;have up:bG e.s 0 (e.x.I vy).s=some (d_.s ⟨e.x.I vy,e.b,e.kn⟩):=rfl;simp only[b_,seval,px,a3];apply ai (v:=.B (e.x.I vy).s) (c':=d_.s ⟨e.x.I vy,e.b,e.kn⟩) Fd.o (aR.i ob) yl on up;rintro he oe Fe ne;have l6:aj he hh.e 0 6=some (d_.s ⟨e.x.I vy,e.b,e.kn⟩):=by rw[oe.N];rfl
 have py:aP (.c 6) [.y h1.e 0 E.length E.length,ZZ (i:Int)]=some (.u h1.e (i*6)):=by rw[dh _ _ _ _ _ _ _ oM oM];simp
 have an:Fr [] hh he:=(aH.c aR).z Fe F.o (VZ _);have one:aw (d_.s ⟨e.x.I vy,e.b,e.kn⟩)=true:=by show aw [ZX (e.x.J:Int),ZY (e.x.K:Int),.f e.x.X,vy,ZZ _,.h _]=true;simp only[au,aB,v1];rfl
 simp only[b_,seval,g3,l6,py];apply ai (v:=.B (d_.s ⟨e.x.I vy,e.b,e.kn⟩)) Fe.o (an.i oo) rfl one (ue zl c);rintro hf a7 Ff nf;have ba:=an.e;have a9:=aH.e;have FN:Fr [h1.e] h2 hf:=Wp (Wp (T:=[h1.e]) F an F2.o (fun x m=>.inl m) iS) Ff F2.o (fun x m=>.inl m) (fun x m=>.inl m);have a5:∀z∈Z++[(⟨e.x.I vy,e.b,e.kn⟩:d_)],R0 h2.e hf z.x.vm z.x.C/\∀H,R0 h2.e H z.x.vm z.x.C->u_ H z.x:=by intro z m;obtain m|m:=Wa.1 m;let⟨c1,c2⟩:=zi z m;exact⟨(c1.fr an iS).fr Ff oO,c2⟩;rw[Wi.1 m];exact⟨((cp.fr Fe oO).le (M:=h2.e) oM).fr Ff oO,fun H c=>⟨ae.k,ae.t,Sl.a c.rs,ae.n,ae.l⟩⟩
 simp(disch:=omega) only[b_,seval,ag,aN];refine s_ ⟨E.length-(i+1),oM,FN,i+1,Z++[⟨e.x.I vy,e.b,e.kn⟩],iS,iX,iX,iX,iX,oM,by simp[zl],a7,?_,a5,rfl⟩;rw[Wn,p4,Xe,Xe,zv];rfl;have e:i=E.length:=oM;subst e;rw[Wj oM]at zv;have z0:bq E0 (E.length-E.length)=[]:=by rw[Yf];rfl
 rw[z0,Xg]at oo;simp only[b_,seval,aN,a1,g3,g2,(oM:¬(E.length:Int)<E.length)];apply ai (o:=0) (v:=.B [.y h1.e 0 E.length E.length]) (c':=[.y h1.e 0 E.length E.length]) F.o a6 rfl rfl rfl;rintro hz oz Fz nz;have lz:aj hz h.e 0 1=some [.y h1.e 0 E.length E.length]:=by rw[oz.N];rfl
 simp only[b_,seval,lz,g2];have a8:=Fz.I _ _ oO oo;have cz:∀z∈Z,R0 h2.e hz z.x.vm z.x.C:=fun z m=>(zi z m).1.fr Fz oO;exact⟨aJ.z Fz w (VZ _),_,Z,rfl,.inr ⟨h1.e,by rw[zl],oM,a8,fun z m=>(cz z m).le oM⟩,zv,fun z m=>(zi z m).2 hz (cz z m)⟩
def Q?(Ks:List p_)(KE:Nat->m_->Int):Nat->List m_->Int
 |_,[]=>0
 |i,y::r=>if Q2 y Ks.length=false then 6 else if KE i y≠0 then KE i y else if cG Ks 12 y≠0 then cG Ks 12 y else Q? Ks KE (i+1) r
structure DB(h0:a_)(Ks:List p_)(vK vE:V)(E:List d_):Prop where
 w:WF h0
 a:q_ p_.s 9 h0 vK Ks
 d:∀q∈Ks,Q9 h0 q
 c:q_ d_.s 6 h0 vE E
 o:V0 Ks h0 E
theorem FrB.a{m q:Nat}{h hx hz:a_}(w:WF h)(a:V5 [] m h hx)(b:Fr [q] hx hz)(hq:h.e<=q):V5 [] m h hz:=
 ⟨Wy a.e b.e,b.o,fun x c _ o=>b.I x c (fun e=>by have:=o.lt w;have:=Wi.1 e;omega) (a.d x c iS o),fun x c _ o=>b.pl x c (fun e=>by have:=o.I.lt w;have:=Wi.1 e;omega) (a.o x c iS o),
  fun x k hx' hk e=>b.lp x k hk (a.n x k hx' hk e),fun x c r=>b.ro x c (a.p x c r)⟩
theorem CM{Ks:List p_}{KE:Nat→m_→Int}:∀{Y:List m_}{i:Nat},Q? Ks KE i Y=0→∀{y},y∈Y→y.K<Ks.length
 |y::Y,i,h,z,m=>by
  simp only[Q?]at h;split at h;cases h;rename_i d1;obtain rfl|m:=List.mem_cons.1 m;have d1:Q2 z Ks.length=true:=by cases q:Q2 z Ks.length;exact absurd q d1;rfl
  simp only[Q2,Bool.and_eq_true,decide_eq_true_eq]at d1;exact d1.2.1;split at h;omega;split at h;omega;exact CM h m
 |[],_,_,_,m=>by simp at m
theorem Y7.keep{N:Nat}{h:a_}{v:V}{S:List Nat}(a:Y7 N h v Z)(f:Fr S h h')(l:∀y∈S,y<N):Y7 N h' v Z:=by obtain e|⟨b,e,K,o,c⟩:=a;exact .inl e;exact .inr ⟨b,e,K,f.I _ _ (fun m=>by have:=l b m;omega) o,fun z m=>(c z m).fr f fun y q=>by have:=l y q;omega⟩
theorem Y7.le{N M:Nat}{h:a_}{v:V}(a:Y7 N h v Z)(l:M<=N):Y7 M h v Z:=by obtain e|⟨b,e,K,o,c⟩:=a;exact .inl e;exact .inr ⟨b,e,Wy l K,o,c⟩
theorem Y7.itm{N:Nat}{h h9:a_}{v:V}(a:Y7 N h v Z)(i:∀z∈Z,u_ h9 z.x):∀z∈Z,u_ h z.x:=by intro z m;obtain⟨e,_⟩|⟨b,e,hb,o,c⟩:=a;grind;have K:=i z m;exact⟨K.k,K.t,Sl.a (c z m).rs,K.n,K.l⟩
theorem OG{h0 h:a_}{vI fk fm:V}{E':List d_}{Y:List m_}{K:Bool}{cnt:Int}{m gk gm:Nat}{ck cm:List V}{KI:Nat->a_->Prop}{KE:Nat->m_->Int}(d:DB h0 Ks vK vE E)(f0:Fr [] h0 h)(hm:h0.e<=m)
 (ra:C_ m_.s 4 h0 vI Y) (hY:∀y∈Y,u_ h0 y) (cb:Y.length<=4096) (hc:0<=cnt/\cnt<=1024)
 (ek:Y≠[]->fk=.E (.func gk) [] ck) (c6:fk.U=true) (em:fm=.E (.func gm) [] cm) (bk:gk<1099511627776) (bm:gm<1099511627776)
 (kf:∀i hh h',KI i hh->Fr [] hh h'->KI i h') (ki:KI 0 h)
 (hK:∀(i:Nat) y hh,K=true->Y[i]? =some y->KI i hh->Fr [] h0 hh->V5 [] m h hh->Q2 y Ks.length=true->ao go gk (ZZ (i:Int)::.B y.s::ck) hh fun u h'=>u=ZZ (KE i y)/\V5 [] m hh h'/\(KE i y=0->KI (i+1) h'))
 (hM:∀hh v,K=true->Q? Ks KE 0 Y=0->Fr [] h0 hh->V5 [] m h hh->q_ d_.s 6 hh v (eF Ks Y)->ao go gm (v::cm) hh fun u h'=>q_ d_.s 6 h' u E'/\Fr [] hh h')
 (hE:K=true->Q? Ks KE 0 Y=0->LV Ks E'/\E'.length<=1000/\∀e∈E',e∈E\/e∈eF Ks Y):
 ao go 185 [.B [vK,ZZ 12],.B [vE],.B [.h K,ZZ cnt,vI,fk,fm]] h fun u h'=>V5 [] m h h'/\∃v',u=.D [.B [v'],ZZ (if K=true then Q? Ks KE 0 Y else 4)]/\
  ((if K=true then Q? Ks KE 0 Y else 4)≠0->v'=.r)/\((if K=true then Q? Ks KE 0 Y else 4)=0->∃Z,Y7 h.e h' v' Z/\Z.map d_.sx=E'.map d_.sx/\∀z∈Z,u_ h' z.x):=by
 have v1:vK.U=true:=Xs d.a;have v2:vE.U=true:=Xs d.c;have v3:vI.U=true:=T5.U ra;have v5:fm.U=true:=by rw[em];rfl
 have w:=f0.o;have k3:=d.o.r.2.1;let⟨h1,a0,a4,bz⟩:=aq w [vK,ZZ 12];let⟨h2,a3,ax,bj⟩:=aq a4.o [vE];let⟨h3,a1,ak,bn⟩:=aq ax.o [.h K,ZZ cnt,vI,fk,fm];let⟨h4,a2,af,bg⟩:=aq ak.o [.r];have n1:=x_ a0;have n2:=x_ a3;have n3:=x_ a1;have n4:=x_ a2;have F4:=a4.c (ax.c (ak.c af));have ac:=f0.c F4;have oK:e_ h4 h.e [vK,ZZ 12]:=af.i (ak.i (ax.i bz));have oE:e_ h4 h1.e [vE]:=af.i (ak.i bj);have oN:e_ h4 h2.e [.h K,ZZ cnt,vI,fk,fm]:=af.i bn;have c0:aj h4 h.e 0 2=some [vK,ZZ 12]:=by rw[oK.N];rfl
 have c1:aj h4 h1.e 0 1=some [vE]:=by rw[oE.N];rfl
 refine ah ?_;simp only[b_,↓reduceIte,Nat.reduceEqDiff,Nat.reduceAdd,<-a0,<-a3,<-a1,<-a2,c0,c1];refine aa (qy F4.o (Xn d.a ac) (fun q m=>(d.d q m).fr ac) (d.c.fr ac) (d.o.f ac)) ?_;rintro _ h5 ⟨rfl,F5⟩;have aH:=F5.i oN;have x0:ab h5 h2.e 0=some (.h K):=aH.j 0;have x1:ab h5 h2.e 1=some (ZZ cnt):=aH.j 1;have x2:ab h5 h2.e 2=some vI:=aH.j 2;have a6:=F5.i bg;have az:=F4.c F5;have n5:=F5.e;cases K with
 |false=>
  simp only[b_,↓reduceIte,Nat.reduceEqDiff,x0];apply ai (o:=0) (v:=.B [.r]) (c':=[.r]) F5.o a6 rfl rfl rfl;rintro h6 o6 F6 n6;have l6:aj h6 h3.e 0 1=some [.r]:=by rw[o6.N];rfl
  simp only[b_,↓reduceIte,Nat.reduceEqDiff,l6];exact⟨(az.z F6 w oM).b iS,.r,rfl,fun _=>rfl,fun e=>absurd e dI⟩
 |true=>
  simp only[↓reduceIte];simp only[b_,↓reduceIte,Nat.reduceEqDiff,x0,x1,x2,(oM:¬(1024:Int)<cnt),(ra.fr (ac.c F5)).t_];refine aA (fun n env hh=>V5 [] m h5 hh/\∃i:Nat,env.c_ 34=some (ZZ i)/\env.c_ 33=some (ZZ Y.length)/\env.c_ 32=some vI/\env.c_ 3=some (.u h.e 0)/\env.c_ 5=some (.u h2.e 0)/\env.c_ 6=some (.u h3.e 0)/\
   i<=Y.length/\KI i hh/\Q? Ks KE i (Y.drop i)=Q? Ks KE 0 Y/\n=Y.length-i) Y.length oM ?_ ?_
  exact⟨Fr.b (S':=[]) (Wl F5.o) iS,0,iS,iS,iS,iS,iS,iS,oM,kf _ _ _ ki az,rfl,rfl⟩;rintro n env hh ⟨F,i,aJ,bA,cg,g3,g5,g6,hi,kI,e,rfl⟩;have nF:=F.e;have F0:Fr [] h0 hh:=V5.j d.w (ac.c F5) F iS hm;have Fh:V5 [] m h hh:=(az.b iS).c F;have ca:=F.d _ _ iS (F5.i oK);have aN:=F.d _ _ iS aH;have bE:=F.d _ _ iS a6;by_cases cU:i<Y.length;let⟨bi,oi,y,p1,_,p3,p4⟩:=(ra.fr F0).ix dP .i64 (i:Int) oM oM;rw[pi]at p4;have ym:=Wc p4;have cz:=ek (List.ne_nil_of_mem ym);have ay:=(hY y ym).fr F0;rw[aL p4]at e;simp only[Q?]at e;let⟨ha,bB,a5,bt⟩:=aq F.i [ZX 0,ZY 0,.f [],.r];simp only[b_,↓reduceIte,Nat.reduceEqDiff,aJ,bA,cg,(oM:(i:Int)<Y.length),p1,p3,<-bB];refine ai (c':=y.s) a5.o bt rfl ay.U rfl ?_;rintro hb ob Fb nb;have ar:Fr [] hh hb:=a5.z Fb F.i (VZ _);have y4:aj hb hh.e 0 4=some y.s:=by rw[ob.N];rfl
  have kb:ab hb h.e 0=some vK:=(ar.i ca).j 0;simp only[b_,↓reduceIte,Nat.reduceEqDiff,g3,y4,kb,(ZU (Xn d.a (F0.c ar)))];apply aa (uC ar.o (ay.fr ar) oM);rintro _ aT ⟨rfl,Fc⟩;have ae:=ar.c Fc;have oy:=Fc.i ob;have cB:aj aT hh.e 0 4=some y.s:=by rw[oy.N];rfl
  have cx:ab aT h2.e 3=some fk:=(ae.i aN).j 3;cases d1:Q2 y Ks.length;rw[d1,if_pos rfl]at e;simp(disch:=omega) only[b_,↓reduceIte,Nat.reduceEqDiff,ag,aJ,g3,g5,g6];apply ai (o:=0) (v:=.B [.r]) (c':=[.r]) Fc.o (ae.i bE) rfl rfl rfl;rintro hz oz Fz nz;have lz:aj hz h3.e 0 1=some [.r]:=by rw[oz.N];rfl
  simp only[b_,↓reduceIte,Nat.reduceEqDiff,g6,lz];rw[<-e];exact⟨FrB.a w (Fh.c (ae.b iS)) Fz oM,.r,rfl,fun _=>rfl,fun e=>absurd e dI⟩;rw[d1,if_neg iS]at e;have ht:y.K<Ks.length:=by simp only[Q2,VY,decide_eq_true_eq]at d1;exact d1.2.1
  have ci:=F0.c ae;have bT:V5 [] m h aT:=Fh.c (ae.b iS);simp only[b_,↓reduceIte,Nat.reduceEqDiff,g5,cx,cz,cB,bk];apply aa (hK i y aT rfl p4 (kf _ _ _ kI ae) ci bT d1);rintro _ hd ⟨rfl,Fd,ch⟩;have co:=Fd.d _ _ iS oy;have cA:aj hd hh.e 0 4=some y.s:=by rw[co.N];rfl
  have an:V5 [] m h5 hd:=(F.c (ae.b iS)).c Fd;have a8:Fr [] h0 hd:=V5.j d.w (ac.c F5) an iS hm;have cy:=an.d _ _ iS (F5.i oK);have bv:=an.d _ _ iS a6;have k2:aj hd h.e 0 2=some [vK,ZZ 12]:=by rw[cy.N];rfl
  by_cases c2:KE i y=0;rw[if_neg iX]at e;simp only[b_,↓reduceIte,Nat.reduceEqDiff,g3,eq_true c2,k2,cA];apply aa (tL Fd.i (Xn d.a a8) (fun q m=>(d.d q m).fr a8) ((hY y ym).fr a8) ht);rintro _ he ⟨cs,rfl,Fe,on,cl,_⟩;by_cases c3:cG Ks 12 y=0;rw[if_neg iX]at e;simp(disch:=omega) only[b_,↓reduceIte,Nat.reduceEqDiff,ag,aJ,c3];refine s_ ⟨Y.length-(i+1),oM,an.c (Fe.b iS),i+1,iS,iX,iX,iX,iX,iX,oM,kf _ _ _ (ch c2) Fe,e,rfl⟩;rw[if_pos c3]at e;simp only[b_,↓reduceIte,Nat.reduceEqDiff,g6,eq_false c3];apply ai (o:=0) (v:=.B [.r]) (c':=[.r]) Fe.o (Fe.i bv) rfl rfl rfl;rintro hz oz Fz nz;have lz:aj hz h3.e 0 1=some [.r]:=by rw[oz.N];rfl
  simp only[b_,↓reduceIte,Nat.reduceEqDiff,g6,lz];rw[<-e];exact⟨FrB.a w (((az.b iS).c an).c (Fe.b iS)) Fz oM,.r,rfl,fun _=>rfl,fun e=>absurd e c3⟩;rw[if_pos c2]at e;simp only[b_,↓reduceIte,Nat.reduceEqDiff,g6,eq_false c2];apply ai (o:=0) (v:=.B [.r]) (c':=[.r]) Fd.i bv rfl rfl rfl;rintro hz oz Fz nz;have lz:aj hz h3.e 0 1=some [.r]:=by rw[oz.N];rfl
  simp only[b_,↓reduceIte,Nat.reduceEqDiff,g6,lz];rw[<-e];exact⟨FrB.a w ((az.b iS).c an) Fz oM,.r,rfl,fun _=>rfl,fun e=>absurd e c2⟩;have ei:i=Y.length:=oM;subst ei;rw[XR]at e;simp[Q?]at e;let⟨lv,ll,sub⟩:=hE rfl e.symm;rw[<-e];simp only[b_,↓reduceIte,aJ,bA,(oM:¬(Y.length:Int)<Y.length)];apply Dt [⟨none,.p (.b 4) [.v 5],none⟩,⟨none,.a 1 false (.l 0),none⟩,⟨none,.a 2 true (.v 3),none⟩,⟨none,.p (.b 2) [.v 5],none⟩,⟨none,.a 1 false (.l 0),none⟩,⟨none,.d 248 [.l 2,.l 0],none⟩,⟨none,.e (.l 4) [.l 0],none⟩,⟨none,.d 247 [.l 0],none⟩] _ rfl;have F6:=WA F.i [.r];have o6:=Xc F.i [.r];have cq:(h_ hh [.r]).e=hh.e+1:=rfl;generalize h_ hh [.r]=h6 at F6 o6 cq|-;have f4:ab h6 h2.e 4=some fm:=(F6.i aN).j 4;have f2:ab h6 h2.e 2=some vI:=(F6.i aN).j 2;have k2:aj h6 h.e 0 2=some [vK,ZZ 12]:=by rw[(F6.i ca).N];rfl
  have a9:=F0.c F6;have ct:∀y∈Y,y.K<Ks.length:=by intro y ym;exact CM (e.symm) ym
  simp only[b_,↓reduceIte,Nat.reduceEqDiff,j_,g3,g5,f4,f2,k2,em];apply aa (Ic F6.o (Xn d.a a9) (ra.fr a9) (fun y ym=>⟨(hY y ym).fr a9,ct y ym⟩) cb);rintro _ h7 ⟨bf,rfl,cO,cn,F7⟩;have cj:ab h7 h2.e 4=some fm:=(F7.i (F6.i aN)).j 4;have rf:q_ d_.s 6 h7 (.y bf 0 Y.length Y.length) (eF Ks Y):=by have:=Xy (esz:=6) cn (aC aM (eF Ks Y));rw[CX]at this;unfold q_;rw[CX];exact this
  have ba:=F6.c F7;simp only[b_,j_,bm];apply aa (hM h7 _ rfl e.symm (F0.c ba) (Fh.c (ba.b iS)) rf);rintro vM h8 ⟨rM,F8⟩;have bu:=(F0.c ba).c F8;have iE:∀x∈E',u_ h8 x.x:=by intro x xm;obtain q|q:=sub x xm;exact(d.o.h x q).1.fr bu;obtain⟨y,ym,rfl⟩:=WP.1 q;exact(hY y ym).fr bu
  simp only[b_,j_];apply aa (MI F8.o rM iE oM);rintro _ h9 ⟨F9,v',Z,rfl,lo,zv,iz⟩;have zl:Z.length=E'.length:=by have:=congrArg List.length zv;simpa using this
  have bw:v'.U=true:=Xs lo.rs;have aR:=F7.c (F8.c F9);have n9:=aR.e;have n8:=F8.e;have n7:=F7.e;simp only[b_,j_,rV];refine ai (o:=0) (v:=.B [v']) (c':=[v']) F9.o (aR.i o6) rfl (by show aw [_]=true;simp only[au,aB,bw];rfl) rfl ?_;rintro ha oa Fa na;have la:aj ha hh.e 0 1=some [v']:=by rw[oa.N];rfl
  have a7:=lo.keep Fa oO;have cc:=a7.itm iz;have zb:Z.map d_.b=E'.map d_.b:=by have:=congrArg (List.map fun p=>p.2.1) zv;rw[WL,WL]at this;exact this
  have bC:=lv.d d.o.r;have sm:=iA bC;have cu:Y1 Z:=by intro z zm;have:z.b∈Z.map d_.b:=WP.2 ⟨z,zm,rfl⟩;rw[zb]at this;have:=bC _ this;omega
  simp only[b_,↓reduceIte,Nat.reduceEqDiff,DF,g3,f4,cj,f2,k2,em,la];refine aa (wp Fa.o a7.rs cc oM cu (by rw[zb];simp at sm;omega)) ?_;rintro _ hb ⟨rfl,Fb⟩;have lb:aj hb hh.e 0 1=some [v']:=by rw[(Fb.i oa).N];rfl
  have nb:=Fb.e;have cr:Fr [hh.e] h6 hb:=Wp (Wp aR Fa F6.o iS (fun x m=>.inl m)) Fb F6.o (fun x m=>.inl m) iS;simp only[b_,↓reduceIte,Nat.reduceEqDiff,g6,lb];refine ai (o:=0) (v:=.B [v']) (c':=[v']) Fb.o (cr.I _ _ oO (F6.i bE)) rfl (by show aw [_]=true;simp only[au,aB,bw];rfl) rfl ?_;rintro hz oz Fz nz;have lz:aj hz h3.e 0 1=some [v']:=by rw[oz.N];rfl
  simp only[b_,↓reduceIte,Nat.reduceEqDiff,g6,lz];have bh:=(a7.keep Fb iS).keep Fz oO;have fA:V5 [] m h ha:=FrB.a w ((Fh.c (F6.b iS)).c (aR.b iS)) Fa oM;have fB:V5 [] m h hz:=FrB.a w (fA.c (Fb.b iS)) Fz oM;exact⟨fB,v',rfl,fun x=>absurd rfl x,fun _=>⟨Z,bh.le oM,zv,bh.itm iz⟩⟩
def Res(h h':a_)(u:V)(err:Int)(E':List d_):Prop:=Fr [] h h'/\∃v',u=.D [.B [v'],ZZ err]/\v'≠.L/\v'.U=true/\(err≠0->v'=.r)/\(err=0->∃Z,Y7 h.e h' v' Z/\Z.map d_.sx=E'.map d_.sx/\∀z∈Z,u_ h' z.x)
theorem Y7.nE{N:Nat}{h:a_}{v:V}(a:Y7 N h v Z):v≠.L:=by obtain⟨_,rfl⟩|⟨b,rfl,_⟩:=a<;>simp
theorem DB.e{h0 h:a_}(d:DB h0 Ks vK vE E)(f:Fr [] h0 h):DB h Ks vK vE E:=⟨f.o,Xn d.a f,fun q m=>(d.d q m).fr f,d.c.fr f,d.o.f f⟩
theorem Mm{err:Int}{E':List d_}{N:Nat}{h:a_}{K:V}(q1:err≠0->K=.r)(q2:err=0->∃Z,Y7 N h K Z/\Z.map d_.sx=E'.map d_.sx/\∀z∈Z,u_ h z.x):K.U=true/\K≠.L:=by by_cases z:err=0;let⟨Z,lo,_⟩:=q2 z;exact⟨Xs lo.rs,lo.nE⟩;rw[q1 z];exact⟨rfl,iS⟩
theorem JU{Z:a_}{bE bA K:Nat}{v:V}{p q:Nat}(w:WF Z)(oE:e_ Z bE [vE])(oA:e_ Z bA [ZZ (p:Int)])(oC:e_ Z K [ZZ (q:Int)])(re:q_ d_.s 6 Z vE E)(hv:vE≠.L)(o1:aw (E.flatMap d_.s)=true)(hp:p+q<=E.length)(hE:E.length<=2000):
 ao go 187 (v::[.u bE 0,.u bA 0,.u K 0]) Z fun u h'=>q_ d_.s 6 h' u (kP E p q)/\Fr [] Z h':=by
 have l1:ab Z bE 0=some vE:=oE.j 0;have l2:ab Z bA 0=some (ZZ (p:Int)):=oA.j 0;have l3:ab Z K 0=some (ZZ (q:Int)):=oC.j 0;refine ah ?_;simp[b_,l1,l2,l3];refine aa (DZ (A:=[]) w re ZI hv o1 rfl hp oM iS) ?_;rintro _ h1 ⟨rfl,ow,F⟩;simp[b_];have er:E.take p++[]++E.drop (p+q)=kP E p q:=by rw[Xg,kP,Xx]
 have lr:=JT (X:=E) hp;rw[er]at ow;rw[<-lr];exact⟨Xy ow (aC aM _),F⟩
theorem Kp{h:a_}{a c:Int}(d:DB h Ks vK vE E)(nE:vE≠.L)(ha:P? a)(hc:P? c)(hl:E.length<=1000):
 ao go 126 [.B [vK,ZZ 12],.B [vE],ZZ a,ZZ c] h fun u h'=>Res h h' u (if pM E.length a c then 4 else 0) (kP E a.toNat c.toNat):=by
 have w:=d.w;have v1:vK.U=true:=Xs d.a;have v2:vE.U=true:=Xs d.c;let⟨h1,ar,aH,a2⟩:=aq w [vK,ZZ 12];let⟨h2,ax,af,a1⟩:=aq aH.o [vE];let⟨h3,ay,ae,aJ⟩:=aq af.o [ZZ a];let⟨h4,an,ac,aN⟩:=aq ae.o [ZZ c];let⟨h5,az,K,aR⟩:=aq ac.o [.r];have n1:=x_ ar;have n2:=x_ ax;have n3:=x_ ay;have n4:=x_ an;have n5:=x_ az;have F5:=aH.c (af.c (ae.c (ac.c K)));have oK:e_ h5 h.e [vK,ZZ 12]:=K.i (ac.i (ae.i (af.i a2)));have oE:e_ h5 h1.e [vE]:=K.i (ac.i (ae.i a1));have oA:e_ h5 h2.e [ZZ a]:=K.i (ac.i aJ);have oC:e_ h5 h3.e [ZZ c]:=K.i aN;have c0:∀{H},Fr [] h5 H->aj H h.e 0 2=some [vK,ZZ 12]:=fun f=>by rw[(f.i oK).N];rfl
 have c1:∀{H},Fr [] h5 H->aj H h1.e 0 1=some [vE]:=fun f=>by rw[(f.i oE).N];rfl
 have x2:ab h5 h1.e 0=some vE:=oE.j 0;have x3:ab h5 h2.e 0=some (ZZ a):=oA.j 0;have x4:ab h5 h3.e 0=some (ZZ c):=oC.j 0;have x0:=c0 (Wl F5.o);have x1:=c1 (Wl F5.o);have d5:=d.e F5;refine ah ?_;simp[b_,j_,<-ar,<-ax,<-ay,<-an,<-az,x0,x1,x2,x3,x4,d.c.t_];refine aa (DO (n:=E.length) ha hc oM) ?_;rintro _ _ ⟨rfl,rfl⟩;have en:(if pM E.length a c then(4:Int)else 0)=if decide (¬pM E.length a c)=true then Q? Ks (fun _ _=>0) 0 []else 4:=by by_cases z:pM E.length a c;grind;rw[if_neg z,if_pos (eV z)];rfl
 have io:=Ao (E:=E) fun e m=>(d.o.h e m).1;simp only[b_,seval,j_];refine aa (OG (h0:=h5) (m:=h5.e) (vI:=.r) (Y:=[]) (gk:=0) (gm:=187) (ck:=[]) (cm:=[.u h1.e 0,.u h2.e 0,.u h3.e 0]) (KE:=fun _ _=>0) (KI:=fun _ _=>True) (E':=kP E a.toNat c.toNat)
  d5 (Wl F5.o) (VZ _) ⟨rfl,rfl⟩ iS iS oM (fun x=>absurd rfl x) rfl rfl oM oM (fun _ _ _ _ _=>trivial) trivial
  (fun i y hh _ e=>by simp at e) ?_ ?_) ?_
 intro hh vf hi z f fB rf;have a4:=of_decide_eq_true hi;unfold pM at a4;obtain⟨p,rfl⟩:∃p:Nat,a=p:=⟨a.toNat,oM⟩;obtain⟨q,rfl⟩:∃q:Nat,c=q:=⟨c.toNat,oM⟩;rw[pi,pi];exact JU f.o (f.i oE) (f.i oA) (f.i oC) (d5.c.fr f) nE io oM oM;intro hi z;exact⟨d.o.j.j (tu _ _ _),Wy (tu _ _ _).length_le hl,fun e m=>.inl (G8 m)⟩;rintro _ h6 ⟨F6,v',rfl,q1,q2⟩;rw[<-en]at q1 q2|-;have ak:Fr [] h5 h6:=V5.j F5.o (Wl F5.o) F6 iS (VZ _);let⟨aT,a3⟩:=Mm q1 q2;have z0:=c0 ak;have z1:=c1 ak;simp only[b_,seval,j_];refine ai (o:=0) (v:=.B [v']) (c':=[v']) F6.i (ak.i aR) rfl (by show aw [_]=true;simp only[au,aB,aT];rfl) rfl ?_;rintro h7 o7 F7 n7;have l7:aj h7 h4.e 0 1=some [v']:=by rw[o7.N];rfl
 simp[b_,DF,j_,x0,x1,x2,x3,x4,l7];have a5:=ak.e;refine⟨(F5.c ak).z F7 w oM,v',rfl,a3,aT,q1,fun z=>?_⟩;let⟨Z,lo,zv,iz⟩:=q2 z;have a0:=lo.keep F7 oO;exact⟨Z,a0.le oM,zv,a0.itm iz⟩
theorem xY{x y:m_}(h:x.sx=y.sx):(∀n,Q2 x n=Q2 y n)/\aQ Ks x=aQ Ks y:=by let⟨k,t,tx,m,v⟩:=x;let⟨k',K,Z,m',v'⟩:=y;simp[m_.sx]at h;obtain⟨rfl,rfl,rfl,rfl⟩:=h;exact⟨fun _=>rfl,rfl⟩
theorem Cn(e:Z.map d_.sx=E.map d_.sx):Z.length=E.length:=by have:=congrArg List.length e;simpa using this
theorem sD(e:Z.map d_.sx=E.map d_.sx):kW Z=kW E:=by have:=congrArg (List.map fun p=>p.1.1) e;rw[WL,WL]at this;exact this
theorem JD(e:Z.map d_.sx=E.map d_.sx):∀z∈Z,∃x∈E,x.x.sx=z.x.sx/\x.b=z.b/\x.kn=z.kn:=by intro z m;have:z.sx∈E.map d_.sx:=e▸WP.2 ⟨z,m,rfl⟩;let⟨x,K,h⟩:=WP.1 this;simp[d_.sx]at h;exact⟨x,K,h⟩
theorem LV.a(o:LV Ks E)(e:Z.map d_.sx=E.map d_.sx):LV Ks Z:=by
 refine⟨fun z m=>?_,fun z m k=>?_,fun z m k=>?_,by rw[sD e];exact o.n⟩<;>let⟨x,K,h1,h2,h3⟩:=JD e z m
 have:=o.o x K;rw[<-GY h1,<-(xY (Ks:=Ks) h1).1];exact this;rw[<-h2,<-(xY (Ks:=Ks) h1).2];exact o.b x K (h3.trans k);rw[<-h2];exact o.c x K (h3.trans k)
def NA(h:a_)(v:V)(L:List Nt):Prop:=C_ Nt.J_ 5 h v L/\∀x∈L,(C_ m_.s 4 h x.v x.n.Y/\∀y∈x.n.Y,u_ h y)/\x.n.k<256/\P? x.n.a/\P? x.n.c/\P? x.n.t
theorem NA.fr{h:a_}{v:V}{L:List Nt}(a:NA h v L)(f:Fr [] h h'):NA h' v L:=⟨a.1.fr f,fun x m=>⟨⟨(a.2 x m).1.1.fr f,fun y q=>((a.2 x m).1.2 y q).fr f⟩,(a.2 x m).2⟩⟩
theorem NA.U{h:a_}{v:V}{L:List Nt}(a:NA h v L){x:Nt}(m:x∈L):aw x.J_=true:=by have:=T5.U (a.2 x m).1.1;show aw [_,_,_,_,_]=true;simp only[au,aB,this];rfl
def NR(h:a_)(v:V)(L:List Nt):Prop:=C_ Nt.J_ 5 h v L/\L.length<140737488355328/\∀x∈L,C_ m_.s 4 h x.v x.n.Y/\x.n.Y.length<140737488355328/\∀y∈x.n.Y,C_ sS 1 h y.vm y.C/\y.C.length<140737488355328/\y.X.length<140737488355328
def Px(y:m_):Prop:=y.X.length<=70/\y.C.length<=12
theorem Fr.lt{S:List Nat}{h:a_}(w:WF h)(f:Fr S h h'):Fr (S.filter fun z=>decide (z<h.e)) h h':=
 ⟨f.e,f.o,fun x c hx o=>f.I x c (fun m=>hx (Yj.2 ⟨m,decide_eq_true (o.lt w)⟩)) o,fun x c hx o=>f.pl x c (fun m=>hx (Yj.2 ⟨m,decide_eq_true (o.I.lt w)⟩)) o,f.lp,f.ro⟩
def KL(a:Nat)(h:a_)(v:V)(Z:List d_):Prop:=∀S h',(∀z∈S,z<a\/h.e<=z)->Fr S h h'->q_ d_.s 6 h' v Z/\∀e∈Z,u_ h' e.x
theorem W9.a{N:Nat}{h:a_}{X:List m_}(d:W9 N h.e h Ks vE X E):KL N h vE E:=fun _ _ hS f=>⟨(d.d f hS).j,(d.d f hS).H⟩
theorem Y7.kl{N:Nat}{h:a_}{v:V}(w:WF h)(a:Y7 N h v Z)(i:∀z∈Z,u_ h z.x):KL N h v Z:=by
 intro S K hS f;have q:=a.keep (Fr.lt w f) fun y m=>by grind
 exact⟨q.rs,q.itm i⟩
theorem SW.a{W:Nat->Prop}{h:a_}{b:Nat}(s:SW n0 W C Ks h b E):SA Ks h b E:=by let⟨K,X,st,vK,bg,B,bm,S,bl,pm,mc,s,Z,ev,ix,_⟩:=s;exact⟨n0,K,X,st,vK,bg,B,bm,S,bl,pm,mc,s,Z,ev,fun _ _=>rfl,kY.2 ix⟩
theorem SW.lt{W:Nat->Prop}{h:a_}{b:Nat}(w:WF h)(s:SW n0 W C Ks h b E):SW n0 (fun y=>W y/\y<h.e) C Ks h b E:=by let⟨K,X,st,vK,bg,B,bm,S,bl,pm,mc,s,Z,ev,ix,c,r⟩:=s;exact⟨K,X,st,vK,bg,B,bm,S,bl,pm,mc,s,Z,ev,ix,c,fun y m=>⟨r y m,s.wrlt w y m⟩⟩
theorem SA.sx{h:a_}{b:Nat}(s:SA Ks h b E)(e:Z.map d_.sx=E.map d_.sx):SA Ks h b Z:=by
 let⟨n0,K,X,st,vK,bg,B,bm,S,bl,pm,mc,s,sk,ev,nz,ix⟩:=s;have e1:Z.map d_.b=E.map d_.b:=by have:=congrArg (List.map fun p=>p.2.1) e;rw[WL,WL]at this;exact this
 have e2:Z.map d_.kn=E.map d_.kn:=by have:=congrArg (List.map fun p=>p.2.2) e;rw[WL,WL]at this;exact this
 have e3:Z.map (fun e=>e.x.sx)=E.map (fun e=>e.x.sx):=by have:=congrArg (List.map fun p=>p.1) e;rw[WL,WL]at this;exact this
 have ek:=sD e;refine⟨n0,K,X,st,vK,bg,B,bm,S,bl,pm,mc,e1▸e2▸s,sk,e3▸ev,nz,?_⟩;have:=kY.1 ix;exact kY.2 (show IxL mc.1 (kW Z) by rw[ek];exact this)
theorem SA.fr{h:a_}{b:Nat}(w:WF h)(s:SA Ks h b E)(f:Fr [] h h'):SA Ks h' b E:=by let⟨n0,K,X,st,vK,Z,B,bm,S,bl,pm,mc,s,r⟩:=s;exact⟨n0,K,X,st,vK,Z,B,bm,S,bl,pm,mc,s.fr w f,r⟩
structure NQ(h:a_)(v:V)(L:List Nt):Prop where
 e:∀S h',Fr S h h'->NR h' v L
 d:∀x∈L,x.n.k<256/\P? x.n.a/\P? x.n.c/\P? x.n.t/\∀y∈x.n.Y,y.J<18446744073709551616/\y.K<256
theorem NQ.a{W:Nat->Prop}{h0 h:a_}{v:V}{L:List Nt}{S0:List Nat}(a:NQ h0 v L)(f0:Fr S0 h0 h)(w:WF h0)(fi:∀x∈L,∀y∈x.n.Y,Px y):NV W h v L:=by have q:∀S Z,Fr S h Z->NR Z v L:=fun S Z f=>a.e (S0++S) Z (Wp f0 f w (fun x m=>.inl (Wa.2 (.inl m))) (fun x m=>.inl (Wa.2 (.inr m))));refine⟨fun S Z _ f=>(q S Z f).1,fun x m=>⟨fun S Z _ f=>?_,(a.d x m).1,(a.d x m).2.1,(a.d x m).2.2.1,(a.d x m).2.2.2.1⟩⟩;let⟨r1,_,r2⟩:=(q S Z f).2.2 x m;refine⟨r1,fun y K=>?_⟩;let⟨t1,t2⟩:=(a.d x m).2.2.2.2 y K;let⟨f1,f2⟩:=fi x m y K;exact⟨t1,t2,(r2 y K).1,oM,oM⟩
theorem NV.na{W:Nat->Prop}{h:a_}{v:V}{L:List Nt}(w:WF h)(n:NV W h v L):NA h v L:=⟨n.1 [] h iS (Wl w),fun x m=>⟨(n.2 x m).1 [] h iS (Wl w),(n.2 x m).2⟩⟩
theorem L_.skip{p:Nat}{x:V}{h:a_}{b K B bm S bl:Nat}{cap:Int}{X:List m_}{l:List Int}{kn st:List Bool}{mc:dN}(w:WF h)(s:L_ n0 h b Ks cap X l kn st vK K B bm S bl pm mc)(o:e_ h p [x])(hp:p∉Wr b K B bm S bl pm)(lp:Lx n0 p)(f:Fr [p] h h'):
 L_ n0 h' b Ks cap X l kn st vK K B bm S bl pm mc:=by
 have g:∀{y},y∈Wr b K B bm S bl pm->y∉[p]:=fun m q=>hp (Wi.1 q▸m);have n:=f.e;refine⟨f.I _ _ (g (by simp[Wr])) s.ob,s.g.l f (g (by simp[Wr])) (g (by simp[Wr])),s.gB.fr f (g (by simp[Wr])),s.k.frS f (g (by simp[Wr])) (g (by simp[Wr])),s.gS.fr f (g (by simp[Wr])),
  s.lo.frS f (Y9.I o iS (j4 (n:=0) rfl)) (g (by simp[Wr])) (fun q e=>g (by simp[Wr,e])),s.t_,fun Z h2 hZ f2=>?_,s.d,by have:=s.Sl';omega,fun q e=>by have:=s.pl q e;omega,by have:=s.bl';omega,fun z q=>by have:=s.n0l z q;omega⟩
 refine s.rd ([p]++Z) h2 (fun z m=>?_) (Wp f f2 w (fun x m=>.inl (Wa.2 (.inl m))) (fun x m=>.inl (Wa.2 (.inr m))));obtain m|m:=Wa.1 m;grind;grind
theorem SW.skip{p:Nat}{x:V}{W:Nat->Prop}{h:a_}{b:Nat}(w:WF h)(s:SW n0 W C Ks h b E)(o:e_ h p [x])(hp:¬W p)(lp:Lx n0 p)(f:Fr [p] h h'):SW n0 W C Ks h' b E:=by let⟨K,X,st,vK,bg,B,bm,S,bl,pm,mc,s,Z,ev,ix,c,r⟩:=s;exact⟨K,X,st,vK,bg,B,bm,S,bl,pm,mc,s.skip w o (fun m=>hp (r p m)) lp f,Z,ev,ix,c,r⟩
theorem W6.a(a:W6 (E.map d_.b)):Y1 E:=fun e m=>by have:=a e.b (WP.2 ⟨e,m,rfl⟩);omega
theorem W6.c(a:W6 (E.map d_.b))(i:Nat):((E.take i).map d_.b).sum<=50*i:=by have:=(iA (L:=(E.take i).map d_.b) fun x m=>a x (by rw[Zi]at m;exact WX m)).2;rw[Xd,Yk]at this;omega
abbrev u4(a b c d:Int):List V:=[ZZ a,ZZ b,ZZ c,ZZ d]
def SE'(Ks:List p_)(x:m_)(s e:Int):Prop:=if s=0 then IE Ks 12 x e else 0<e
theorem SE'.pos{x:m_}{s e Z:Int}(a:SE' Ks x s e)(b:SE' Ks x s Z)(h:0<e):0<Z:=by unfold SE' at a b;split at a;rename_i c;rw[if_pos c]at b;rw[<-a.det b];exact h;grind
def KQ(N:Nat->Prop)(h:a_)(v:V)(Z:List d_):Prop:=∀S h',(∀z∈S,N z\/h.e<=z)->Fr S h h'->q_ d_.s 6 h' v Z/\∀e∈Z,u_ h' e.x
def IS(N:Nat->Prop)(h0:a_)(x:m_):Prop:=∀S h',(∀z∈S,N z\/h0.e<=z)->Fr S h0 h'->u_ h' x
theorem IS.up{N:Nat->Prop}{h:a_}{S0:List Nat}{x:m_}(a:IS N h x)(w:WF h)(f:Fr S0 h h1)(h0:∀z∈S0,N z\/h.e<=z):IS N h1 x:=fun S h' hS f'=>
 a (S0++S) h' (fun z m=>by
  have:=f.e;obtain m|m:=Wa.1 m;exact h0 z m;obtain q|q:=hS z m;exact .inl q;exact .inr oM) (Wp f f' w (fun x m=>.inl (Wa.2 (.inl m))) (fun x m=>.inl (Wa.2 (.inr m))))
theorem KQ.up{N:Nat->Prop}{h:a_}{v:V}(a:KQ N h v E)(w:WF h)(f:Fr [] h h1):KQ N h1 v E:=fun S h' hS f'=>
 a S h' (fun z m=>by have:=f.e;obtain q|q:=hS z m;exact .inl q;exact .inr oM) (Wp f f' w iS (fun x m=>.inl m))
theorem KQ.is{N:Nat->Prop}{h:a_}{v:V}(a:KQ N h v E){e:d_}(m:e∈E):IS N h e.x:=fun S h' hS f=>(a S h' hS f).2 e m
theorem KQ.rs{N:Nat->Prop}{h:a_}{v:V}(a:KQ N h v E)(w:WF h):q_ d_.s 6 h v E:=(a [] h iS (Wl w)).1
theorem KQ.itm{N:Nat->Prop}{h:a_}{v:V}(a:KQ N h v E)(w:WF h):∀e∈E,u_ h e.x:=(a [] h iS (Wl w)).2
theorem KQ.fin{N:Nat->Prop}{u:V}{O:List d_}(w:WF h1)(hN:∀z,N z->z<h1.e)(F:Fr [] h1 h')(g:Gs h' h1.e 6 u (O.flatMap d_.s))(i:∀e∈O,IS N h1 e.x):KQ N h' u O:=by intro S Z hS f;have n:=F.e;refine⟨ZT (n:=O.length) (g.dj f fun z m c=>?_) (aC aM _) oM,fun e m=>(i e m).up w F iS S Z hS f⟩;have:=g.vb z c;have:=g.lt F.o z c;obtain q|q:=hS z m;grind;omega
theorem KQ.w_{N:Nat->Prop}{h:a_}:KQ N h .r []:=fun _ _ _ _=>⟨ZI,iS⟩
def EV(N:Nat->Prop)(h0:a_)(e:d_):Prop:=IS N h0 e.x/\1<=e.b/\e.b<=50
theorem EV.up{N:Nat->Prop}{h:a_}{e:d_}(a:EV N h e)(w:WF h)(f:Fr [] h h1):EV N h1 e:=⟨a.1.up w f iS,a.2⟩
theorem IS.H{N:Nat->Prop}{h:a_}{x:m_}(a:IS N h x)(w:WF h):u_ h x:=a [] h iS (Wl w)
theorem Mq{h:a_}{e:d_}(w:WF h)(ob:1<=e.b/\e.b<=2305843009213693952):ao go 285 [.B e.s] h fun u h'=>u=.h false/\Fr [] h h':=by let⟨h1,K,Z,ac⟩:=aq w e.s;have l4:ab h1 h.e 4=some (ZZ e.b):=ac.j 4;refine ah ?_;simp[b_,<-K,l4,show decide (e.b<1)=false from decide_eq_false oM,show decide (2305843009213693952<e.b)=false from decide_eq_false oM];exact Z
theorem Mp{h:a_}{v:V}(w:WF h)(re:q_ d_.s 6 h v E)(hE:E.length<=4096)(ok:Y1 E):ao go 284 [v,.E (.func 285) [] []] h fun u h'=>u=.h false/\Fr [] h h':=by refine ah ?_;simp[b_];refine aa (R:=fun u h'=>u=ZZ (-1)/\Fr [] h h') ?_ ?_;refine ah ?_;simp[b_,re.t_];refine aA (fun n env hh=>Fr [] h hh/\∃i:Nat,env.c_ 8=some (ZZ i)/\env.c_ 7=some (ZZ E.length)/\env.c_ 0=some v/\env.c_ 1=some (.E (.func 285) [] [])/\i<=E.length/\n=E.length-i) E.length oM ?_ ?_;exact⟨Wl w,0,iS,iS,iS,iS,oM,rfl⟩;rintro n env hh ⟨F,i,g8,g7,g0,g1,hi,rfl⟩;by_cases c:i<E.length;let⟨bi,oi,e,p1,_,p3,K⟩:=(re.fr F).ix aM .i64 (i:Int) oM oM;rw[pi]at K;have ac:215<1099511627776:=oM;simp[b_,g8,g7,g0,g1,(oM:(i:Int)<E.length),p1,p3];refine aa (Mq F.o (ok e (Wc K))) ?_;rintro _ h3 ⟨rfl,Z⟩;simp(disch:=omega)[b_,ag,g8];refine s_ ⟨E.length-(i+1),oM,F.c Z,i+1,iS,iX,iX,iX,oM,rfl⟩;simp[b_,g8,g7,(oM:¬(i:Int)<E.length)];exact F;rintro _ h3 ⟨rfl,Z⟩;simp[b_];exact Z
section
variable {h : a_} {v : V} {E : List d_}
theorem sZ(w:WF h)(re:q_ d_.s 6 h v E)(ie:∀e∈E,u_ h e.x)(hE:E.length<=1024)(ok:Y1 E)(hs:(E.map d_.b).sum<=4611686018427387904):ao go 249 [.B [v]] h fun u h'=>u=ZZ 0/\Fr [] h h':=by
 have v1:v.U=true:=Xs re;let⟨h1,ac,Z,K⟩:=aq w [v];have x0:∀{h'},Fr [] h1 h'->ab h' h.e 0=some v:=fun f=>(f.i K).j 0;have x1:∀{h'},Fr [] h1 h'->aj h' h.e 0 1=some [v]:=fun f=>by rw[(f.i K).N];rfl
 have r0:Fr [] h1 h1:=Wl Z.o;refine ah ?_;simp[b_,<-ac,x0 r0,(re.fr Z).t_,eq_false (oM:¬(1024:Int)<(E.length:Nat))];refine aa (Mp Z.o (re.fr Z) oM ok) ?_;rintro _ h2 ⟨rfl,F2⟩;simp[b_,x1 F2];apply aa (jJ F2.o (re.fr (Z.c F2)) (fun e m=>(ie e m).fr (Z.c F2)) oM ok hs);rintro _ h3 ⟨rfl,F3⟩;simp[b_,eq_false (oM:¬4611686018427387904<(E.map d_.b).sum)];exact(Z.c F2).c F3
end
def z?(l:List Int)(i:Nat):List V:=(List.range (l.length+1)).map fun j=>ZZ (if j<=i then(l.take j).sum else 0)
theorem mh(l:List Int)(i:Nat):(z? l i).length=l.length+1:=by simp[z?]
theorem jk{l:List Int}{i j:Nat}(h:j<=l.length):(z? l i)[j]? =some (ZZ (if j<=i then(l.take j).sum else 0)):=by
 have:(List.range (l.length+1))[j]? =some j:=by grind
 simp[z?,this]
theorem Gi(l:List Int):bq [ZZ 0] (l.length+1)=z? l 0:=by rw[iC];refine Yy fun j=>?_;by_cases c:j<l.length+1;rw[jk oM,Yd,if_pos c];split;grind;rfl;rw[Xa oO,Xa (by rw[mh];omega)]
theorem Gj{l:List Int}{i:Nat}(h:i<l.length):bG (z? l i) (i+1) [ZZ (l.take (i+1)).sum]=some (z? l (i+1)):=by
 rw[cD _ _ _ (by rw[mh];simp;omega)];have e:(z? l i).take (i+1)++[ZZ (l.take (i+1)).sum]++(z? l i).drop (i+1+[ZZ (l.take (i+1)).sum].length)=(z? l i).set (i+1) (ZZ (l.take (i+1)).sum):=by rw[XL,if_pos (by rw[mh];omega)];simp
 rw[e];congr 1;refine Yy fun j=>?_;rw[Zp];by_cases c:j<=l.length;rw[jk c,jk c,mh];split;grind;grind;rw[if_neg oM,Xa (by rw[mh];omega),Xa (by rw[mh];omega)]
section
variable {h : a_} {v : V} {E : List d_}
theorem xC(w:WF h)(re:q_ d_.s 6 h v E)(ie:∀e∈E,u_ h e.x)(hE:E.length<=1024)(ok:Y1 E)(hs:(E.map d_.b).sum<=4611686018427387904):
 ao go 250 [.B [v]] h fun u h'=>Fr [] h h'/\∃q,h.e<=q/\u=.D [.y q 0 (E.length+1) (E.length+1),ZZ 0]/\e_ h' q (z? (E.map d_.b) E.length):=by
 have v1:v.U=true:=Xs re;let⟨h1,ae,Z,ak⟩:=aq w [v];have n1:=x_ ae;have x0:∀{h'},Fr [] h1 h'->ab h' h.e 0=some v:=fun f=>(f.i ak).j 0;have x1:∀{h'},Fr [] h1 h'->aj h' h.e 0 1=some [v]:=fun f=>by rw[(f.i ak).N];rfl
 have r0:Fr [] h1 h1:=Wl Z.o;refine ah ?_;simp[b_,<-ae,x1 r0];refine aa (sZ Z.o (re.fr Z) (fun e m=>(ie e m).fr Z) hE ok hs) ?_;rintro _ h2 ⟨rfl,F2⟩;have ax:=re.fr (Z.c F2);have n2:=F2.e;simp(disch:=omega)[b_,ag,x0 F2,ax.t_];refine(bV _ _ _ _ _ _ _ _ oM oM oM oM).2 ?_;have tn:((E.length:Int)+1).toNat=E.length+1:=oM;simp;obtain⟨h3,K⟩:∃h3,h3=h_ h2 (bq [ZZ 0] (E.length+1)):=⟨_,rfl⟩;have ac:Fr [] h2 h3:=K▸WA F2.o _;have af:e_ h3 h2.e (bq [ZZ 0] (E.length+1)):=K▸Xc F2.o _;rw[<-K];clear K;have tz:=Gi (E.map d_.b);rw[Xd]at tz;rw[tz]at af;simp[b_,x0 (F2.c ac),(ax.fr ac).t_];refine aA (fun n env hh=>Fr [] h1 hh/\∃i:Nat,env.c_ 20=some (ZZ i)/\env.c_ 19=some (ZZ E.length)/\env.c_ 5=some (.y h2.e 0 (E.length+1) (E.length+1))/\env.c_ 1=some (.u h.e 0)/\e_ hh h2.e (z? (E.map d_.b) i)/\i<=E.length/\n=E.length-i) E.length oM ?_ ?_;exact⟨F2.c ac,0,iS,iS,iS,iS,af,oM,rfl⟩;rintro n env hh ⟨F,i,an,ar,g5,g1,o,hi,rfl⟩;by_cases c:i<E.length;let⟨bi,oi,e,p1,p2,p3,p4⟩:=(re.fr (Z.c F)).ix aM .i64 (i:Int) oM oM;rw[pi]at p4;have l4:ab hh bi (oi+4)=some (ZZ e.b):=p2 4 oM;have ob:=ok e (Wc p4);have ts:=vL p4;have s0:=(ok.g i).d;have:=(ok.f (i+1)).d;have:=Y1.e (E:=E) (i+1);rw[Zi,Zi]at ts;rw[Zi]at s0;have xa:=dh 1 h2.e 0 (E.length+1) (E.length+1) .i64 (i:Int) oM oM;simp at xa;have xb:=dh 1 h2.e 0 (E.length+1) (E.length+1) .i64 ((i:Int)+1) oM oM;simp at xb;have lt:ab hh h2.e i=some (ZZ ((E.map d_.b).take i).sum):=by rw[o.j,eZ,jk oO,if_pos (VZ _)]
 rw[Zi]at *;simp(disch:=omega)[b_,j_,ag,an,ar,g5,g1,(oM:(i:Int)<E.length),x0 F,p1,l4,xa,xb,lt,<-ts];apply ai (c':=z? (E.map d_.b) (i+1)) F.o o rfl rfl (Gj oO);rintro h4 o4 F4 n4;simp(disch:=omega)[b_,DF,ag,an,x0 F,l4,lt];refine s_ ⟨E.length-(i+1),oM,F.z F4 Z.o n2,i+1,iS,iX,iX,iX,o4,oM,rfl⟩;obtain rfl:i=E.length:=oM;simp only[b_,seval,an,ar,g5,(oM:¬((E.length:Nat):Int)<E.length)];exact⟨Z.c F,h2.e,oM,rfl,o⟩
end
theorem EN{h:a_}{p x q i n:Nat}{y:Int}{l:List Int}(o1:e_ h p [.y q 0 (n+1) (n+1)])(o2:e_ h x [ZZ y])(K:e_ h q (z? l n))(hl:l.length=n)(hi:i<n)(hn:n<=4096):
 ao go 314 [ZZ (i:Int),.u p 0,.u x 0] h fun u h'=>h=h'/\u=.h (decide (y<(l.take (i+1)).sum)):=by
 have Z:=dh 1 q 0 (n+1) (n+1) .i64 ((i:Int)+1) oM oM;simp at Z;have l1:ab h p 0=some (.y q 0 (n+1) (n+1)):=o1.j 0;have l2:ab h x 0=some (ZZ y):=o2.j 0;have l3:ab h q (i+1)=some (ZZ (l.take (i+1)).sum):=by rw[K.j,eZ,jk oM,if_pos oM]
 refine ah ?_;simp(disch:=omega)[b_,DF,j_,ag,l1,l2,l3,Z]
theorem D3{h:a_}{p x q n k:Nat}{y:Int}{l:List Int}(o1:e_ h p [.y q 0 (n+1) (n+1)])(o2:e_ h x [ZZ y])(o3:e_ h q (z? l n))(hl:l.length=n)(hn:n<=4096)(hk:k<n)
 (hc:∀i,i<n->(y<(l.take (i+1)).sum↔k<=i)):
 ao go 313 [ZZ (n:Int),.E (.func 314) [] [.u p 0,.u x 0]] h fun u h'=>h=h'/\u=ZZ (k:Int):=by
 refine ah ?_;simp[b_];refine aA (fun r env K=>h=K/\∃i j:Nat,env.c_ 5=some (ZZ i)/\env.c_ 6=some (ZZ j)/\env.c_ 1=some (.E (.func 314) [] [.u p 0,.u x 0])/\i<=k/\k<=j/\j<=n/\r=j-i) n oM ?_ ?_;exact⟨rfl,0,n,iS,iS,iS,oM,oM,oM,rfl⟩;rintro r env K ⟨rfl,i,j,Z,g6,g1,h1,h2,h3,rfl⟩;by_cases c:i<j;have sh:aP (.E false) [ZX ((i:Int)+j),ZX 1]=some (ZX (((i+j)/2:Nat):Int)):=by have:=gX .u64 (i+j) 1 1 rfl oM;rw[ZD]at this;exact this
 have fw:bP .u64 ((i:Int)+j)=(i:Int)+j:=bS _ oM oM;have fv:bP .i64 (((i+j)/2:Nat):Int)=(((i+j)/2:Nat):Int):=ag _ oM oM;have ac:217<1099511627776:=oM;have m1:i<=(i+j)/2:=oM;have m2:(i+j)/2<j:=oM;generalize(i+j)/2=m at sh fv m1 m2;simp(disch:=omega) only[b_,seval,ag,Z,g6,g1,eq_true (oM:(i:Int)<j),fw,sh];refine aa (EN (i:=m) o1 o2 o3 hl oM hn) ?_;rintro _ _ ⟨rfl,rfl⟩;have e:=hc m oM;by_cases d:k<=m;simp only[b_,seval,decide_eq_true (e.2 d)];refine s_ ⟨m-i,oM,rfl,i,m,iX,iS,iX,h1,d,oM,rfl⟩;simp(disch:=omega) only[b_,seval,ag,decide_eq_false (fun z=>d (e.1 z))];refine s_ ⟨j-(m+1),oM,rfl,m+1,j,iS,iX,iX,oM,h2,h3,rfl⟩;obtain rfl:i=j:=oM;obtain rfl:i=k:=oM;simp[b_,Z,g6]
open Go.Ev.St
theorem Gl{l:List Int}(f:I_ l)(i:Nat):0<=(l.take i).sum/\(l.take i).sum<=l.sum:=by have K:=(f.sub (Xp i l)).nn;have Z:=XG (l₁:=l.take i) (l₂:=l.drop i);rw[WO]at Z;have:=(f.sub (Yh i l)).nn;omega
theorem sE{l:List Int}(f:I_ l){i j:Nat}(h:i<=j):(l.take i).sum<=(l.take j).sum:=by have:=Gl (f.sub (Xp j l)) i;rw[Yu,XN h]at this;exact this.2
theorem qw:∀{l:List Int}{x:Int},0≤x→x<l.sum→(l.take (aG l x).1).sum≤x∧x<(l.take ((aG l x).1+1)).sum∧(aG l x).2=x-(l.take (aG l x).1).sum
 |[],x,h0,h1=>by simp at h1;omega
 |s::l,x,h0,h1=>by simp only[aG];by_cases c:x<s;grind;simp only[if_neg c];have:=qw (l:=l) (x:=x-s) oM (by simp at h1;omega);simp only[List.take_succ_cons,List.sum_cons];omega
theorem CO{l:List Int}(f:I_ l){x:Int}(h0:0<=x)(Z:x<l.sum)(i:Nat):(l.take i).sum<=x↔i<=(aG l x).1:=by let⟨a,b,_⟩:=qw h0 Z;constructor;intro h;obtain c|c:=WY (aG l x).1 i;have:=sE f (oM:(aG l x).1+1<=i);omega;exact c;intro h;have:=sE f h;omega
section
variable {h : a_} {v : V} {E : List d_}
theorem Pw(hE:E.length<=1024)(ok:Y1 E)(Z:(E.map d_.b).sum<=4611686018427387904):I_ (E.map d_.b):=by refine⟨fun x m=>?_,Z,by simp;omega⟩;obtain⟨e,K,rfl⟩:=WP.1 m;have:=ok e K;omega
abbrev vA(k:Nat)(d:Int):V:=.B [ZX (k:Int),ZZ d]
section
variable {n0 : NL} {h : a_} {b bg B bm S bl : Nat} {Ks : List p_} {cap : Int} {X : List m_} {kn st : List Bool} {vK : V} {pm : Option Nat} {mc : dN} {E : List d_}
end
end
def aV(m:Int->Int):List Int->List Int->List Bool->Bool->Int×List Int×List Bool×Bool
 |[],l,ks,mo=>(0,l,ks,mo)
 |i::A,l,ks,mo=>if 0<=i/\i<l.length then if ks.getD i.toNat false=true then aV m A l ks mo else
  if bJ l i (m i)=0 then aV m A (l.set i.toNat (m i)) (ks.set i.toNat true) true else(bJ l i (m i),l,ks,mo)else(4,l,ks,mo)
theorem Nc{S:List Nat}{h h2:a_}(a:Fr S h h1)(c:Fr S h1 h2):Fr S h h2:=⟨Wy a.e c.e,c.o,fun x k hx o=>c.I x k hx (a.I x k hx o),fun x k hx o=>c.pl x k hx (a.pl x k hx o),fun x k hk o=>c.lp x k hk (a.lp x k hk o),fun x k r=>c.ro x k (a.ro x k r)⟩
theorem Pu{S:List Nat}{h:a_}(f:Fr [] h h1):Fr S h h1:=⟨f.e,f.o,fun _ _ _ o=>f.i o,fun x k _ o=>f.pl x k iS o,f.lp,f.ro⟩
structure V8(b:Nat)(h h':a_):Prop where
 f:Z3 b h h'
 c:∀v l ks,Ix h v l ks->Ix h' v l ks
 z:Fr [b] h h'
 p:∀x y t,e_ h b [x,y,t]->∃x' y',e_ h' b [x',y',t]
theorem V8.a{b:Nat}{h h2:a_}(a:V8 b h h1)(c:V8 b h1 h2):V8 b h h2:=⟨a.f.b c.f,fun v l ks i=>c.c v l ks (a.c v l ks i),Nc a.z c.z,fun x y t o=>by let⟨x',y',o'⟩:=a.p x y t o;exact c.p x' y' t o'⟩
theorem frL{b:Nat}{h:a_}(f:Fr [] h h'):V8 b h h':=⟨frF f,fun _ _ _ i=>i.fr f,Pu f,fun x y _ o=>⟨x,y,f.i o⟩⟩
theorem Hz{x y z:V}:∀L:List (Int×Int),0<L.length->[x,y,z]≠L.flatMap sp:=by intro L _ e;have Z:=congrArg List.length e;rw[aC (k:=2) (fun _=>rfl)]at Z;simp at Z;omega
theorem Ox{b:Nat}{h:a_}{x y z x' y':V}(f:Fr [b] h h')(o:e_ h b [x,y,z])(o':e_ h' b [x',y',z]):V8 b h h':=⟨Oy f,fun _ _ _ i=>i.frb f o iS Hz,f,fun a c t q=>by cases o.uniq q;exact⟨_,_,o'⟩⟩
theorem EJ(A:List Int):∀n m ws,ws.length=64->A.map (V.A .i64)≠P7 n m ws:=by
 intro n m ws Z e;cases ws with
 |nil=>simp at Z
 |cons y ws=>
  have:uw y∈A.map (V.A .i64):=by rw[e];simp[P7]
  simp[uw]at this
def Atl(h:a_)(B:Nat)(v:V)(A:List Int):Prop:=(v=.r/\A=[])\/∃c,v=.y c 0 A.length A.length/\e_ h c (A.map (V.A .i64))/\B<=c
theorem Atl.ints{h:a_}{B:Nat}{v:V}{A:List Int}(a:Atl h B v A):lP h v A:=by obtain⟨rfl,rfl⟩|⟨c,rfl,o,_⟩:=a;exact(show Sl _ 1 _ _ _ from ZI (f:=ic));exact Xy o iS
theorem Atl.fr{h:a_}{B b:Nat}{v:V}{A:List Int}(a:Atl h B v A)(f:Z3 b h h')(Z:b<B):Atl h' B v A:=by obtain x|⟨c,e,o,q⟩:=a;exact .inl x;exact .inr ⟨c,e,f.a _ _ oM (EJ A) o,q⟩
def kF(l:List Int)(bs:List Bool)(view over s:Int)(A:List Int):Prop:=if l=[]then A=[]else NW l bs view over s A
theorem wP{l:List Int}{s:Int}{A:List Int}(a:kF l bs view over s A)(hl:bs.length=l.length):∀i∈A,0<=i/\i<l.length:=by
 unfold kF at a;split at a;subst a;simp;obtain⟨hr,he,K,rfl⟩:=a;have f0:0<=(cN l view over s).1:=by unfold cN;simp;omega
 have t0:(cN l view over s).2<=l.length:=by unfold cN;simp;omega
 intro i Z;rw[Wa]at Z;obtain Z|Z:=Z;split at Z;rename_i c;simp at Z;subst Z;obtain⟨_,_,p,rfl,hp⟩:=K.a c.1;omega;simp at Z;simp only[X6,WP,List.mem_range]at Z;obtain⟨j,hj,rfl⟩:=Z;omega
theorem K9{l:List Int}{s:Int}{A:List Int}(a:kF l bs view over s A):A.length<=l.length+1:=by
 unfold kF at a;split at a;subst a;simp;obtain⟨K,Z,hs,rfl⟩:=a;have f0:0<=(cN l view over s).1:=by unfold cN;simp;omega
 have t0:(cN l view over s).2<=l.length:=by unfold cN;simp;omega
 rw[Wq,ga];split<;>simp<;>omega
theorem Kj{h:a_}{b N:Nat}{p:Option Nat}{vk:V}{l:List Int}{s:Int}{m:Int->Int}(w:WF h)(g:R_ h)(o:e_ h b [pv p,vk,pv pm])(v1:vk.U=true)(ix:Ix h (.B [pv p,vk]) l ks)
 (mk:Mk h pm bs) (el:bs.length=l.length) (pos:∀x∈l,1<=x) (s0:-9223372036854775808<=s) (s1:s<=9223372036854775807) (ok:T7 view over) (cl:aX l view s=s)
 (hN:N<1099511627776) (hm:∀h',Z3 b h h'->∀i:Int,0<=i->i<(l.length:Nat)->ao go N ([ZZ i]++caps) h' fun u h''=>u=ZZ (m i)/\Fr [] h' h'') (mb:∀i,-9223372036854775808<=m i/\m i<=9223372036854775807):
 ao go 88 [.u b 0,.B [ZZ view,ZZ over,.h lo],ZZ s,.E (.func N) [] caps] h fun u h'=>∃A c d,kF l bs view over s A/\
  u=.D [.h (if(aV m A l ks false).1=0 then(aV m A l ks false).2.2.2 else false),ZZ (aV m A l ks false).1]/\e_ h' b [c,d,pv pm]/\c.U=true/\d.U=true/\
  ((aV m A l ks false).1=0->Ix h' (.B [c,d]) (aV m A l ks false).2.1 (aV m A l ks false).2.2.1)/\Mk h' pm bs/\V8 b h h':=by
 have a:Lo h b l ks bs:=⟨p,vk,pm,o,v1,ix,mk,el⟩;have blt:=o.lt w;let⟨h1,ar,ac,aJ⟩:=aq w [ZZ view,ZZ over,.h lo];refine ah ?_;simp only[b_,seval,<-ar,aJ.N];refine aa (Lq ac.o (g.fr ac) (a.fr ac) pos s0 s1) ?_;rintro u h2 ⟨F2,hu⟩;have af:=ac.c F2;rw[if_pos ok,if_pos cl]at hu;obtain⟨A,rv,eu,ax,al⟩:∃A rv,u=.D [rv,ZZ 0]/\Atl h2 h.e rv A/\kF l bs view over s A:=by
  unfold kF;by_cases c:l=[]
  ·rw[if_pos c]at hu;exact⟨[],.r,hu,.inl ⟨rfl,rfl⟩,by rw[if_pos c]⟩
  ·rw[if_neg c]at hu;let⟨A,q,e1,e2,e3,e4⟩:=hu;exact⟨A,_,e1,.inr ⟨q,rfl,e2,Wy ac.e e3⟩,by rw[if_neg c];exact e4⟩
 subst eu;have lm:=ix.fit.2.2;have rg:=wP al el;have az:=ax.ints.t_;simp only[b_,seval,az];have hA:=K9 al;refine aA (fun k env hh=>∃(j:Nat)(p':Option Nat)(ae:V)(l':List Int)(ks':List Bool)(mo:Bool),env.c_ 29=some (ZZ j)/\env.c_ 28=some (ZZ A.length)/\env.c_ 27=some rv/\env.c_ 0=some (.u b 0)/\env.c_ 3=some (.E (.func N) [] caps)/\env.c_ 12=some (.h mo)/\
  j<=A.length/\l'.length=l.length/\aV m A l ks false=aV m (A.drop j) l' ks' mo/\e_ hh b [pv p',ae,pv pm]/\ae.U=true/\Ix hh (.B [pv p',ae]) l' ks'/\Mk hh pm bs/\V8 b h hh/\Atl hh h.e rv A/\k=A.length-j) A.length oM ?_ ?_
 ·exact⟨0,p,vk,l,ks,false,iS,iS,iS,iS,iS,iS,oM,rfl,rfl,af.i o,v1,ix.fr af,mk.fr af,frL af,ax,rfl⟩
 rintro k env hh ⟨j,p',ae,l',ks',mo,ak,aN,aT,g0,g3,g12,hj,ll,lr,oo,vv,ii,mm,FF,at',rfl⟩;by_cases an:(j:Int)<A.length
 ·let⟨bb,ob,x,e1,e2,e3⟩:=at'.ints.ix .i64 j oM an;simp at e3;have rx:=rg x (Wc e3);have dr:A.drop j=x::A.drop (j+1):=by
   have aH:j<A.length:=oM
   rw[Xf aH];congr 1;rw[Wf aH]at e3;exact Xl e3
  have aR:ab hh bb ob=some (ZZ x):=e2;simp only[b_,seval,ak,aN,aT,g0,an,e1,aR,oo.N];apply aa (xd FF.f.f ii);rintro _ h3 ⟨rfl,F3⟩;rw[if_pos ⟨rx.1,by rw[ll];exact rx.2⟩];have L3:V8 b h h3:=FF.a (frL F3);cases hk:ks'.getD x.toNat false
  ·have K:aV m A l ks false=if bJ l' x (m x)=0 then aV m (A.drop (j+1)) (l'.set x.toNat (m x)) (ks'.set x.toNat true) true else(bJ l' x (m x),l',ks',mo):=by
    rw[lr,dr,aV,if_pos ⟨rx.1,by rw[ll];exact rx.2⟩,hk];rfl
   simp only[b_,seval,j_,g0,g3,(F3.i oo).N];refine⟨hN,aa (hm h3 L3.f x rx.1 rx.2) ?_⟩;rintro _ a1 ⟨rfl,Fm⟩;have ay:=(F3.i oo).N;have Z:=F3.c Fm;have a0:=L3.a (frL Fm);simp only[b_,j_];apply aa (Dr Z.o (ii.fr Z) (mb x).1 (mb x).2 oM oM);rintro _ h4 ⟨F4,c,d,rfl,hc,hd,hx⟩;simp only[b_,j_];apply ai (c':=[c,d,pv pm]) F4.o ((Z.c F4).i oo) rfl (by simp[aw,V.s,hc,hd]) rfl;rintro h5 o5 F5 n5;have L4:V8 b h h4:=a0.a (frL F4);have L5:V8 b h h5:=L4.a (Ox F5 ((Z.c F4).i oo) o5);have m5:Mk h5 pm bs:=((mm.fr (Z.c F4))).frb F5 ((Z.c F4).i oo) rfl;by_cases z:bJ l' x (m x)=0
   ·rw[if_pos z]at K;simp(disch:=omega) only[b_,seval,DF,j_,ag,ak,(Z.i oo).N,ay,eq_true z];have i4:=hx z;obtain⟨p5,rfl⟩:=i4.form;have i5:=i4.frb F5 ((Z.c F4).i oo) iS Hz;refine s_ ⟨A.length-(j+1),oM,j+1,p5,d,_,_,true,iS,iX,iX,iX,iX,iS,oM,by simpa using ll,K,o5,hd,i5,m5,L5,(at'.fr (frF (Z.c F4)) blt).fr (Oy F5) blt,rfl⟩
    done
   ·rw[if_neg z]at K;simp only[b_,seval,DF,j_,(Z.i oo).N,ay,eq_false z];refine⟨A,c,d,al,?_,o5,hc,hd,fun q=>?_,m5,L5⟩
    ·rw[K];simp[z]
    ·rw[K]at q;exact absurd q z
  ·have K:aV m A l ks false=aV m (A.drop (j+1)) l' ks' mo:=by
    rw[lr,dr,aV,if_pos ⟨rx.1,by rw[ll];exact rx.2⟩,if_pos hk]
   simp(disch:=omega) only[b_,seval,ag,ak];refine s_ ⟨A.length-(j+1),oM,j+1,p',ae,l',ks',mo,iS,iX,iX,iX,iX,iX,oM,ll,K,F3.i oo,vv,ii.fr F3,mm.fr F3,L3,at'.fr (frF F3) blt,rfl⟩
   done
 ·have ej:j=A.length:=oM
  have K:aV m A l ks false=(0,l',ks',mo):=by
   rw[lr,ej,XR];rfl
  simp only[b_,seval,ak,aN,g12,an];refine⟨A,pv p',ae,al,?_,oo,?_,vv,fun _=>?_,mm,FF⟩
  ·rw[K];simp
  ·cases p'<;>rfl
  ·rw[K];exact ii
theorem qd{l:List Int}{i x:Int}(h:bJ l i x=0):0<=i/\i<l.length/\1<=x/\x<=2305843009213693952:=by unfold bJ at h;split at h;omega;omega
theorem du(m:Int→Int):∀(A l:List Int)(ks:List Bool)(mo:Bool),ks.length=l.length→(∀x∈l,1≤x)→
 (aV m A l ks mo).2.1.length=l.length∧(aV m A l ks mo).2.2.1.length=ks.length∧(∀x∈(aV m A l ks mo).2.1,1≤x)∧(aV m A l ks mo).2.2.1.count false≤ks.count false∧
 ((aV m A l ks mo).2.2.2=true→mo=true∨(aV m A l ks mo).2.2.1.count false<ks.count false)
 |[],l,ks,mo,_,hp=>⟨rfl,rfl,hp,Nat.le_refl _,fun h=>.inl h⟩
 |i::A,l,ks,mo,hl,hp=>by
  rw[aV];by_cases c1:0≤i∧i<l.length;rw[if_pos c1];by_cases c2:ks.getD i.toNat false=true;rw[if_pos c2];exact du m A l ks mo hl hp;rw[if_neg c2];by_cases c3:bJ l i (m i)=0;rw[if_pos c3];let⟨_,_,x1,_⟩:=qd c3;have hi:i.toNat<ks.length:=oM;have hk:ks[i.toNat]=false:=by
   have:ks.getD i.toNat false=ks[i.toNat]:=by simp[List.getD,hi]
   rw[this]at c2;simpa using c2
  have hc:=List.count_set (a:=true) (b:=false) (l:=ks) hi;rw[hk]at hc;simp at hc;have hpos:0<ks.count false:=List.count_pos_iff.2 (by rw[←hk];exact List.getElem_mem hi);have ih:=du m A (l.set i.toNat (m i)) (ks.set i.toNat true) true (eV hl) (fun x hx=>by
   obtain q|q:=List.mem_or_eq_of_mem_set hx;exact hp x q;omega)
  let⟨a1,a2,a3,a4,_⟩:=ih;refine⟨by simpa using a1,by simpa using a2,a3,oM,fun _=>.inr oM⟩;rw[if_neg c3];exact⟨rfl,rfl,hp,Nat.le_refl _,fun h=>.inl h⟩;rw[if_neg c1];exact⟨rfl,rfl,hp,Nat.le_refl _,fun h=>.inl h⟩
structure SS(h:a_)(env:T V)(b fb bb N:Nat)(caps:List V)(p0 pm:Option Nat)(vk0:V)(l0:List Int)(ks0 bs:List Bool)(view over anchor delta:Int)(lo:Bool)(r:Nat)(l:List Int)(ks:List Bool):Prop where
 G:WF h
 j:R_ h
 m:∃p vk,e_ h b [pv p,vk,pv pm]/\vk.U=true/\Ix h (.B [pv p,vk]) l ks
 D:Mk h pm bs
 q:bs.length=l.length
 a:∀x∈l,1<=x
 t:e_ h fb [ZZ view,ZZ over,.h lo]
 o:e_ h bb [pv p0,vk0]
 F:vk0.U=true
 k:Ix h (.B [pv p0,vk0]) l0 ks0
 d:bs.length=l0.length
 e:fb≠b
 c:bb≠b
 n:0≠b
 u:env.c_ 0=some (.u b 0)
 w:env.c_ 2=some (ZZ anchor)
 y:env.c_ 3=some (ZZ delta)
 z:env.c_ 4=some (.E (.func N) [] caps)
 A:env.c_ 6=some (.u fb 0)
 f:env.c_ 11=some (ZZ r)
 g:env.c_ 12=some (ZZ 0)
 i:env.c_ 13=some (.u bb 0)
theorem wt{c:List V}(h:c.length<60):∀n m ws,ws.length=64->c≠P7 n m ws:=by intro n m ws Z e;have:=congrArg List.length e;simp[P7,Z]at this;omega
theorem oS(l:List Int)(view s:Int):aX l view (aX l view s)=aX l view s:=by unfold aX;omega
theorem tF{h:a_}{env:T V}{b fb bb N r:Nat}{p0:Option Nat}{af:V}{l0 l:List Int}{ar:List Bool}{s:Int}{m:Int->Int}{Q:Ex->T V->a_->Prop}
 (S:SS h env b fb bb N caps p0 pm af l0 ar bs view over anchor delta lo r l ks) (aH:env.c_ 10=some (ZZ s)) (ok:T7 view over) (hr:r<1000000)
 (hN:N<1099511627776) (hm:∀h',Z3 b h h'->∀i:Int,0<=i->i<(bs.length:Nat)->ao go N ([ZZ i]++caps) h' fun u h''=>u=ZZ (m i)/\Fr [] h' h'') (mb:∀i,-9223372036854775808<=m i/\m i<=9223372036854775807)
 (ac:∀env' h' A,kF l bs view over (aX l view s) A->(aV m A l ks false).1≠0->env'.c_ 10=some (ZZ 0)->env'.c_ 11=some (ZZ 0)->env'.c_ 12=some (ZZ (aV m A l ks false).1)->Lo h' b l0 ar bs->V8 b h h'->Q .d env' h')
 (ae:∀env' h' A l' ks',kF l bs view over (aX l view s) A->aV m A l ks false=(0,l',ks',false)->env'.c_ 10=some (ZZ (aX l view s))->env'.c_ 11=some (ZZ r)->env'.c_ 12=some (ZZ 0)->Lo h' b l' ks' bs->V8 b h h'->Q .d env' h')
 (K:∀env' h' A l' ks',kF l bs view over (aX l view s) A->aV m A l ks false=(0,l',ks',true)->SS h' env' b fb bb N caps p0 pm af l0 ar bs view over anchor delta lo (r+1) l' ks'->env'.c_ 10=some (ZZ (aX l view s))->V8 b h h'->Q (.b 0) env' h'):
 W go Cv env h Q:=by
 let⟨wf,glb,⟨p,vk,o,v1,ix⟩,mk,el,pos,fo,bo,v0,ix0,el0,fne,bne,zne,g0,g2,g3,g4,g6,g11,g12,g13⟩:=S;have a:Lo h b l ks bs:=⟨p,vk,pm,o,v1,ix,mk,el⟩;have fit:=ix.fit;have f1:=fit.nn;have f2:=fit.2.1;simp[b_,Cv,g12,g6,aH,g0,fo.N];apply aa (qQ wf a);rintro _ h1 ⟨rfl,F1⟩;rw[if_pos ok];obtain⟨s',ak⟩:∃s',s'=aX l view s:=⟨_,rfl⟩;rw[<-ak]at ac ae K|-;have sb:0<=s'/\s'<=4611686018427387904:=by rw[ak];unfold aX;have:=ok.1;omega
 have ci:aX l view s'=s':=by rw[ak];exact oS _ _ _
 simp[b_,g6,g0,g4,(F1.i fo).N];apply aa (Kj F1.o (glb.fr F1) (F1.i o) v1 (ix.fr F1) (mk.fr F1) el pos oM oM ok ci hN (fun h' f i i0 i1=>hm h' ((frF F1).b f) i i0 oM) mb);rintro _ h2 ⟨A,c,d,al,rfl,o2,hc,hd,hx,an,L2⟩;have Z:V8 b h h2:=(frL F1).a L2;have aJ:=Z.f.a _ _ fne (wt iS) fo;have ay:=Z.f.a _ _ bne (wt iS) bo;have ax:=Z.c _ _ _ ix0;have az:=glb.frF Z.f zne;have sp:=du m A l ks false ix.t_.1 pos;obtain⟨l',ks',mo,e,he⟩:∃l' ks' mo e,aV m A l ks false=(e,l',ks',mo):=⟨_,_,_,_,rfl⟩;have Kb:=ac;rw[he]at sp hx|-;simp only[]at sp hx|-;by_cases z:e=0;subst z;have i2:=hx rfl;obtain⟨p2,rfl⟩:=i2.form;cases mo;simp[b_,g11];exact ae _ _ A l' ks' al he iS iS iS ⟨p2,d,pm,o2,hd,i2,an,oM⟩ Z;simp(disch:=omega)[b_,ag,g11];refine K _ _ A l' ks' al he ⟨Z.f.f,az,⟨p2,d,o2,hd,i2⟩,an,oM,sp.2.2.1,aJ,ay,v0,ax,el0,fne,bne,zne,iX,iX,iX,iX,iX,iS,iS,iX⟩ iS Z;simp[b_,g0,g13,eq_false z,ay.N];apply ai (c':=[pv p0,af,pv pm]) Z.f.f o2 rfl (by simp[aw,V.s,gH,v0]) rfl;rintro h3 o3 F3 n3;simp[b_];refine ac _ _ A al (by rw[he];exact z) iS iS (by rw[he];simp) ⟨p0,af,pm,o3,v0,ax.frb F3 o2 iS Hz,an.frb F3 o2 rfl,el0⟩ (Z.a (Ox F3 o2 o3))
def U7(l:List Int)(view anchor delta:Int)(lo:Bool)(r:Nat)(s:Int):Int:=aX l view (if 0<=anchor/\(r=0\/lo=false)then(l.take anchor.toNat).sum+delta else s)
inductive R5(m:Int->Int)(bs:List Bool)(view over anchor delta:Int)(lo:Bool):Int->Nat->List Int->List Bool->Int->Int->Int->List Int->List Bool->Prop
 |a {s:Int} {r:Nat} {l:List Int} {ks:List Bool} {A l':List Int} {ks':List Bool}:kF l bs view over (U7 l view anchor delta lo r s) A->(aV m A l ks false).1≠0->R5 m bs view over anchor delta lo s r l ks 0 0 (aV m A l ks false).1 l' ks'
 |done {s:Int} {r:Nat} {l:List Int} {ks:List Bool} {A l':List Int} {ks':List Bool}:kF l bs view over (U7 l view anchor delta lo r s) A->aV m A l ks false=(0,l',ks',false)->R5 m bs view over anchor delta lo s r l ks (U7 l view anchor delta lo r s) r 0 l' ks'
 |more {s:Int} {r:Nat} {l:List Int} {ks:List Bool} {A l':List Int} {ks':List Bool} {s2 n2 e2:Int} {l2:List Int} {ks2:List Bool}:kF l bs view over (U7 l view anchor delta lo r s) A->aV m A l ks false=(0,l',ks',true)->
  R5 m bs view over anchor delta lo (U7 l view anchor delta lo r s) (r+1) l' ks' s2 n2 e2 l2 ks2->R5 m bs view over anchor delta lo s r l ks s2 n2 e2 l2 ks2
theorem zn{h:a_}{env:T V}{b fb bb N r:Nat}{p0:Option Nat}{af:V}{l0 l:List Int}{ae:List Bool}{s:Int}{m:Int->Int}{Q:Ex->T V->a_->Prop}
 (S:SS h env b fb bb N caps p0 pm af l0 ae bs view over anchor delta lo r l ks) (an:env.c_ 10=some (ZZ s)) (ok:T7 view over) (hr:r<1000000) (ha:anchor<l.length) (d0:0<=delta) (d1:delta<=2305843009213693952)
 (hN:N<1099511627776) (hm:∀h',Z3 b h h'->∀i:Int,0<=i->i<(bs.length:Nat)->ao go N ([ZZ i]++caps) h' fun u h''=>u=ZZ (m i)/\Fr [] h' h'') (mb:∀i,-9223372036854775808<=m i/\m i<=9223372036854775807)
 (ac:∀env' h' A,kF l bs view over (U7 l view anchor delta lo r s) A->(aV m A l ks false).1≠0->env'.c_ 10=some (ZZ 0)->env'.c_ 11=some (ZZ 0)->env'.c_ 12=some (ZZ (aV m A l ks false).1)->Lo h' b l0 ae bs->V8 b h h'->Q .d env' h')
 (K:∀env' h' A l' ks',kF l bs view over (U7 l view anchor delta lo r s) A->aV m A l ks false=(0,l',ks',false)->env'.c_ 10=some (ZZ (U7 l view anchor delta lo r s))->env'.c_ 11=some (ZZ r)->env'.c_ 12=some (ZZ 0)->Lo h' b l' ks' bs->V8 b h h'->Q .d env' h')
 (Z:∀env' h' A l' ks',kF l bs view over (U7 l view anchor delta lo r s) A->aV m A l ks false=(0,l',ks',true)->SS h' env' b fb bb N caps p0 pm af l0 ae bs view over anchor delta lo (r+1) l' ks'->env'.c_ 10=some (ZZ (U7 l view anchor delta lo r s))->V8 b h h'->Q (.b 0) env' h'):
 W go Bb env h Q:=by
 have S0:=S;let⟨wf,glb,⟨p,vk,o,v1,ix⟩,mk,el,pos,fo,bo,v0,ix0,el0,fne,bne,zne,g0,g2,g3,g4,g6,g11,g12,g13⟩:=S;have fit:=ix.fit;have f2:=fit.2.1;unfold U7 at ac K Z;by_cases ca:0<=anchor;have ak:0<=anchor/\(r=0\/lo=false)->W go (.e (.n [⟨none,.p .h [.v 0],none⟩,⟨none,.p (.b 0) [.l 0],none⟩,⟨none,.a 2 true (.l 0),none⟩,⟨none,.d 87 [.l 0,.v 2],none⟩,⟨none,.p (.v 0) [.l 0],none⟩,⟨none,.p (.v 1) [.l 1],none⟩,⟨none,.p .o [.l 1],some 10⟩,⟨none,.p .o [.l 0],some 12⟩]) (.e (.n [⟨none,.p (.e .eql) [.v 12,.c (ZZ 0)],some 68⟩]) (.d (.v 68) (.n [⟨none,.p .o [.v 10],none⟩,⟨none,.p (.e .add) [.l 0,.v 3],none⟩,⟨none,.p .o [.l 0],some 10⟩]) (.f)))) (env.A_ 57 (.h true)) h (sP go Cv Q):=by
  intro c;rw[if_pos c]at ac K Z;have b1:0<=(l.take anchor.toNat).sum/\(l.take anchor.toNat).sum<=l.sum:=by have:=(fit.sub (Xp anchor.toNat l)).nn;have h2:=XG (l₁:=l.take anchor.toNat) (l₂:=l.drop anchor.toNat);rw[WO]at h2;have:=(fit.sub (Yh anchor.toNat l)).nn;omega
  simp[b_,g0,g2,o.N];apply aa (Lc wf ix);rintro _ h1 ⟨rfl,F1⟩;rw[if_pos ⟨ca,oM⟩];simp(disch:=omega)[b_,ag,g3];have L1:V8 b h h1:=frL F1;exact tF (s:=(l.take anchor.toNat).sum+delta) ⟨F1.o,glb.fr F1,⟨p,vk,F1.i o,v1,ix.fr F1⟩,mk.fr F1,el,pos,F1.i fo,F1.i bo,v0,ix0.fr F1,el0,fne,bne,zne,iX,iX,iX,iX,iX,iX,iS,iX⟩ iS ok hr hN (fun h' f=>hm h' ((frF F1).b f)) mb
   (fun env' h' A a1 a2 a3 a4 a5 a6 a7=>ac env' h' A a1 a2 a3 a4 a5 a6 (L1.a a7)) (fun env' h' A l' ks' a1 a2 a3 a4 a5 a6 a7=>K env' h' A l' ks' a1 a2 a3 a4 a5 a6 (L1.a a7)) (fun env' h' A l' ks' a1 a2 a3 a4 a5=>Z env' h' A l' ks' a1 a2 a3 a4 (L1.a a5))
 by_cases cr:(r:Int)=0;simp only[b_,seval,Bb,g2,g11,eq_true ca,eq_true cr,g0,o.N];have t1:=ak ⟨ca,.inl oM⟩;simp[b_,g0,g2,o.N]at t1;exact t1;cases lo;simp only[b_,seval,Bb,g2,g11,eq_true ca,eq_false cr,g6,fo.j,g0,o.N];have t1:=ak ⟨ca,.inr rfl⟩;simp[b_,g0,g2,o.N]at t1;exact t1;have c:¬(0<=anchor/\(r=0\/true=false)):=by simp;omega
 rw[if_neg c]at ac K Z;simp only[b_,seval,Bb,g2,g11,eq_true ca,eq_false cr,g6,fo.j];exact tF ⟨wf,glb,⟨p,vk,o,v1,ix⟩,mk,el,pos,fo,bo,v0,ix0,el0,fne,bne,zne,iX,iX,iX,iX,iX,iX,iX,iX⟩ iX ok hr hN hm mb ac K Z;have c:¬(0<=anchor/\(r=0\/lo=false)):=fun x=>ca x.1;rw[if_neg c]at ac K Z;simp[b_,Bb,g2,eq_false ca];exact tF ⟨wf,glb,⟨p,vk,o,v1,ix⟩,mk,el,pos,fo,bo,v0,ix0,el0,fne,bne,zne,iX,iX,iX,iX,iX,iX,iX,iX⟩ iX ok hr hN hm mb ac K Z
theorem nf2(N:Nat)(caps:List V):aP (.j 3 false) [.E (.func N) [] caps,.R]=some (.h false):=rfl
theorem DW:gq.length=64:=by unfold gq;rw[Xd];rfl
def xK(l:List Int)(view over anchor delta:Int)(nil:Bool):Int:=if¬T7 view over\/nil=true then 1 else if anchor< -1\/l.length<=anchor\/delta<0\/2305843009213693952<delta then 4 else 0
theorem FC{h:a_}{b N:Nat}{l:List Int}{m:Int->Int}(w:WF h)(g:R_ h)(a:Lo h b l ks bs)(pos:∀x∈l,1<=x)(hb:xK l view over anchor delta false=0)
 (hN:N<1099511627776) (hm:∀h',Z3 b h h'->∀i:Int,0<=i->i<(bs.length:Nat)->ao go N ([ZZ i]++caps) h' fun u h''=>u=ZZ (m i)/\Fr [] h' h'') (mb:∀i,-9223372036854775808<=m i/\m i<=9223372036854775807):
 ao go 38 [.u b 0,.B [ZZ view,ZZ over,.h lo],ZZ anchor,ZZ delta,.E (.func N) [] caps] h fun u h'=>∃s n e l' ks',u=.D [ZZ s,ZZ n,ZZ e]/\
  R5 m bs view over anchor delta lo 0 0 l ks s n e l' ks'/\(if e=0 then Lo h' b l' ks' bs else Lo h' b l ks bs)/\V8 b h h':=by
 have ok:T7 view over:=by unfold xK at hb;by_cases c:T7 view over;exact c;grind
 have a0:¬(anchor< -1\/l.length<=anchor\/delta<0\/2305843009213693952<delta):=by unfold xK at hb;rw[if_neg iX]at hb;intro c;rw[if_pos c]at hb;omega
 have al:=a;let⟨p,vk,pm,o,v1,ix,mk,el⟩:=a;have zne:0≠b:=by rintro rfl;have:=congrArg List.length (g.I.uniq o);rw[DW]at this;simp at this
 have kl:=ix.t_;have blt:=o.lt w;let⟨h1,ay,ae,ak⟩:=aq w [ZZ view,ZZ over,.h lo];refine ah ?_;simp only[b_,seval,<-ay];refine sw (fun k env hh=>∃(s:Int)(r:Nat)(bb:Nat)(l':List Int)(ks':List Bool),SS hh env b h.e bb N caps p pm vk l ks bs view over anchor delta lo r l' ks'/\env.c_ 10=some (ZZ s)/\V8 b h hh/\l'.length=l.length/\ks'.count false<=k/\r+ks'.count false<=1024/\
  ∀s2 n2 e2 l2 K,R5 m bs view over anchor delta lo s r l' ks' s2 n2 e2 l2 K->R5 m bs view over anchor delta lo 0 0 l ks s2 n2 e2 l2 K) (ks.count false) ?_ ?_ ?_
 grind;simp only[b_,seval,ak.N];refine aa (yO ae.o) ?_;rintro _ h2 ⟨rfl,F2⟩;have ax:=ae.c F2;simp only[b_,seval,eq_true ok,nf2 N caps,eq_false (oM:¬anchor< -1)];refine aa (ku F2.o (al.fr ax)) ?_;rintro _ h3 ⟨rfl,F3⟩;have an:=ax.c F3;let⟨h4,ar,af,aJ⟩:=aq F3.o [.O,.r];simp only[b_,seval,eq_false (oM:¬(l.length:Int)<=anchor),eq_false (oM:¬delta<0),eq_false (oM:¬2305843009213693952<delta),(an.i o).N,<-ar];refine ai (c':=[pv p,vk]) af.o aJ rfl (by simp[aw,V.s,gH,v1]) rfl ?_;rintro h5 o5 F5 n5;have az:Fr [] h3 h5:=af.z F5 F3.o (VZ _);have Z:=an.c az;have aN:Fr [] h1 h5:=(F2.c F3).c az;simp only[b_];have hc:ks.count false<=ks.length:=XE;refine zn (s:=0) (m:=m) (r:=0) (anchor:=anchor) (delta:=delta) (lo:=lo) (view:=view) (over:=over) ⟨Z.o,g.fr Z,⟨p,vk,Z.i o,v1,ix.fr Z⟩,mk.fr Z,el,pos,aN.i ak,o5,v1,ix.fr Z,el,oM,by have:=an.e;omega,zne,iS,iS,iS,iS,iS,iS,iS,iS⟩ iS ok oM oM oM oM hN (fun h' f=>hm h' ((frF Z).b f)) mb ?_ ?_ ?_;intro ac h' A a1 a2 a3 a4 a5 a6 a7;refine(dJ _ _).2 ?_;simp only[b_,a3,a4,a5];exact⟨_,_,_,l,ks,rfl,R5.a a1 a2,by rw[if_neg a2];exact a6,(frL Z).a a7⟩;intro ac h' A l' ks' a1 a2 a3 a4 a5 a6 a7;refine(dJ _ _).2 ?_;simp only[b_,a3,a4,a5];exact⟨_,_,_,l',ks',rfl,R5.done a1 a2,by rw[if_pos rfl];exact a6,(frL Z).a a7⟩;intro ac h' A l' ks' a1 a2 a3 a4 a5;have sp:=du m A l ks false kl.1 pos;rw[a2]at sp;simp only[]at sp;have:=sp.2.2.2.2 trivial;simp at this;exact⟨rfl,_,0+1,_,l',ks',a3,a4,(frL Z).a a5,sp.1,sp.2.2.2.1,oM,fun s2 n2 e2 l2 K q=>R5.more a1 a2 q⟩;rintro k env hh ⟨s,r,bb,l',ks',S,aT,L,ll,hk,hr,up⟩;have aR:ks'.length=l'.length:=by let⟨_,_,_,_,i⟩:=S.m;exact i.t_.1
 have aH:=S.a;refine zn (m:=m) S aT ok oM oM oM oM hN (fun h' f=>hm h' (L.f.b f)) mb ?_ ?_ ?_;intro ac h' A a1 a2 a3 a4 a5 a6 a7;refine(dJ _ _).2 ?_;simp only[b_,a3,a4,a5];exact⟨_,_,_,l,ks,rfl,up _ _ _ _ _ (R5.a a1 a2),by rw[if_neg a2];exact a6,L.a a7⟩;intro ac h' A l2 K a1 a2 a3 a4 a5 a6 a7;refine(dJ _ _).2 ?_;simp only[b_,a3,a4,a5];exact⟨_,_,_,l2,K,rfl,up _ _ _ _ _ (R5.done a1 a2),by rw[if_pos rfl];exact a6,L.a a7⟩;intro ac h' A l2 K a1 a2 a3 a4 a5;have sp:=du m A l' ks' false aR aH;rw[a2]at sp;simp only[]at sp;have:=sp.2.2.2.2 trivial;simp at this;exact⟨rfl,K.count false,oM,_,r+1,bb,l2,K,a3,a4,L.a a5,oM,VZ _,oM,fun s2 n2 e2 l2 K q=>up _ _ _ _ _ (R5.more a1 a2 q)⟩
open Go.Ev.St
structure LQ(h:a_)(v:V)(E:List d_):Prop where
 f:q_ d_.s 6 h v E
 g:∀e∈E,u_ h e.x
 n:E.length<=1000
 d:Y1 E
 s:(E.map d_.b).sum<=4611686018427387904
section
variable {h : a_} {v : V} {E : List d_} {view over x : Int}
theorem LQ.a(q:LQ h v E)(f:Fr [] h h'):LQ h' v E:=⟨q.f.fr f,fun e m=>(q.g e m).fr f,q.n,q.d,q.s⟩
theorem LQ.e(q:LQ h v E):I_ (E.map d_.b):=Pw (by have:=q.n;omega) q.d q.s
theorem LQ.i(q:LQ h v E):∀x∈E.map d_.b,1<=x:=fun x m=>by obtain⟨e,em,rfl⟩:=WP.1 m;exact(q.d e em).1
theorem LQ.c(q:LQ h v E):v.U=true:=Xs q.f
theorem wR(w:WF h)(q:LQ h v E)(v1:1<=view)(v2:view<=2147483648):ao go 189 [.B [v],ZZ view] h fun u h'=>u=ZZ 0/\Fr [] h h':=by
 have o:=q.c;let⟨h1,K,Z,ac⟩:=aq w [v];have x1:aj h1 h.e 0 1=some [v]:=by rw[ac.N];rfl
 have q1:=q.a Z;refine ah ?_;simp[b_,<-K,x1];refine aa (sZ Z.o q1.f q1.g (by have:=q.n;omega) q1.d q1.s) ?_;rintro _ h2 ⟨rfl,F2⟩;simp[b_,decide_eq_false (oM:¬view<1),decide_eq_false (oM:¬2147483648<view)];exact Z.c F2
theorem Fu(w:WF h)(q:LQ h v E)(v1:1<=view)(v2:view<=2147483648):ao go 191 [.B [v],ZZ view,ZZ x] h fun u h'=>u=.D [ZZ (aX (E.map d_.b) view x),ZZ 0]/\Fr [] h h':=by
 have o:=q.c;let⟨h1,K,Z,ac⟩:=aq w [v];have x1:∀{h'},Fr [] h1 h'->aj h' h.e 0 1=some [v]:=fun f=>by rw[(f.i ac).N];rfl
 have q1:=q.a Z;have nn:=q.d.d;have qs:=q.s;refine ah ?_;simp[b_,<-K,x1 (Wl Z.o)];refine aa (wR Z.o q1 v1 v2) ?_;rintro _ h2 ⟨rfl,F2⟩;have q2:=q1.a F2;simp[b_,x1 F2];refine aa (jJ F2.o q2.f q2.g (by have:=q.n;omega) q2.d q2.s) ?_;rintro _ h3 ⟨rfl,F3⟩;simp(disch:=omega) only[b_,seval,ag];exact⟨by congr 3;unfold aX;omega,(Z.c F2).c F3⟩
theorem Lb{key i:Nat}{m:Nat->Option Nat}(w:WF h)(q:LQ h v E)(ix:R2 m E)(hi:m key=some i):ao go 190 [.B [v],ZX (key:Int)] h fun u h'=>u=.D [ZZ ((E.map d_.b).take i).sum,.h true]/\Fr [] h h':=by
 have o:=q.c;let⟨h1,K,Z,ac⟩:=aq w [v];have x1:∀{h'},Fr [] h1 h'->aj h' h.e 0 1=some [v]:=fun f=>by rw[(f.i ac).N];rfl
 have q1:=q.a Z;have hl:i<E.length:=by let⟨e,q,_⟩:=(ix key i).1 hi;exact(Wk.1 q).1
 refine ah ?_;simp[b_,<-K,x1 (Wl Z.o)];refine aa (zS Z.o q1.f q1.g (by have:=q.n;omega) ix) ?_;rintro _ h2 ⟨rfl,F2⟩;have q2:=q1.a F2;simp[b_,fJ,hi,x1 F2];refine aa (xC F2.o q2.f q2.g (by have:=q.n;omega) q2.d q2.s) ?_;rintro _ h3 ⟨F3,p,_,rfl,op⟩;have xa:=dh 1 p 0 (E.length+1) (E.length+1) .i64 (i:Int) oM oM;simp at xa;have lt:ab h3 p i=some (ZZ ((E.map d_.b).take i).sum):=by rw[op.j,eZ,jk oO,if_pos oM]
 simp[b_,xa,lt];exact(Z.c F2).c F3
theorem w9{k:Nat}{d:Int}(w:WF h)(d0:0<=d)(d1:d<=2305843009213693952)(hk:k=0->d=0):ao go 36 [vA k d] h fun u h'=>u=ZZ 0/\Fr [] h h':=by let⟨h1,K,Z,ac⟩:=aq w [ZX (k:Int),ZZ d];have l0:ab h1 h.e 0=some (ZX (k:Int)):=ac.j 0;have l1:ab h1 h.e 1=some (ZZ d):=ac.j 1;by_cases c:k=0;have:=hk c;refine ah ?_;simp only[b_,seval,<-K,l0,l1,decide_eq_false (oM:¬d<0),decide_eq_false (oM:¬2305843009213693952<d),decide_eq_true (oM:(k:Int)=0),decide_eq_false (oM:¬0<d)];exact Z;refine ah ?_;simp only[b_,seval,<-K,l0,l1,decide_eq_false (oM:¬d<0),decide_eq_false (oM:¬2305843009213693952<d),decide_eq_false (oM:¬(k:Int)=0)];exact Z
def Br(l:List Int)(anchor delta:Int):Int:=if 0<=anchor then(l.take anchor.toNat).sum+delta else 0
theorem Em{k:Nat}{a d:Int}{m:Nat->Option Nat}(w:WF h)(q:LQ h v E)(ix:R2 m E)(v1:1<=view)(v2:view<=2147483648)(d0:0<=d)(d1:d<=2305843009213693952)(hk:(k=0/\a=-1/\d=0)\/(k≠0/\∃i:Nat,a=i/\m k=some i)):
 ao go 127 [.B [v],ZZ view,vA k d] h fun u h'=>u=.D [ZZ (aX (E.map d_.b) view (Br (E.map d_.b) a d)),ZZ 0]/\Fr [] h h':=by
 have o:=q.c;let⟨h1,ar,ak,an⟩:=aq w [v];let⟨h2,ax,af,ac⟩:=aq ak.o [ZX (k:Int),ZZ d];have K:=ak.c af;have x1:∀{h'},Fr [] h2 h'->aj h' h.e 0 1=some [v]:=fun f=>by rw[(f.i (af.i an)).N];rfl
 have y2:∀{h'},Fr [] h2 h'->aj h' h1.e 0 2=some [ZX (k:Int),ZZ d]:=fun f=>by rw[(f.i ac).N];rfl
 have y0:∀{h'},Fr [] h2 h'->ab h' h1.e 0=some (ZX (k:Int)):=fun f=>(f.i ac).j 0;have y1:∀{h'},Fr [] h2 h'->ab h' h1.e 1=some (ZZ d):=fun f=>(f.i ac).j 1;have q2:=q.a K;refine ah ?_;simp[b_,<-ar,<-ax,x1 (Wl K.o)];refine aa (wR K.o q2 v1 v2) ?_;rintro _ h3 ⟨rfl,F3⟩;simp[b_,y2 F3];refine aa (w9 F3.o d0 d1 (fun z=>by obtain⟨_,_,e⟩|⟨e,_⟩:=hk;exact e;exact absurd z e)) ?_
 rintro _ h4 ⟨rfl,F4⟩;have Z:=F3.c F4;obtain⟨k0,ha,hd⟩|⟨k0,i,ha,hi⟩:=hk;simp only[b_,seval,y0 Z,eq_true (oM:(k:Int)=0)];refine⟨?_,K.c Z⟩;have nn:=q.d.d;congr 3;rw[Br,if_neg oM];unfold aX;omega;have hl:i<E.length:=by let⟨e,q,_⟩:=(ix k i).1 hi;exact(Wk.1 q).1
 simp only[b_,seval,y0 Z,eq_false (oM:¬(k:Int)=0),x1 Z];apply aa (Lb F4.o (q2.a Z) ix hi);rintro _ h5 ⟨rfl,F5⟩;have ae:=Z.c F5;have t1:0<=((E.map d_.b).take i).sum/\((E.map d_.b).take i).sum<=(E.map d_.b).sum:=Gl q.e i;have qs:=q.s;simp(disch:=omega)[b_,ag,x1 ae,y1 ae];apply aa (Fu F5.o (q2.a ae) v1 v2);rintro _ h6 ⟨rfl,F6⟩;simp only[b_,seval];subst ha;rw[Br,if_pos oM,pi];exact⟨rfl,(K.c ae).c F6⟩
end
open Go.Ev.St
theorem Kh{l:List Int}(f:I_ l){x:Int}(h0:0<=x)(Z:x<l.sum)(i:Nat):x<(l.take (i+1)).sum↔(aG l x).1<=i:=by have:=CO f h0 Z (i+1);omega
section
variable {h : a_} {v : V} {E : List d_} {view over x s : Int}
theorem zo{q n:Nat}{l:List Int}(w:WF h)(f:I_ l)(o:e_ h q (z? l n))(hl:l.length=n)(hn:n<=4096)(h0:0<=x)(h1:x<l.sum):
 ao go 307 [.y q 0 (n+1) (n+1),ZZ x] h fun u h'=>u=ZZ ((aG l x).1:Nat)/\Fr [] h h':=by
 have hk:=bH h0 h1;let⟨h3,ak,K,ac⟩:=aq w [.y q 0 (n+1) (n+1)];let⟨h4,ae,Z,af⟩:=aq K.o [ZZ x];have l3:ab h4 h.e 0=some (.y q 0 (n+1) (n+1)):=(Z.i ac).j 0;have an:=K.c Z;refine ah ?_;simp(disch:=omega) only[b_,seval,ag,<-ak,<-ae,l3,(oM:((n+1:Nat):Int)-1=(n:Nat))];refine aa (D3 (k:=(aG l x).1) (Z.i ac) af (an.i o) hl hn oM (fun i _=>Kh f h0 h1 i)) ?_;rintro _ _ ⟨rfl,rfl⟩;simp[b_];exact an
theorem pO{l:List Int}(h:aX l view s=s):0<=s/\s<=max 0 (l.sum-view):=by unfold aX at h;omega
theorem yN(w:WF h)(q:LQ h v E)(v1:1<=view)(v2:view<=2147483648)(cl:aX (E.map d_.b) view s=s):ao go 306 [.B [v],ZZ s,ZZ view] h fun u h'=>u=ZZ 0/\Fr [] h h':=by
 have o:=q.c;have ci:=pO cl;have nn:=q.d.d;have qs:=q.s;let⟨h1,ac,Z,ae⟩:=aq w [v];have x1:∀{h'},Fr [] h1 h'->aj h' h.e 0 1=some [v]:=fun f=>by rw[(f.i ae).N];rfl
 have K:=q.a Z;refine ah ?_;simp[b_,<-ac,x1 (Wl Z.o)];refine aa (sZ Z.o K.f K.g (by have:=q.n;omega) K.d K.s) ?_;rintro _ h2 ⟨rfl,F2⟩;have q2:=K.a F2;simp[b_,decide_eq_false (oM:¬view<1),decide_eq_false (oM:¬2147483648<view),decide_eq_false (oM:¬s<0),x1 F2];refine aa (jJ F2.o q2.f q2.g (by have:=q.n;omega) q2.d q2.s) ?_;rintro _ h3 ⟨rfl,F3⟩;obtain⟨m,em⟩:∃m,m=max 0 ((E.map d_.b).sum-view):=⟨_,rfl⟩;simp(disch:=omega)[b_,ag,show max 0 ((E.map d_.b).sum-view)=m from em.symm,decide_eq_false (oM:¬m<s)];exact(Z.c F2).c F3
theorem HJ{l:List Int}(f:I_ l)(pos:∀x∈l,1<=x)(Z:l≠[]):((aG l (l.sum-1)).1:Int)=(l.length:Int)-1:=by have hp:=gW pos Z;have lt:=bH (l:=l) (x:=l.sum-1) oM oM;have sp:=qw (l:=l) (x:=l.sum-1) oM oM;obtain c|c:=WY ((aG l (l.sum-1)).1+1) l.length;have K:=XG (l₁:=l.take ((aG l (l.sum-1)).1+1)) (l₂:=l.drop ((aG l (l.sum-1)).1+1));rw[WO]at K;have:=gW (l:=l.drop ((aG l (l.sum-1)).1+1)) (fun x m=>pos x (WR m)) (fun e=>by have:=congrArg List.length e;simp at this;omega);omega;omega
theorem A2(w:WF h)(q:LQ h v E)(v1:1<=view)(v2:view<=2147483648)(cl:aX (E.map d_.b) view s=s):ao go 286 [.B [v],ZZ s,ZZ view] h fun u h'=>
 u=(if E=[]then .D [ZZ 0,ZZ 0,ZZ 0]else .D [ZZ ((aG (E.map d_.b) s).1:Nat),ZZ (cR (E.map d_.b) view s+1),ZZ 0])/\Fr [] h h':=by
 have o:=q.c;have ci:=pO cl;have nn:=q.d.d;have qs:=q.s;let⟨h1,ae,Z,ak⟩:=aq w [v];have x1:∀{h'},Fr [] h1 h'->aj h' h.e 0 1=some [v]:=fun f=>by rw[(f.i ak).N];rfl
 have q1:=q.a Z;refine ah ?_;simp[b_,<-ae,x1 (Wl Z.o)];refine aa (yN Z.o q1 v1 v2 cl) ?_;rintro _ h2 ⟨rfl,F2⟩;have q2:=q1.a F2;simp[b_,x1 F2];refine aa (xC F2.o q2.f q2.g (by have:=q.n;omega) q2.d q2.s) ?_;rintro _ h3 ⟨F3,p,_,rfl,op⟩;have af:=(Z.c F2).c F3;by_cases c:E=[];subst c;rw[if_pos rfl];simp[b_];exact af;rw[if_neg c];have qn:=q.n;have hn:=XT.2 c;have ac:E.map d_.b≠[]:=by simpa using c
 have hp:=gW q.i ac;have fit:=q.e;have xb:=dh 1 p 0 (E.length+1) (E.length+1) .i64 (((E.length+1:Nat):Int)-1) oM oM;simp only[(oM:(((E.length+1:Nat):Int)-1).toNat=E.length),Xv,WG]at xb;have lt:ab h3 p E.length=some (ZZ (E.map d_.b).sum):=by rw[op.j,eZ,jk iS,if_pos (VZ _),Wj iS]
 obtain⟨K,an⟩:∃K,K=min (s+view) (E.map d_.b).sum:=⟨_,rfl⟩;simp(disch:=omega) only[b_,seval,ag,eq_false (oM:¬((E.length+1:Nat):Int)=1),xb,lt,show min (s+view) (E.map d_.b).sum=K from an.symm];refine aa (zo (x:=s) F3.o fit op iS (by have:=q.n;omega) oM oM) ?_;rintro _ h4 ⟨rfl,F4⟩;simp(disch:=omega)[b_,ag];refine aa (zo (x:=K-1) F4.o fit (F4.i op) iS (by have:=q.n;omega) oM oM) ?_;rintro _ h5 ⟨rfl,F5⟩;have ll:((aG (E.map d_.b) (K-1)).1:Int)=cR (E.map d_.b) view s:=by unfold cR;split;grind;rw[(oM:K-1=(E.map d_.b).sum-1),HJ fit q.i ac]
 have lk:=bH (l:=E.map d_.b) (x:=K-1) oM oM;have:=q.n;rw[Xd]at lk;simp(disch:=omega)[b_,ag,<-ll];exact(af.c F4).c F5
theorem Lz(a b:Int):aP (.I false [0,0]) [.B [ZZ a,ZZ b],.B [ZZ 0,ZZ 0]]=some (.h (decide (a=0/\b=0))):=by
 have e:iZ [0,0] [ZZ a,ZZ b] [ZZ 0,ZZ 0]=some (decide (a=0/\b=0)):=by show(bif kX IntKind.i64 IntKind.i64 then bif s? a 0 then bif kX IntKind.i64 IntKind.i64 then bif s? b 0 then some true else some false else none else some false else none)=_;rw[ew,ew,bR];by_cases c:a=0;grind;grind
 show(iZ [0,0] _ _).map _=_;rw[e];rfl
theorem DP(w:WF h)(q:LQ h v E)(ok:T7 view over)(cl:aX (E.map d_.b) view s=s):ao go 251 [.B [v],ZZ s,ZZ view,ZZ over] h fun u h'=>
 u=(if E=[]then .D [.B [ZZ 0,ZZ 0],ZZ 0]else .D [.B [ZZ (cN (E.map d_.b) view over s).1,ZZ (cN (E.map d_.b) view over s).2],ZZ 0])/\Fr [] h h':=by
 have o:=q.c;let⟨v1,v2,o1,o2⟩:=ok;have nn:=q.d.d;have qs:=q.s;have qn:=q.n;have ci:=pO cl;let⟨h1,an,ax,az⟩:=aq w [v];let⟨h2,aH,ac,ay⟩:=aq ax.o [ZZ 0,ZZ 0];have n1:=x_ an;have ae:=ax.c ac;have x0:∀{h'},Fr [] h2 h'->ab h' h.e 0=some v:=fun f=>(f.i (ac.i az)).j 0;have x1:∀{h'},Fr [] h2 h'->aj h' h.e 0 1=some [v]:=fun f=>by rw[(f.i (ac.i az)).N];rfl
 have q2:=q.a ae;refine ah ?_;simp[b_,<-an,<-aH,x1 (Wl ae.o)];refine aa (A2 ae.o q2 v1 v2 cl) ?_;rintro _ h3 ⟨rfl,F3⟩;have n3:=F3.e;let⟨h4,K,Z,ar⟩:=aq F3.o [ZZ 0,ZZ 0];have n4:=x_ K;by_cases c:E=[];rw[if_pos c,if_pos c];simp[b_,<-K,decide_eq_false (oM:¬over<0),decide_eq_false (oM:¬16<over)];apply B_ Z.o ar;rintro h5 o5 F5 n5;have l5:aj h5 h3.e 0 2=some [ZZ 0,ZZ 0]:=by rw[o5.N];rfl
 have af:Fr [] h3 h5:=Z.z F5 F3.o (VZ _);simp[b_,l5,Lz];apply B_ F5.o (af.i (F3.i ay));rintro h6 o6 F6 n6;have l6:aj h6 h1.e 0 2=some [ZZ 0,ZZ 0]:=by rw[o6.N];rfl
 simp[b_,l6];exact(ae.c (F3.c af)).z F6 w oM;rw[if_neg c,if_neg c];have aJ:E.map d_.b≠[]:=by simpa using c
 have hp:=gW q.i aJ;have aN:=bH (l:=E.map d_.b) (x:=s) oM oM;have ll:((aG (E.map d_.b) s).1:Int)<=cR (E.map d_.b) view s/\cR (E.map d_.b) view s<(E.map d_.b).length:=by unfold cR;split;have:=fH (E.map d_.b) (x:=s) (y:=s+view-1) oM;have:=bH (l:=E.map d_.b) (x:=s+view-1) oM (by assumption);omega;omega
 have hw:cN (E.map d_.b) view over s=(max 0 (((aG (E.map d_.b) s).1:Int)-over),min (E.length:Int) (cR (E.map d_.b) view s+1+over)):=by unfold cN;rw[Xd]
 rw[hw];rw[Xd]at aN ll;generalize(aG (E.map d_.b) s).1=fr at *;generalize cR (E.map d_.b) view s=la at *;simp[b_,<-K,decide_eq_false (oM:¬over<0),decide_eq_false (oM:¬16<over)];apply B_ Z.o ar;rintro h5 o5 F5 n5;have l5:aj h5 h3.e 0 2=some [ZZ (fr:Int),ZZ (la+1)]:=by rw[o5.N];rfl
 have af:Fr [] h3 h5:=Z.z F5 F3.o (VZ _);have ak:=F3.c af;obtain⟨a,ea⟩:∃a,a=max 0 ((fr:Int)-over):=⟨_,rfl⟩;obtain⟨b,eb⟩:∃b,b=min (E.length:Int) (la+1+over):=⟨_,rfl⟩;simp(disch:=omega) only[b_,seval,ag,l5,Lz,decide_eq_false (oM:¬((fr:Int)=0/\la+1=0)),x0 ak,(q2.a ak).f.t_,<-ea,<-eb];apply B_ F5.o (ak.i ay);rintro h6 o6 F6 n6;have l6:aj h6 h1.e 0 2=some [ZZ a,ZZ b]:=by rw[o6.N];rfl
 simp[b_,l6];exact(ae.c ak).z F6 w oM
end
open Go.Ev.St
def U1(Ks:List p_)(E:List d_):List Bool:=E.map fun e=>bI Ks e.x
theorem C?.c{l:List Int}{bs:List Bool}{s r:Int}(f:I_ l){j:Nat}:∀n,C? l bs s j r→s<(l.take j).sum→C? l bs s (j+n) r
 |0,a,_=>a
 |n+1,a,h=>(C?.c f n a h).a fun _=>by have:=sE f (oM:j≤j+n);omega
section
variable {h : a_} {v vK : V} {E : List d_} {Ks : List p_} {view over x s : Int}
theorem FZ(w:WF h)(q:LQ h v E)(rk:q_ p_.s 9 h vK Ks)(hk:Ks.length<=256)(ty:∀e∈E,e.x.K<Ks.length):ao go 252 [.B [vK,ZZ 12],.B [v],ZZ s] h fun u h'=>(∃r,u=ZZ r/\C? (E.map d_.b) (U1 Ks E) s E.length r/\-1<=r)/\Fr [] h h':=by
 have o:=q.c;have k1:vK.U=true:=Xs rk;have qn:=q.n;let⟨h1,ae,ak,ay⟩:=aq w [vK,ZZ 12];let⟨h2,az,af,ar⟩:=aq ak.o [v];have n1:=x_ ae;have K:=ak.c af;have x3:∀{h'},Fr [] h2 h'->ab h' h.e 0=some vK:=fun f=>(f.i (af.i ay)).j 0;have x4:∀{h'},Fr [] h2 h'->ab h' h1.e 0=some v:=fun f=>(f.i ar).j 0;have y4:∀{h'},Fr [] h2 h'->aj h' h1.e 0 1=some [v]:=fun f=>by rw[(f.i ar).N];rfl
 have q2:=q.a K;refine ah ?_;simp[b_,<-ae,<-az,y4 (Wl K.o)];refine aa (xC K.o q2.f q2.g oM q2.d q2.s) ?_;rintro _ h3 ⟨F3,p,_,rfl,op⟩;simp[b_,x4 F3,(q2.a F3).f.t_];refine aA (fun n env hh=>Fr [] h3 hh/\∃(i:Nat)(r:Int),env.c_ 20=some (ZZ i)/\env.c_ 19=some (ZZ E.length)/\env.c_ 18=some v/\env.c_ 9=some (ZZ r)/\env.c_ 7=some (.y p 0 (E.length+1) (E.length+1))/\env.c_ 3=some (.u h.e 0)/\env.c_ 2=some (ZZ s)/\
  i<=E.length/\C? (E.map d_.b) (U1 Ks E) s i r/\-1<=r/\n=E.length-i) E.length oM ?_ ?_
 exact⟨Wl F3.o,0,-1,iS,iS,iS,iS,iS,iS,iS,oM,.inl ⟨rfl,fun i hi=>by omega⟩,oM,rfl⟩;rintro n env hh ⟨F,i,r,ac,aN,aT,g9,g7,g3,g2,hi,hd,hr,rfl⟩;have aR:=F3.c F;have qh:=q2.a aR;by_cases c:i<E.length;let⟨bi,oi,e,p1,_,p3,p4⟩:=qh.f.ix aM .i64 (i:Int) oM oM;rw[pi]at p4;have em:=Wc p4;have xa:=dh 1 p 0 (E.length+1) (E.length+1) .i64 (i:Int) oM oM;simp at xa;have lt:∀{h'},Fr [] h3 h'->ab h' p i=some (ZZ ((E.map d_.b).take i).sum):=fun f=>by rw[(f.i op).j,eZ,jk oO,if_pos oM]
 have sb:(U1 Ks E).getD i false=bI Ks e.x:=by simp[U1,p4]
 let⟨h4,ax,an,aH⟩:=aq F.o [ZX 0,ZY 0,.f [],.r,ZZ 0,.h false];simp only[b_,seval,ac,aN,aT,eq_true (oM:(i:Int)<E.length),p1,p3,<-ax];refine ai (c':=e.s) an.o aH rfl (jr (qh.g e em)) rfl ?_;rintro h5 o5 F5 n5;have a0:Fr [] hh h5:=an.z F5 F.o (VZ _);have Z:=F.c a0;have l1:ab h5 hh.e 1=some (ZY (e.x.K:Int)):=o5.j 1;by_cases ct:s<((E.map d_.b).take i).sum;simp only[b_,seval,g9,g7,g2,xa,lt Z,eq_true ct];have:=hd.c q.e (E.length-i) ct;rw[(oM:i+(E.length-i)=E.length)]at this;exact⟨⟨_,rfl,this,hr⟩,(K.c F3).c Z⟩;have te:=ty e em;let⟨bk,ok',kd,aJ,k2,_,k4⟩:=(Xn rk (K.c (F3.c Z))).ix cS .u8 (e.x.K:Int) oM oM;rw[pi]at k4;have l7:ab h5 bk (ok'+7)=some (.h kd.Y):=k2 7 oM;have ks:bI Ks e.x=kd.Y:=by unfold bI;rw[k4]
 rw[ks]at sb;cases cs:kd.Y;rw[cs]at l7 sb;simp(disch:=omega) only[b_,seval,ag,ac,g7,g3,g2,xa,lt Z,eq_false ct,x3 (F3.c Z),l1,aJ,l7];refine s_ ⟨E.length-(i+1),oM,Z,i+1,r,iS,iX,iX,iX,iX,iX,iX,oM,hd.a (fun z=>by rw[sb]at z;cases z),hr,rfl⟩;rw[cs]at l7 sb;simp(disch:=omega) only[b_,seval,ag,ac,g7,g3,g2,xa,lt Z,eq_false ct,x3 (F3.c Z),l1,aJ,l7];refine s_ ⟨E.length-(i+1),oM,Z,i+1,(i:Int),iS,iX,iX,iS,iX,iX,iX,oM,.inr ⟨i,rfl,oM,sb,oM,fun j h1 h2=>by omega⟩,oM,rfl⟩;obtain rfl:i=E.length:=oM;simp only[b_,seval,ac,aN,g9,(oM:¬((E.length:Nat):Int)<E.length)];exact⟨⟨_,rfl,hd,hr⟩,(K.c F3).c F⟩
abbrev iV(A:List Int):List V:=A.map (V.A .i64)
theorem Kx(A:List Int):aw (iV A)=true:=by
 induction A with
 |nil=>rfl
 |cons a A ih=>show aw (_::_)=true;rw[au,ih];rfl
theorem lW{A:List Int}(w:WF h)(a:Sl h 1 v A.length (iV A))(hn:A.length<=4096):ao go 193 [v] h fun u h'=>Fr [] h h'/\S6 1 h' u h.e (iV A) A.length:=by
 by_cases c:A.length=0;obtain rfl:=List.eq_nil_of_length_eq_zero c;refine ah ?_;simp[b_,a.t_];exact⟨Wl w,rfl,.inl ⟨rfl,rfl⟩⟩;refine ah ?_;simp only[b_,seval,a.t_,eq_false (oM:¬((A.length:Nat):Int)=0)];refine(bV _ _ _ _ _ _ _ _ oM oM oM oM).2 ?_;simp;obtain⟨h1,K⟩:∃h1,h1=h_ h (bq [ZZ 0] A.length):=⟨_,rfl⟩;have Z:Fr [] h h1:=K▸WA w _;have ac:e_ h1 h.e (bq [ZZ 0] A.length):=K▸Xc w _;rw[<-K];have lr:(bq [ZZ 0] A.length).length=A.length*1:=by rw[kO];rfl
 simp[b_];apply un Z.o ac lr (Sl.a a|>.fr Z) (Kx A);intro h2 o2 F2 n2;simp[b_];exact⟨Z.z F2 w (VZ _),iS,.inr ⟨rfl,o2⟩⟩
end
def qR(l:List Int)(bs:List Bool)(view over s:Int)(A:List Int):Prop:=∃hd,C? l bs s l.length hd/\A=if l=[]then[]else qJ (cN l view over s).1 (cN l view over s).2 hd l.length
inductive U2(m:Int->Int)(bs:List Bool)(view over anchor delta:Int)(lo:Bool):Int->Nat->List Int->List Bool->Int->Int->Int->List Int->List Bool->Prop
 |c {s:Int} {r:Nat} {l:List Int} {ks:List Bool} {A l':List Int} {ks':List Bool}:qR l bs view over (U7 l view anchor delta lo r s) A->(aV m A l ks false).1≠0->U2 m bs view over anchor delta lo s r l ks 0 0 (aV m A l ks false).1 l' ks'
 |a {s:Int} {r:Nat} {l:List Int} {ks:List Bool} {A l':List Int} {ks':List Bool}:qR l bs view over (U7 l view anchor delta lo r s) A->aV m A l ks false=(0,l',ks',false)->U2 m bs view over anchor delta lo s r l ks (U7 l view anchor delta lo r s) r 0 l' ks'
 |S? {s:Int} {r:Nat} {l:List Int} {ks:List Bool} {A l':List Int} {ks':List Bool} {s2 n2 e2:Int} {l2:List Int} {ks2:List Bool}:qR l bs view over (U7 l view anchor delta lo r s) A->aV m A l ks false=(0,l',ks',true)->
  U2 m bs view over anchor delta lo (U7 l view anchor delta lo r s) (r+1) l' ks' s2 n2 e2 l2 ks2->U2 m bs view over anchor delta lo s r l ks s2 n2 e2 l2 ks2
theorem Cw:∀(l:List Int)(i:Nat)(x:Int),i<l.length→(l.set i x).sum=l.sum-l.getD i 0+x
 |[],i,x,h=>by simp at h
 |y::l,0,x,_=>by simp[List.getD];omega
 |y::l,i+1,x,h=>by have:=Cw l i x (eV h);simp only[List.set_cons_succ,List.sum_cons,this];simp[List.getD];omega
theorem CZ{l:List Int}{i x:Int}(f:I_ l)(z:bJ l i x=0):I_ (l.set i.toNat x):=by let⟨Z,a2,a3,a4⟩:=qd z;unfold bJ at z;rw[if_pos ⟨Z,a2⟩,if_neg oM]at z;refine⟨fun y K=>?_,?_,by simpa using f.2.2⟩;obtain q|q:=WQ K;exact f.1 y q;omega;rw[Cw l i.toNat x oM];split at z<;>omega
theorem qu(m:Int->Int):∀(A l:List Int)(ks:List Bool)(mo:Bool),I_ l->I_ (aV m A l ks mo).2.1
 |[],l,ks,mo,f=>f
 |i::A,l,ks,mo,f=>by rw[aV];split;split;exact qu m A l ks mo f;split;rename_i z;exact qu m A _ _ true (CZ f z);exact f;exact f
theorem fQ{l:List Int}{s:Int}{A K:List Int}(f:I_ l)(pos:∀x∈l,1<=x)(hl:bs.length=l.length)(ok:T7 view over)(cl:aX l view s=s)(a:kF l bs view over s A)(b:qR l bs view over s K):A=K:=by
 obtain⟨hd,h1,rfl⟩:=b;unfold kF at a;by_cases c:l=[];grind;rw[if_neg c]at a|-;have hp:=gW pos c;have:=ok.1;have Z:0<=s/\s<l.sum:=by unfold aX at cl;omega
 exact Nr f hl Z.1 Z.2 c ok.1 ok.2.2.1 a h1
theorem dL(l:List Int)(view anchor delta:Int)(lo:Bool)(r:Nat)(s:Int):aX l view (U7 l view anchor delta lo r s)=U7 l view anchor delta lo r s:=oS _ _ _
theorem R5.c{m:Int->Int}{s:Int}{r:Nat}{l:List Int}{s1 n1 e1:Int}{l1:List Int}{ac:List Bool}(ok:T7 view over)(a:R5 m bs view over anchor delta lo s r l ks s1 n1 e1 l1 ac):
 ∀{s2 n2 e2:Int}{l2:List Int}{K:List Bool},U2 m bs view over anchor delta lo s r l ks s2 n2 e2 l2 K->I_ l->(∀x∈l,1<=x)->bs.length=l.length->ks.length=l.length->s1=s2/\n1=n2/\e1=e2/\(e1=0->l1=l2/\ac=K):=by
 induction a with
 |a a1 a2=>
  intro s2 n2 e2 l2 K b f pos Z hk;cases b with
  |c b1 b2=>have:=fQ f pos Z ok (dL _ _ _ _ _ _ _) a1 b1;subst this;exact⟨rfl,rfl,rfl,fun z=>absurd z a2⟩
  |a b1 b2=>have:=fQ f pos Z ok (dL _ _ _ _ _ _ _) a1 b1;subst this;rw[b2]at a2;exact absurd rfl a2
  |S? b1 b2 _=>have:=fQ f pos Z ok (dL _ _ _ _ _ _ _) a1 b1;subst this;rw[b2]at a2;exact absurd rfl a2
 |done a1 a2=>
  intro s2 n2 e2 l2 K b f pos Z hk;cases b with
  |c b1 b2=>have:=fQ f pos Z ok (dL _ _ _ _ _ _ _) a1 b1;subst this;rw[a2]at b2;exact absurd rfl b2
  |a b1 b2=>have:=fQ f pos Z ok (dL _ _ _ _ _ _ _) a1 b1;subst this;rw[a2]at b2;cases b2;exact⟨rfl,rfl,rfl,fun _=>⟨rfl,rfl⟩⟩
  |S? b1 b2 _=>have:=fQ f pos Z ok (dL _ _ _ _ _ _ _) a1 b1;subst this;rw[a2]at b2;cases b2
 | @more s r l ks A l' ks' s2' n2' e2' l2' ks2' a1 a2 _ ih=>
  intro s2 n2 e2 l2 K b f pos Z hk;have sp:=du m A l ks false hk pos;have ft:=qu m A l ks false f;rw[a2]at sp ft;simp only[]at sp ft;cases b with
  |c b1 b2=>have:=fQ f pos Z ok (dL _ _ _ _ _ _ _) a1 b1;subst this;rw[a2]at b2;exact absurd rfl b2
  |a b1 b2=>have:=fQ f pos Z ok (dL _ _ _ _ _ _ _) a1 b1;subst this;rw[a2]at b2;cases b2
  |S? b1 b2 b3=>have:=fQ f pos Z ok (dL _ _ _ _ _ _ _) a1 b1;subst this;rw[a2]at b2;cases b2;exact ih b3 ft sp.2.2.1 oM oM
open Go.Ev.St
section
variable {h : a_} {v vK : V} {E : List d_} {Ks : List p_} {view over s : Int}
theorem JC(w:WF h)(q:LQ h v E)(rk:q_ p_.s 9 h vK Ks)(kh:∀k∈Ks,Q9 h k)(lo:V0 Ks h E)(ok:T7 view over)(cl:aX (E.map d_.b) view s=s):
 ao go 192 [.B [vK,ZZ 12],.B [v],ZZ s,ZZ view,ZZ over] h fun u h'=>Fr [] h h'/\∃A u' c,u=.D [u',ZZ 0]/\h.e<=c/\S6 1 h' u' c (iV A) A.length/\qR (E.map d_.b) (U1 Ks E) view over s A/\A.length<=E.length/\∀i∈A,0<=i/\i<E.length:=by
 have o:=q.c;have k1:vK.U=true:=Xs rk;have qn:=q.n;have nn:=q.d.d;have qs:=q.s;have ci:=pO cl;have r3:=lo.r.2.1;have ty:∀e∈E,e.x.K<Ks.length:=fun e m=>by
  have:=(lo.h e m).2.2.1;simp only[Q2,VY,decide_eq_true_eq]at this;omega
 let⟨h1,aR,a3,bg⟩:=aq w [vK,ZZ 12];let⟨h2,aT,a0,a6⟩:=aq a3.o [v];have n1:=x_ aR;have n2:=x_ aT;have ae:=a3.c a0;have x5:∀{h'},Fr [] h2 h'->aj h' h.e 0 2=some [vK,ZZ 12]:=fun f=>by rw[(f.i (a0.i bg)).N];rfl
 have x6:∀{h'},Fr [] h2 h'->aj h' h1.e 0 1=some [v]:=fun f=>by rw[(f.i a6).N];rfl
 have q2:=q.a ae;have bj:∀{h'},Fr [] h h'->V0 Ks h' E:=fun f=>⟨fun e m=>⟨(lo.h e m).1.fr f,(lo.h e m).2⟩,lo.b,lo.c,lo.n,lo.l,lo.r⟩;refine ah ?_;simp only[b_,seval,<-aR,<-aT,x5 (Wl ae.o),x6 (Wl ae.o)];refine aa (qy ae.o (Xn rk ae) (fun k m=>(kh k m).fr ae) q2.f (bj ae)) ?_;rintro _ h3 ⟨rfl,F3⟩;simp only[b_,seval,x6 F3];apply aa (DP F3.o (q2.a F3) ok cl);rintro _ h4 ⟨rfl,F4⟩;obtain⟨f,t,hw,bt,bu,bv,hE⟩:∃f t:Int,(if E=[]then V.D [.B [ZZ 0,ZZ 0],ZZ 0]else .D [.B [ZZ (cN (E.map d_.b) view over s).1,ZZ (cN (E.map d_.b) view over s).2],ZZ 0])=.D [.B [ZZ f,ZZ t],ZZ 0]/\0<=f/\f<=t/\t<=E.length/\
  ((E=[]/\f=0/\t=0)\/(E≠[]/\f=(cN (E.map d_.b) view over s).1/\t=(cN (E.map d_.b) view over s).2/\0<=s/\s<(E.map d_.b).sum/\((aG (E.map d_.b) s).1:Int)<t)):=by
  by_cases c:E=[]
  ·exact⟨0,0,by rw[if_pos c],oM,oM,oM,.inl ⟨c,rfl,rfl⟩⟩
  ·let⟨v1,v2,o1,o2⟩:=ok;have bh:E.map d_.b≠[]:=by simpa using c
   have hp:=gW q.i bh;have bk:=bH (l:=E.map d_.b) (x:=s) oM oM;have ll:((aG (E.map d_.b) s).1:Int)<=cR (E.map d_.b) view s/\cR (E.map d_.b) view s<(E.map d_.b).length:=by
    unfold cR;split
    ·have:=fH (E.map d_.b) (x:=s) (y:=s+view-1) oM;have:=bH (l:=E.map d_.b) (x:=s+view-1) oM (by assumption);omega
    ·omega
   have e1:(cN (E.map d_.b) view over s).1=max 0 (((aG (E.map d_.b) s).1:Int)-over):=rfl;have e2:(cN (E.map d_.b) view over s).2=min ((E.map d_.b).length:Int) (cR (E.map d_.b) view s+1+over):=rfl;rw[Xd]at bk ll e2;exact⟨_,_,by rw[if_neg c],oM,oM,oM,.inr ⟨c,rfl,rfl,oM,oM,oM⟩⟩
 rw[hw];let⟨h5,a1,a2,a8⟩:=aq F4.o [ZZ 0,ZZ 0];have n4:=(F3.c F4).e;have n5:=x_ a1;simp only[b_,seval,<-a1];apply B_ a2.o a8;rintro h6 o6 F6 n6;have bm:Fr [] h4 h6:=a2.z F6 F4.o (VZ _);have bn:=(F3.c F4).c bm;have l0:∀{h'},Fr [] h6 h'->ab h' h4.e 0=some (ZZ f):=fun f=>(f.i o6).j 0;have l1:∀{h'},Fr [] h6 h'->ab h' h4.e 1=some (ZZ t):=fun f=>(f.i o6).j 1;have r6:Fr [] h6 h6:=Wl F6.o;simp(disch:=omega) only[b_,seval,ag,l0 r6,l1 r6];refine(bV _ _ _ _ _ _ _ _ oM oM oM oM).2 ?_;rw[iC];obtain⟨n,hn⟩:∃n:Nat,n=(t-f+1).toNat:=⟨_,rfl⟩;rw[<-hn,(iR:(0:Int).toNat=0)];obtain⟨h7,an⟩:∃h7,h7=h_ h6 (List.replicate n (ZZ 0)):=⟨_,rfl⟩;have ay:Fr [] h6 h7:=an▸WA F6.o _;have ba:e_ h7 h6.e (List.replicate n (ZZ 0)):=an▸Xc F6.o _;have n7:=x_ an;have aN:=bn.c ay;simp only[b_,seval,<-an,x5 aN,x6 aN];apply aa (FZ ay.o (q2.a aN) (Xn rk (ae.c aN)) oM ty);rintro _ h8 ⟨⟨r,rfl,hd,hr⟩,F8⟩;have a4:=aN.c F8;have ar:=ay.c F8;have o8:=F8.i ba;have bw:r<t\/r=-1:=by
  obtain⟨e,_⟩|⟨p,e,hp,_,h2,_⟩:=hd
  ·exact .inr e
  ·obtain⟨rfl,_⟩|⟨_,_,_,s0,s1,lt⟩:=hE
   ·simp at hp
   ·have:=(CO q.e s0 s1 p).1 h2;exact .inl oM
 have aJ:∀(pre:List Int)(env:T V)(hh:a_),Fr [] h2 hh->Fr [] h6 hh->pre.length<=1->pre=(if 0<=r/\r<f then[r]else[])->e_ hh h6.e (iV pre++List.replicate (n-pre.length) (ZZ 0))->
  env.c_ 17=some (ZZ f)->env.c_ 13=some (.u h4.e 0)->env.c_ 15=some (.y h6.e 0 pre.length n)->
  ∀{Q:Ex->T V->a_->Prop},(∀Z hh A,Fr [] h2 hh->A.length<=1+(t-f).toNat->A=pre++X6 f (t-f).toNat->e_ hh h6.e (iV A++List.replicate (n-A.length) (ZZ 0))->Z.c_ 15=some (.y h6.e 0 A.length n)->Q (.c 0) Z hh)->
  W go (.o (.e (.e (.n [⟨none,.p (.b 1) [.v 13],none⟩,⟨none,.a 1 false (.l 0),none⟩,⟨none,.p (.e .lss) [.v 17,.l 0],some 63⟩]) (.d (.v 63) (.f) (.k 0))) (.e (.h 1 (.n [⟨none,.p .o [.v 15],none⟩,⟨none,.b [(ZZ 0)] [(0,1)] 1 [.v 17],none⟩,⟨none,.i 1 8 (.l 1) (.l 0),none⟩,⟨none,.p .o [.l 0],some 15⟩])) (.n [⟨none,.p .o [.v 17],none⟩,⟨none,.p (.e .add) [.l 0,.c (ZZ 1)],none⟩,⟨none,.p .o [.l 0],some 17⟩])))) env hh Q:=by
  intro pre env hh a5 bf bz ak oo ax g13 af Q K;refine aA (fun k env hh=>∃j:Nat,Fr [] h2 hh/\Fr [] h6 hh/\env.c_ 17=some (ZZ (f+j))/\env.c_ 13=some (.u h4.e 0)/\env.c_ 15=some (.y h6.e 0 (pre.length+j) n)/\f+j<=t/\
   e_ hh h6.e (iV (pre++X6 f j)++List.replicate (n-(pre.length+j)) (ZZ 0))/\k=(t-f).toNat-j) (t-f).toNat oM ?_ ?_
  ·exact⟨0,a5,bf,(eV ax),g13,(eV af),oM,by simpa[X6]using oo,rfl⟩
  ·clear a5 bf oo ax g13 af;rintro k env hh ⟨j,F,G,ax,g13,af,hj,oo,rfl⟩;by_cases a7:f+(j:Int)<t
   ·let⟨h9,aH,ac,az⟩:=aq F.o [ZZ (f+j)];simp only[b_,seval,ax,g13,af,l1 G,a7,<-aH];refine rZ ac.o (ac.i oo) az (by simp[ga];omega) oM rfl ?_;intro ha oa Fa na;have e8:=pJ (pre++X6 f j) (f+j) (n-(pre.length+j)) oM;rw[show(pre++X6 f j).length=pre.length+j by simp[ga]]at e8;rw[e8,WU,<-tr]at oa;simp(disch:=omega) only[b_,seval,ag,ax];refine s_ ⟨(t-f).toNat-(j+1),oM,j+1,(F.c ac).z Fa ae.o oM,(G.c ac).z Fa F6.o oM,oO,iX,oO,oM,by rw[(oM:n-(pre.length+(j+1))=n-(pre.length+j)-1)];exact oa,rfl⟩
    done
   ·simp[b_,ax,g13,l1 G,a7];have ej:j=(t-f).toNat:=oM
    refine K _ _ (pre++X6 f j) F (by simp[ga];omega) (by rw[ej]) (by rw[show(pre++X6 f j).length=pre.length+j by simp[ga]];exact oo) (by simp[ga,af])
 have fin:∀(Z:T V)(hh:a_)(A:List Int),Fr [] h2 hh->A.length<=1+(t-f).toNat->A=(if 0<=r/\r<f then[r]else[])++X6 f (t-f).toNat->e_ hh h6.e (iV A++List.replicate (n-A.length) (ZZ 0))->∃u',aP (.s none 1 false true true) [.y h6.e 0 A.length n,ZZ (A.length:Int),ZZ (A.length:Int)]=some u'/\Sl hh 1 u' A.length (iV A)/\
  qR (E.map d_.b) (U1 Ks E) view over s A/\A.length<=E.length/\∀i∈A,0<=i/\i<E.length:=by
  intro Z hh A F hA eA oo;have la:A.length<=n:=oM
  have sl:Sl hh 1 (.y h6.e 0 A.length n) A.length (iV A):=⟨iS,rfl,la,_,oo,iS,iS⟩;let⟨u',e1,e2,_⟩:=uA oM sl iS;refine⟨u',e1,e2,?_,?_,?_⟩
  ·refine⟨r,by rw[Xd];exact hd,?_⟩;obtain⟨rfl,e1,e2⟩|⟨c,e1,e2,s0,s1,lt⟩:=hE
   ·subst e1 e2;rw[eA,if_neg oM,(iR:(0-0:Int).toNat=0)];rfl
   ·rw[if_neg (eV c),<-e1,<-e2,pV f t r bt bu oM,Xd,eA,(oM:min (E.length:Int) t=t)];congr 1;by_cases c2:0<=r/\r<f
    ·grind
    ·grind
  ·rw[eA];split
   ·grind
   ·simp[ga];omega
  ·rw[eA];intro i m;rw[Wa]at m;obtain m|m:=m
   ·grind
   ·simp only[X6,WP,List.mem_range]at m;obtain⟨j,hj,rfl⟩:=m;omega
 by_cases c:0<=r/\r<f
 ·let⟨h9,aH,ac,az⟩:=aq F8.o [ZZ r];simp only[b_,seval,decide_eq_true c.1,l0 ar,decide_eq_true c.2,<-aH];apply rZ ac.o (ac.i o8) az iS oM rfl;intro ha oa Fa na;have e8:=pJ [] r n oM;simp only[XQ,XO,XM]at e8;rw[e8]at oa;have bi:Fr [] h2 ha:=(a4.c ac).z Fa ae.o oM;have a9:Fr [] h6 ha:=(ar.c ac).z Fa F6.o oM;simp only[b_,seval,l0 a9];have ak:[r]=if 0<=r/\r<f then[r]else[]:=by rw[if_pos c]
  apply aJ [r] _ ha bi a9 iS ak oa iS iS iS;rw[ak];intro Z hh A F hA eA oo af;let⟨u',e1,e2,e3,e4⟩:=fin Z hh A F hA eA oo;simp only[b_,seval,af,e1];apply aa (lW F.o e2 oM);rintro u hz ⟨Fz,tb⟩;simp only[b_,seval];exact⟨(ae.c F).c Fz,A,u,_,rfl,by have:=F.e;omega,tb,e3,e4⟩
 ·have ak:[]=if 0<=r/\r<f then[r]else[]:=by rw[if_neg c]
  by_cases c1:0<=r
  ·simp only[b_,seval,decide_eq_true c1,l0 ar,decide_eq_false (fun z:r<f=>c ⟨c1,z⟩)];apply aJ [] _ h8 a4 ar iS ak (eV o8) iS iS iS;rw[ak];intro Z hh A F hA eA oo af;let⟨u',e1,e2,e3,e4⟩:=fin Z hh A F hA eA oo;simp only[b_,seval,af,e1];apply aa (lW F.o e2 oM);rintro u hz ⟨Fz,tb⟩;simp only[b_,seval];exact⟨(ae.c F).c Fz,A,u,_,rfl,by have:=F.e;omega,tb,e3,e4⟩
  ·simp only[b_,seval,decide_eq_false c1,l0 ar];apply aJ [] _ h8 a4 ar iS ak (eV o8) iS iS iS;rw[ak];intro Z hh A F hA eA oo af;let⟨u',e1,e2,e3,e4⟩:=fin Z hh A F hA eA oo;simp only[b_,seval,af,e1];apply aa (lW F.o e2 oM);rintro u hz ⟨Fz,tb⟩;simp only[b_,seval];exact⟨(ae.c F).c Fz,A,u,_,rfl,by have:=F.e;omega,tb,e3,e4⟩
end
end Go.Ev.Lay
