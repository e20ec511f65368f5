/- An evaluator of the program, and contracts over it: StbP to StcC. -/
import Derived.Test.YtdbfhmneijcjbaaGreatP09
import Derived.Test.YtdbfhmneijcjbaaGreatP11
set_option linter.unusedSimpArgs false
set_option linter.unusedVariables false
set_option linter.constructorNameAsVariable false
set_option linter.unnecessarySimpa false
set_option maxRecDepth 4000
namespace Go.Ev.Lay
variable{Ks K:List w_}{cap:Int}{vK vE:V}{cs:List V}{h':b_}{Z:List Nat}{pm:Option Nat}{n0:NL}{bg bm bl:Nat}{st:List Bool}
open Go.Ev.St
def e_.aG(x:e_)(b:Int)(k:Bool):List V:=x.s++[ZZ b,.h k]
theorem qU{h:b_}{x:e_}(w:WF h)(rk:o_ w_.s 9 h vK Ks)(a:q_ h x)(ht:x.N<Ks.length):
 av go 59 [.B [vK,ZZ cap],.B x.s] h fun u h'=>u=.B (x.aG (aF Ks x) false)/\Fr [] h h':=by
 have v1:vK.O=true:=Wj rk;let⟨h1,aj,ak,ar⟩:=au w [vK,ZZ cap];let⟨h2,an,ae,af⟩:=au ak.r x.s;let⟨K,ay,ac,ax⟩:=au ae.r [ZX 0,ZY 0,.f [],.j,ZZ 0,.h false];have n1:=s_ aj;have n2:=s_ an;have ab:=ac;have Z:=ak.c (ae.c ac);have c0:ag K h.i 0=some vK:=(ac.c_ (ae.c_ ar)).o 0;have i1:ag K h1.i 1=some (ZY (x.N:Int)):=(ac.c_ af).o 1;have i4:aq K h1.i 0 4=some x.s:=by rw[(ac.c_ af).J];rfl
 let⟨bk,ok',q,p1,p2,p3,p4⟩:=Yj fg (VJ rk Z) .u8 (x.N:Int) oM oM;rw[pi]at p4;have p6:ag K bk (ok'+6)=some (ZZ q.W):=p2 6 oM;have eb:aF Ks x=q.W:=by simp[aF,p4]
 have u1:bq [ZX 0,ZY 0,.f [],.j,ZZ 0,.h false] 0 x.s=some (x.s++[ZZ 0,.h false]):=rfl;have u2:∀b:Int,bq (x.s++[ZZ 0,.h false]) 4 [ZZ b]=some (x.aG b false):=fun _=>rfl;refine ai ?_;simp[a_,g_,(iR:x.s.length=4),u1,u2,<-aj,<-an,<-ay,i4,c0,i1,p1,p6];refine ao (c':=x.aG q.W false) ac.r ax rfl (by show aw (x.s++[ZZ q.W,.h false])=true;rw[aO,a.O];rfl) rfl ?_;rintro h4 o4 F4 n4;have ld:aq h4 h2.i 0 6=some (x.aG q.W false):=by rw[o4.J];rfl
 simp[a_,DF,ld,i4,c0,i1,p6];exact⟨by rw[eb],Z.y F4 w oM⟩
def e6:List V:=[ZY 0,.f [],.f [],.j,.f [],.j]
def CZ:i_:=[114,111,119]
theorem vO(a n:Nat)(b:Int)(Z:b=n)(h:n≠0):aP (.h .rem) [ZY (a:Int),ZY b]=some (ZY ((a%n:Nat):Int)):=by subst Z;rw[jy _ _ _ oM];congr 2
theorem Mr(a n:Nat)(b:Int)(Z:b=n)(h:n≠0)(K:a<256):aP (.h .quo) [ZY (a:Int),ZY b]=some (ZY ((a/n:Nat):Int)):=by subst Z;have:=YL a n;rw[pp _ _ _ oM,show Int.tdiv (a:Int) n=((a/n:Nat):Int)from(Int.ofNat_tdiv a n).symm];generalize a/n=q at *;rw[pT _ oM oM]
theorem EK{h:b_}{b:Nat}(w:WF h)(hb:b<256):
 av go 56 [ZY (b:Int)] h fun u h'=>Fr [] h h'/\∃Ks,(∀Z h'',(∀z∈Z,z<h.i)->Fr Z h' h''->o_ w_.s 9 h'' u Ks/\∀q∈Ks,Q4 h'' q)/\GK Ks/\U3 Ks 12=true/\Ks.length=3:=by
 let⟨h1,bh,bk,bA⟩:=au w [.f [110],ZY 3,.f [],.f [116,101,120,116],ZY 1,.f []];let⟨h2,bf,a3,bw⟩:=au bk.r [ZY 3,.f [],.f [],.j,.f [],.j];let⟨h3,bj,a1,br⟩:=au a3.r [ZY 0,.f [],.f [],.j,.f [],.j];have n1:=s_ bh;have n2:=s_ bf;have n3:=s_ bj;refine ai ?_;simp[a_,<-bh,<-bf,<-bj];refine u_ a1.r br ?_;rintro h4 o4 F4 n4;let⟨h5,a9,ba,bC⟩:=au F4.r [.f [105,100],ZY 2,.f []];let⟨h6,bm,a4,bt⟩:=au ba.r [ZY 2,.f [],.f [],.j,.f [35],.j,ZY 4,.f [],.f [],.j,.f [],.j];let⟨h7,a8,a2,bB⟩:=au a4.r [ZY 0,.f [],.f [],.j,.f [],.j];simp[a_,<-a9,<-bm,<-a8];apply u_ a2.r bB;rintro h8 o8 F8 n8;let⟨h9,bg,bi,bp⟩:=au F8.r [ZY 3,.f [],.f [],.j,.f [],.j];let⟨ha,a7,a5,bz⟩:=au bi.r [.f [111,102],ZY 2,.f []];let⟨bv,a6,aH,bn⟩:=au a5.r [ZY 1,.f [98],.f [98,50],.j,.f [],.z h8.i 0 1 1,ZY 5,.f [116,97,103],.f [],.z h9.i 0 1 1,.f [],.j];let⟨hc,bc,a0,bo⟩:=au aH.r [ZY 0,.f [],.f [],.j,.f [],.j];simp[a_,<-bg,<-a7,<-a6,<-bc];apply u_ a0.r bo;rintro hd od Fd nd;have ay:h4.i=h2.i+1:=oM;have n5:=s_ a9;have n6:=s_ bm;have n7:=s_ a8;have n9:=s_ bg;have na:=s_ a7;have nb:=s_ a6;have nc:=s_ bc;have ae:=ba.c (a4.c a2);have ac:=bi.c (a5.c (aH.c a0));have ak:=Fd.D _ _ oO (ac.c_ (F8.D _ _ oO (ae.c_ o4)));have aj:=Fd.D _ _ oO (ac.c_ o8);have p4:aq hd h2.i 0 6=some [ZY 1,.f CZ,.f [],.z h.i 0 2 2,.f [],.z h1.i 0 1 1]:=by rw[ak.J];rfl
 have p8:aq hd h6.i 0 6=some [ZY 1,.f [104,101,97,100],.f [104],.z h4.i 0 1 1,.f [],.z h5.i 0 2 2]:=by rw[aj.J];rfl
 have pd:aq hd bv.i 0 6=some [ZY 1,.f CZ,.f [],.j,.f [],.z ha.i 0 2 2]:=by rw[od.J];rfl
 let k0:w_:=⟨1,CZ,[],[([110],3,[]),([116,101,120,116],1,[])],[],.z h.i 0 2 2,.z h1.i 0 1 1,.p_ 3 [] [] [] [] .j .j .z_ .z_,10+((b%7:Nat):Int),false,((b%4:Nat):Int)⟩;let k1:w_:=⟨1,[104,101,97,100],[104],[([105,100],2,[])],[],.z h4.i 0 1 1,.z h5.i 0 2 2,.p_ 2 [] [] [] [35] .j .j .z_ (.p_ 4 [] [] [] [] .j .j .z_ .z_),6+((b%3:Nat):Int),true,((b/4%3:Nat):Int)⟩;let k2:w_:=⟨1,CZ,[],[],[],.j,.z ha.i 0 2 2,.p_ 1 [98] [98,50] [] [] .j (.z h8.i 0 1 1) (.p_ 3 [] [] [] [] .j .j .z_ .z_) (.p_ 5 [116,97,103] [] [([111,102],2,[])] [] (.z h9.i 0 1 1) .j .z_ .z_),20,decide (((b%16:Nat):Int)=15),((b/8%3:Nat):Int)⟩;have m7:b%7<7:=WN _ dI;have m4:b%4<4:=WN _ dI;have m3:b%3<3:=WN _ dI;have ax:b/4%3<3:=WN _ dI;have an:b/8%3<3:=WN _ dI;obtain⟨he,ab⟩:∃he,he=k_ hd (k0.s++(k1.s++(k2.s++[]))):=⟨_,rfl⟩;have K:Fr [] hd he:=ab▸VL Fd.r _;have af:f_ he hd.i (k0.s++(k1.s++(k2.s++[]))):=ab▸Wi Fd.r _;have t8:∀{B:Nat}{cs:List V},f_ h8 B cs->B<bv.i->f_ he B cs:=fun o l=>K.c_ (Fd.D _ _ oO (ac.c_ o));have t4:∀{B:Nat}{cs:List V},f_ h4 B cs->B<h6.i->f_ he B cs:=fun o l=>t8 (F8.D _ _ oO (ae.c_ o)) oM;have x1:=t4 (F4.D _ _ oO ((a3.c a1).c_ bA)) oM;have x2:=t4 (F4.D _ _ oO (a1.c_ bw)) oM;have x5:=t8 (F8.D _ _ oO ((a4.c a2).c_ bC)) oM;have x6:=t8 (F8.D _ _ oO (a2.c_ bt)) oM;have x9:=K.c_ (Fd.D _ _ oO ((a5.c (aH.c a0)).c_ bp));have xa:=K.c_ (Fd.D _ _ oO ((aH.c a0).c_ bz));have xb:=K.c_ (Fd.D _ _ oO (a0.c_ bn));have ar:h.i<=h2.i:=oM;have FF:Fr [] h he:=((((((bk.c (a3.c a1)).y F4 w oM).c ae).y F8 w oM).c ac).y Fd w oM).c K;have gk:GK [k0,k1,k2]:=by
  intro q m;simp at m;obtain rfl|rfl|rfl:=m;refine⟨?_,by simp[PG,PT.v_,k0],(oM:1<=10+((b%7:Nat):Int)),show 10+((b%7:Nat):Int)<=40 by omega⟩;have:ZE (10+((b%7:Nat):Int))=true:=by simp only[ZE,Vd,decide_eq_true_eq];omega
  show(ZE (10+((b%7:Nat):Int))&&_)=true;rw[this];rfl;refine⟨?_,by simp[PG,PT.v_,k1],(oM:1<=6+((b%3:Nat):Int)),show 6+((b%3:Nat):Int)<=40 by omega⟩;have:ZE (6+((b%3:Nat):Int))=true:=by simp only[ZE,Vd,decide_eq_true_eq];omega
  show(ZE (6+((b%3:Nat):Int))&&_)=true;rw[this];rfl;exact⟨rfl,by simp[PG,PT.v_,k2],(oM:(1:Int)<=20),show(20:Int)<=40 by omega⟩
 have fin:Fr [] h he/\∃Ks,(∀Z h'',(∀z∈Z,z<h.i)->Fr Z he h''->o_ w_.s 9 h'' (.z hd.i 0 3 3) Ks/\∀q∈Ks,Q4 h'' q)/\GK Ks/\U3 Ks 12=true/\Ks.length=3:=by refine⟨FF,[k0,k1,k2],?_,gk,?_,rfl⟩;intro Z H hZ f;have go:∀{B:Nat}{cs:List V},f_ he B cs->h.i<=B->f_ H B cs:=fun o l=>f.D _ _ (fun m=>by have:=hZ _ m;omega) o;have x1:=go x1 oM;have x2:=go x2 oM;have x5:=go x5 oM;have x6:=go x6 oM;have x9:=go x9 oM;have xa:=go xa oM;have xb:=go xb oM;refine⟨Wy (go af oM) rfl,?_⟩;intro q m;simp at m;obtain rfl|rfl|rfl:=m;exact⟨Vj rfl,Wy x1 rfl,Vj rfl,Wy x2 rfl,Vj rfl,⟨Vj rfl,⟨rfl,rfl⟩,Vj rfl,⟨rfl,rfl⟩,Vj rfl,trivial,trivial⟩,trivial⟩;exact⟨Vj rfl,Wy x5 rfl,Vj rfl,Wy x6 rfl,Vj rfl,⟨Vj rfl,⟨rfl,rfl⟩,Vj rfl,⟨rfl,rfl⟩,Vj rfl,trivial,⟨Vj rfl,⟨rfl,rfl⟩,Vj rfl,⟨rfl,rfl⟩,Vj rfl,trivial,trivial⟩⟩,trivial⟩;exact⟨Vj rfl,⟨rfl,rfl⟩,Vj rfl,Wy xb rfl,Vj rfl,⟨Vj rfl,⟨rfl,rfl⟩,Vj rfl,Wy x9 rfl,Vj rfl,⟨Vj rfl,⟨rfl,rfl⟩,Vj rfl,⟨rfl,rfl⟩,Vj rfl,trivial,trivial⟩,⟨Vj rfl,Wy xa rfl,Vj rfl,⟨rfl,rfl⟩,Vj rfl,trivial,trivial⟩⟩,trivial⟩;have:[k0,k1,k2].all Y0=true:=Wo.2 fun q m=>(gk q m).1;unfold U3;rw[this];rfl
 simp(disch:=omega) only[a_,seval,ah,p4,p8,pd,vO b 7 7 rfl dI,vO b 4 4 rfl dI,vO b 3 3 rfl dI,Mr b 4 4 rfl dI hb,vO (b/4) 3 3 rfl dI,vO b 16 16 rfl dI,Mr b 8 8 rfl dI hb,vO (b/8) 3 3 rfl dI];rw[ab]at fin;exact fin
theorem Nm{call:aL}{env:T V}{h:b_}{k:Nat}{op:Q_}{o:Option (Nat×Nat)}{Rr:List Nat}{Z:List (Nat×Nat×Nat)}{K:List (Nat×Nat)}{Q:Ex->T V->b_->Prop}(A B:List n_)(hk:A.length=k)(lc:∀loc,jG loc env op=some (cs,o))
 (x:WD call env ((A.map fun s=>(s,none))++(⟨none,op,none⟩,some (eZ h.i o,cs))::B.map fun s=>(s,none)) [] [k_ h cs] (k_ h cs) (DF call (A++⟨none,op,none⟩::B) Z K env (Q .a))):
 W call (.h (A++⟨none,op,none⟩::B) [k] Rr Z K) env h Q:=by
 refine(FM _ _ _ _ _ _).2 ?_;have e:∀loc,Q8 call env [k] (⟨none,op,none⟩::B) k loc h=some ((⟨none,op,none⟩,some (eZ h.i o,cs))::B.map (fun s=>(s,none)),k_ h cs):=by
  intro loc;have c:List.contains [k] k=true:=by simp
  simp[Q8,lc,pO B (k+1) _ _ (YA k)]
 rw[yE A 0 [] oM e,jQ];exact x
theorem HG{Z:List V}{env:T V}{op:Q_}{o:Option (Nat×Nat)}(n:Nat)(e:jG Z env op=some (cs,o)):cI Z env op (eZ n o) cs=true:=by
 cases o with
 |none=>simp[cI,e,S_,eZ,eW,eN]
 |some q=>let⟨q,r⟩:=q;simp[cI,e,S_,eZ,eW,eN]
def Gi:List i_:=[[],[97],[114,111,119],[116,119,111,32,119,111,114,100,115],[32,32],[126,33,45,44],[97,32,108,111,110,103,101,114,32,116,101,120,116,32,111,102,32,116,104,105,115,32,107,105,110,100],[57]]
theorem N0(loc:List V)(env:T V)(n:Nat):cI loc env (.b [(.f [])] [(0,1),(1,1),(2,1),(3,1),(4,1),(5,1),(6,1),(7,1)] 8 [.c (.f []),.c (.f [97]),.c (.f [114,111,119]),.c (.f [116,119,111,32,119,111,114,100,115]),.c (.f [32,32]),.c (.f [126,33,45,44]),.c (.f [97,32,108,111,110,103,101,114,32,116,101,120,116,32,111,102,32,116,104,105,115,32,107,105,110,100]),.c (.f [57])]) (.z n 0 8 8) (Gi.map V.f)=true:=HG (o:=some (8,8)) n rfl
theorem B3(b n k:Nat):eZ b (some (n,k))=.z b 0 n k:=rfl
abbrev NO:List n_:=[⟨none,.p (.g 4 1) [.v 1,.c (ZZ 0)],none⟩,⟨none,.a 1 false (.l 0),none⟩,⟨none,.p (.h .rem) [.l 0,.c (ZY 60)],none⟩,⟨none,.p (.r .u64) [.l 0],none⟩,⟨none,.p (.h .add) [.c (ZX 1),.l 0],none⟩,⟨none,.p (.g 4 1) [.v 1,.c (ZZ 1)],none⟩,⟨none,.a 1 false (.l 0),none⟩,⟨none,.p (.h .rem) [.l 0,.c (ZY 3)],none⟩]
abbrev NN:List n_:=[⟨none,.p (.g 4 1) [.v 1,.c (ZZ 2)],none⟩,⟨none,.a 1 false (.l 0),none⟩,⟨none,.p (.h .rem) [.l 0,.c (ZY 8)],none⟩,⟨none,.p (.c 1) [.l 3,.l 0],none⟩,⟨none,.a 1 false (.l 0),none⟩,⟨none,.p (.a [(ZX 0),(ZY 0),(.f []),.j] [(0,1),(1,1),(2,1)]) [.l 9,.l 6,.l 0],none⟩,⟨none,.d [(ZX 0),(ZY 0),(.f []),.j],none⟩,⟨none,.g 4 (.l 0) (.l 1),none⟩]
theorem OP(x:Int)(a n:Nat)(b:Int)(Z:x=a)(K:b=n)(h:n≠0):aP (.h .rem) [ZZ x,ZZ b]=some (ZZ ((a%n:Nat):Int)):=by subst K;subst Z;rw[jy _ _ _ oM];congr 2
theorem yu(l:List i_):(l.flatMap sS).length=l.length:=by
 induction l with
 |nil=>rfl
 |cons a l ih=>simp only[VM,Vv,ih,Vy];show 1+_=_;omega
theorem _root_.Go.Ev.Gs.ai{h:b_}{B e:Nat}{v:V}(g:Gs h B e v cs)(f:Fr Z h h')(K:∀z∈Z,z<B):Gs h' B e v cs:=by obtain z|⟨b,n,z1,z2,z3,z4,o⟩:=g;exact .inl z;exact .inr ⟨b,n,z1,z2,z3,z4,f.D _ _ (fun m=>by have:=K _ m;omega) o⟩
theorem _root_.Go.Ev.Gs.vb{h:b_}{B e:Nat}{v:V}(g:Gs h B e v cs):∀z∈vb v,B<=z:=by obtain⟨rfl,_⟩|⟨b,n,rfl,_,_,z4,_⟩:=g;simp[Go.Ev.vb];intro z m;simp[Go.Ev.vb]at m;omega
theorem _root_.Go.Ev.Gs.le{h:b_}{B C e:Nat}{v:V}(g:Gs h B e v cs)(l:C<=B):Gs h C e v cs:=by obtain z|⟨b,n,K,Z,z3,z4,o⟩:=g;exact .inl z;exact .inr ⟨b,n,K,Z,z3,oM,o⟩
structure X1(N:Nat)(h:b_)(x:e_):Prop where
 k:x.A<18446744073709551616
 t:x.N<256
 g:Gs h N 1 x.vm (x.E.flatMap sS)
 n:x.E.length<=4096
 l:x.U.length<16777216
theorem X1.H{N:Nat}{h:b_}{x:e_}(a:X1 N h x):q_ h x:=⟨a.k,a.t,Sl.a (YT (n:=x.E.length) a.g (by rw[yu];exact(WC _).symm) oM),a.n,a.l⟩
theorem X1.a{N:Nat}{h:b_}{x:e_}(a:X1 N h x)(f:Fr Z h h')(d:∀z∈Z,z∉vb x.vm):X1 N h' x:=by refine⟨a.k,a.t,?_,a.n,a.l⟩;obtain z|⟨b,n,K,z2,z3,z4,o⟩:=a.g;exact .inl z;exact .inr ⟨b,n,K,z2,z3,z4,f.D _ _ (fun m=>d _ m (by rw[K];simp[vb])) o⟩
def mk3:List i_:=[[97],[98,50],[107,101,121]]
theorem sM{h:b_}{b0 b1 b2 b3:Nat}(w:WF h)(h0:b0<256)(bp:b1<256)(bn:b2<256)(bi:b3<256):
 av go 112 [.B [ZY (b0:Int),ZY (b1:Int),ZY (b2:Int),ZY (b3:Int)]] h fun u h'=>Fr [] h h'/\∃x:e_,u=.B x.s/\X1 h.i h' x:=by
 let⟨h1,bV,b6,bA⟩:=au w [ZY (b0:Int),ZY (b1:Int),ZY (b2:Int),ZY (b3:Int)];let⟨h2,bT,bw,cb⟩:=au b6.r [ZX 0,ZY 0,.f [],.j];have l0:ag h2 h.i 0=some (ZY (b0:Int)):=(bw.c_ bA).o 0;have l1:ag h2 h.i 1=some (ZY (b1:Int)):=(bw.c_ bA).o 1;have l2:ag h2 h.i 2=some (ZY (b2:Int)):=(bw.c_ bA).o 2;have l3:ag h2 h.i 3=some (ZY (b3:Int)):=(bw.c_ bA).o 3;refine ai ?_;simp[a_,<-bV,<-bT];have n1:=s_ bV;have n2:=s_ bT;refine Nm (op:=.b [(.f [])] [(0,1),(1,1),(2,1),(3,1),(4,1),(5,1),(6,1),(7,1)] 8 [.c (.f []),.c (.f [97]),.c (.f [114,111,119]),.c (.f [116,119,111,32,119,111,114,100,115]),.c (.f [32,32]),.c (.f [126,33,45,44]),.c (.f [97,32,108,111,110,103,101,114,32,116,101,120,116,32,111,102,32,116,104,105,115,32,107,105,110,100]),.c (.f [57])]) NO NN rfl (fun _=>rfl) (cs:=Gi.map V.f) (o:=some (8,8)) ?_;obtain⟨h3,af⟩:∃h3,h3=k_ h2 (Gi.map V.f):=⟨_,rfl⟩;have Z:Fr [] h2 h3:=af▸VL bw.r _;have an:f_ h3 h2.i (Gi.map V.f):=af▸Wi bw.r _;have bk:=Z;have m0:ag h3 h.i 0=some (ZY (b0:Int)):=(Z.c_ (bw.c_ bA)).o 0;have m1:ag h3 h.i 1=some (ZY (b1:Int)):=(Z.c_ (bw.c_ bA)).o 1;have m2:ag h3 h.i 2=some (ZY (b2:Int)):=(Z.c_ (bw.c_ bA)).o 2;let⟨h4,b7,bE,ca⟩:=au Z.r [ZX 0,ZY 0,.f [],.j];have n3:=s_ af;have xa:∀i:Nat,i<4->aP (.g 4 1) [.u h.i 0,ZZ (i:Int)]=some (.u h.i i):=fun i hi=>by rw[vu 1 h.i 0 4 _ _ oM oM];simp
 have x0:aP (.g 4 1) [.u h.i 0,ZZ 0]=some (.u h.i 0):=xa 0 oM;have x1:aP (.g 4 1) [.u h.i 0,ZZ 1]=some (.u h.i 1):=xa 1 oM;have x2:aP (.g 4 1) [.u h.i 0,ZZ 2]=some (.u h.i 2):=xa 2 oM;have x3:aP (.g 4 1) [.u h.i 0,ZZ 3]=some (.u h.i 3):=xa 3 oM;have bo:b2%8<8:=WN _ dI;let⟨bt,ot,x8,y8,_⟩:=Sl.ix (esz:=1) (v:=.z h2.i 0 8 8) (n:=8) (Wy an rfl) .u8 ((b2%8:Nat):Int) oM oM;obtain⟨tx,tb⟩:∃tx,Gi[b2%8]? =some tx/\tx.length<30:=by
  have:b2%8<8:=WN _ dI;match b2%8,this with
  |0,_|1,_|2,_|3,_|4,_|5,_|6,_|7,_=>exact⟨_,rfl,dI⟩
 have t0:ag h3 bt ot=some (.f tx):=by grind
 simp(disch:=omega) only[a_,seval,g_,m0,m1,m2,<-af,NN,N0,B3,vO b0 60 60 rfl dI,vO b1 3 3 rfl dI,vO b2 8 8 rfl dI,t0,<-b7,x0,x1,x2,x8,bY];refine u_ bE.r ca ?_;rintro h5 o5 F5 n5;have F4:=bE;have k0:ag h4 h.i 0=some (ZY (b0:Int)):=(F4.c_ (Z.c_ (bw.c_ bA))).o 0;have k1:ag h4 h.i 1=some (ZY (b1:Int)):=(F4.c_ (Z.c_ (bw.c_ bA))).o 1;have k2:ag h4 h.i 2=some (ZY (b2:Int)):=(F4.c_ (Z.c_ (bw.c_ bA))).o 2;have FF:Fr [] h h5:=(b6.c (bw.c (Z.c bE))).y F5 w oM;have ob:=F5.D _ _ oO (F4.c_ (Z.c_ (bw.c_ bA)));let⟨ch,ci,a7,ce,_⟩:=Sl.ix (esz:=1) (v:=.z h2.i 0 8 8) (n:=8) (Wy (F4.c_ an) rfl) .u8 ((b2%8:Nat):Int) oM oM;rw[x8]at a7;cases a7;have t4:ag h4 bt ot=some (.f tx):=by grind
 have o2:=F5.D _ _ oO (F4.c_ (Z.c_ cb));simp[a_,DF,m0,m1,m2,k0,k1,k2,t0,t4];have n4:=s_ b7;refine aC (fun n env hh=>Fr [] h hh/\∃(i:Nat)(vm:V)(ms:List i_),env.c_ 4=some (ZZ i)/\env.c_ 3=some (.u h3.i 0)/\env.c_ 1=some (.u h.i 0)/\env.c_ 2=some (.u h1.i 0)/\i<=3/\
  f_ hh h.i [ZY (b0:Int),ZY (b1:Int),ZY (b2:Int),ZY (b3:Int)]/\f_ hh h1.i [ZX 0,ZY 0,.f [],.j]/\f_ hh h3.i [ZX (1+((b0%60:Nat):Int)),ZY ((b1%3:Nat):Int),.f tx,vm]/\Gs hh h4.i 1 vm (ms.flatMap sS)/\h4.i<=hh.i/\ms.length<=i/\n=3-i) 3 oM ?_ ?_
 exact⟨FF,0,.j,[],iS,iS,iS,iS,oM,ob,o2,o5,.inl ⟨rfl,rfl⟩,oM,iS,rfl⟩;rintro n env hh ⟨F,i,vm,ms,g4,g3,g1,g2,hi,ob,o2,oi,G,nx,ml,rfl⟩;have p3:ag hh h.i 3=some (ZY (b3:Int)):=ob.o 3;have v3:ag hh h3.i 3=some vm:=oi.o 3;by_cases bv:i<3;have ar:(i:Int)<3:=oM;obtain⟨s,xs⟩:∃s,aP (.F false) [ZY (b3:Int),ZZ (i:Int)]=some (ZY s):=⟨_,CF _ _ _ _ oM⟩;obtain⟨y,xy⟩:∃y,aP (.h .and) [ZY s,ZY 1]=some (ZY y):=⟨_,IW _ _ _⟩;by_cases c:0<y;let⟨a1,bB,bz,bC⟩:=au F.r [.f [97],.f [98,50],.f [107,101,121]];have m3:(i+b3/8)%3<3:=WN _ dI;have xq:∀{H},Fr [] a1 H->∃bs os,aP (.c 1) [.z hh.i 0 3 3,ZZ (((i+b3/8)%3:Nat):Int)]=some (.u bs os)/\ag H bs os=(mk3.map V.f)[(i+b3/8)%3]? :=by intro H f;let⟨bs,os,xq,yq,_⟩:=Sl.ix (esz:=1) (v:=.z hh.i 0 3 3) (n:=3) (Wy (f.c_ bC) rfl) .i64 (((i+b3/8)%3:Nat):Int) oM oM;refine⟨bs,os,xq,?_⟩;have:=yq 0 oM;rw[pi,WC,Xm,Xm]at this;exact this
 obtain⟨mk,em⟩:∃mk,(mk3.map V.f)[(i+b3/8)%3]? =some (.f mk):=by
  match(i+b3/8)%3,m3 with
  |0,_|1,_|2,_=>exact⟨_,rfl⟩
 rw[em]at xq;let⟨bs,os,cc,t1⟩:=xq (Vk bz.r);let⟨a2,bW,bD,b9⟩:=au bz.r [.f mk];let⟨_,_,a0,t2⟩:=xq bD;rw[cc]at a0;cases a0;have a8:=s_ bB;have br:=s_ bW;have ac:=bz.c bD;have a5:ag a1 h.i 3=some (ZY (b3:Int)):=(bz.c_ ob).o 3;have bj:ag a2 h.i 3=some (ZY (b3:Int)):=(ac.c_ ob).o 3;have ba:ag a1 h3.i 3=some vm:=(bz.c_ oi).o 3;have bf:ag a2 h3.i 3=some vm:=(ac.c_ oi).o 3;simp(disch:=omega) only[a_,seval,g_,g4,g3,g1,ar,x3,p3,xs,xy,eq_true c,v3,<-bB,Mr b3 8 8 rfl dI bi,ah,OP ((i:Int)+((b3/8:Nat):Int)) (i+b3/8) 3 3 oM rfl dI,cc,t1,<-bW,a5];have ak:=yu ms;refine WY (bytes:=16) (n:=1) bD.r (G.fr ac) (Wy b9 rfl) oM oM rfl oM (by rw[ak];omega) ?_;intro K a3 G3 e3 F3;have ab:=G.vb;have ay:=F3.D _ _ (fun m=>by have:=ab _ m;omega) (ac.c_ oi);have bm:ag a3 h.i 3=some (ZY (b3:Int)):=(F3.D _ _ (fun m=>by have:=ab _ m;omega) (ac.c_ ob)).o 3;have bc:=F3.i;have c1:K.O=true:=by obtain⟨rfl,_⟩|⟨b,n,rfl,_⟩:=G3<;>rfl
 simp only[a_,seval,g_,g3];refine ao (c':=[ZX (1+((b0%60:Nat):Int)),ZY ((b1%3:Nat):Int),.f tx,K]) F3.r ay (by rw[az c1];rfl) (by rw[az c1];simp only[aA,aD,c1];rfl) (by rw[az c1];rfl) ?_;rintro a4 ax ae bh;simp(disch:=omega) only[a_,seval,DF,ah,g4,p3,a5,v3,ba,bf,t1];have FN:Fr [] h a4:=(Ww w (F.c ac) F3 (fun y hy=>by have:=ab _ hy;omega)).y ae w oM;have eq:(ms++[mk]).flatMap sS=ms.flatMap sS++[.f mk]:=by simp
 refine t_ ⟨3-(i+1),oM,FN,i+1,K,ms++[mk],iS,iX,iX,iX,oM,ae.D _ _ oO (F3.D _ _ (fun m=>by have:=ab _ m;omega) (ac.c_ ob)),ae.D _ _ oO (F3.D _ _ (fun m=>by have:=ab _ m;omega) (ac.c_ o2)),ax,by rw[eq];exact G3.ai ae oO,oM,by simp;omega,rfl⟩;simp(disch:=omega) only[a_,seval,ah,g4,g1,ar,x3,p3,xs,xy,eq_false c];refine t_ ⟨3-(i+1),oM,F,i+1,vm,ms,iS,iX,iX,iX,oM,ob,o2,oi,G,nx,oM,rfl⟩;have a6:¬(i:Int)<3:=oM;by_cases c:(240:Int)<=b3;let⟨a1,bB,bz,bC⟩:=au F.r [.f [97],.f [97]];simp[a_,g4,g3,g1,eq_false a6,x3,p3,eq_true c,v3,<-bB];have ak:=yu ms;have a8:=s_ bB;refine WY (bytes:=16) (n:=2) bz.r (G.fr bz) (Wy bC rfl) oM oM rfl oM (by rw[ak];omega) ?_;intro K a3 G3 e3 F3;have ab:=G.vb;have ay:=F3.D _ _ (fun m=>by have:=ab _ m;omega) (bz.c_ oi);have bc:=F3.i;have c1:K.O=true:=by obtain⟨rfl,_⟩|⟨b,n,rfl,_⟩:=G3<;>rfl
 simp[a_,g3];refine ao (c':=[ZX (1+((b0%60:Nat):Int)),ZY ((b1%3:Nat):Int),.f tx,K]) F3.r ay (by rw[az c1];rfl) (by rw[az c1];simp only[aA,aD,c1];rfl) (by rw[az c1];rfl) ?_;rintro a4 ax ae bh;have FN:Fr [] h a4:=(Ww w (F.c bz) F3 (fun y hy=>by have:=ab _ hy;omega)).y ae w oM;have eq:(ms++[[97],[97]]).flatMap sS=ms.flatMap sS++[.f [97],.f [97]]:=by simp
 have a9:=ae.D _ _ oO (F3.D _ _ (fun m=>by have:=ab _ m;omega) (bz.c_ o2));have G4:Gs a4 h4.i 1 K ((ms++[[97],[97]]).flatMap sS):=by rw[eq];exact G3.ai ae oO
 have ld:aq a4 h3.i 0 4=some [ZX (1+((b0%60:Nat):Int)),ZY ((b1%3:Nat):Int),.f tx,K]:=by rw[(ax).J];rfl
 simp only[a_,seval,g3,g2,ld];refine ao (o:=0) (v:=.B [ZX (1+((b0%60:Nat):Int)),ZY ((b1%3:Nat):Int),.f tx,K]) (c':=[ZX (1+((b0%60:Nat):Int)),ZY ((b1%3:Nat):Int),.f tx,K]) (FN).r (a9) rfl (by show aw [_,_,_,_]=true;simp only[aA,aD,c1];rfl) rfl ?_;rintro z o5 aj bg;have aH:aq z h1.i 0 4=some [ZX (1+((b0%60:Nat):Int)),ZY ((b1%3:Nat):Int),.f tx,K]:=by rw[o5.J];rfl
 simp only[a_,seval,g2,aH];refine⟨(FN).y aj w oM,⟨1+b0%60,b1%3,tx,ms++[[97],[97]],K⟩,rfl,by show 1+b0%60<_;omega,by show b1%3<256;omega,?_,by show(ms++[[97],[97]]).length<=4096;simp;omega,by show tx.length<16777216;omega⟩;exact((G4).ai aj oO).le oM;simp[a_,g4,g3,g1,eq_false a6,x3,p3,eq_false c];have c1:vm.O=true:=by obtain⟨rfl,_⟩|⟨b,n,rfl,_⟩:=G<;>rfl
 have ld:aq hh h3.i 0 4=some [ZX (1+((b0%60:Nat):Int)),ZY ((b1%3:Nat):Int),.f tx,vm]:=by rw[(oi).J];rfl
 simp only[a_,seval,ld,g2];refine ao (o:=0) (v:=.B [ZX (1+((b0%60:Nat):Int)),ZY ((b1%3:Nat):Int),.f tx,vm]) (c':=[ZX (1+((b0%60:Nat):Int)),ZY ((b1%3:Nat):Int),.f tx,vm]) (F).r (o2) rfl (by show aw [_,_,_,_]=true;simp only[aA,aD,c1];rfl) rfl ?_;rintro z o5 aj bg;have aH:aq z h1.i 0 4=some [ZX (1+((b0%60:Nat):Int)),ZY ((b1%3:Nat):Int),.f tx,vm]:=by rw[o5.J];rfl
 simp only[a_,seval,g2,aH];refine⟨(F).y aj w oM,⟨1+b0%60,b1%3,tx,ms,vm⟩,rfl,by show 1+b0%60<_;omega,by show b1%3<256;omega,?_,by show(ms).length<=4096;omega,by show tx.length<16777216;omega⟩;exact((G).ai aj oO).le oM
def q4(q:Nat×Nat×Nat×Nat):List V:=[ZY (q.1:Int),ZY (q.2.1:Int),ZY (q.2.2.1:Int),ZY (q.2.2.2:Int)]
structure IL(N:Nat)(h:b_)(v:V)(X:List e_):Prop where
 g:Gs h N 4 v (X.flatMap e_.s)
 i:∀x∈X,X1 N h x
 d:∀x∈X,∀z∈vb v,z∉vb x.vm
 n:(X.map e_.A).Nodup
theorem IL.a{N:Nat}{h:b_}{v:V}{X:List e_}(a:IL N h v X)(f:Fr [] h h'):IL N h' v X:=⟨a.g.fr f,fun x m=>(a.i x m).a f iS,a.d,a.n⟩
theorem IL.c{N:Nat}{h:b_}{v:V}{X:List e_}(a:IL N h v X)(f:Fr Z h h')(l:∀z∈Z,z<N):IL N h' v X:=
 ⟨a.g.ai f l,fun x m=>(a.i x m).a f (fun z hz c=>by have:=l z hz;have:=(a.i x m).g.vb z c;omega),a.d,a.n⟩
theorem X1.c{N M:Nat}{h:b_}{x:e_}(a:X1 N h x)(l:M<=N):X1 M h x:=⟨a.k,a.t,a.g.le l,a.n,a.l⟩
theorem IL.f{N M:Nat}{h:b_}{v:V}{X:List e_}(a:IL N h v X)(l:M<=N):IL M h v X:=⟨a.g.le l,fun x m=>(a.i x m).c l,a.d,a.n⟩
theorem IL.e{N:Nat}{h:b_}{v:V}{X:List e_}(a:IL N h v X):o_ e_.s 4 h v X:=YT (n:=X.length) a.g (aG aT X) oM
theorem _root_.Go.Ev.Gs.lt{h:b_}{B e:Nat}{v:V}(w:WF h)(g:Gs h B e v cs):∀z∈vb v,z<h.i:=by obtain⟨rfl,_⟩|⟨b,n,rfl,_,_,_,o⟩:=g;simp[Go.Ev.vb];intro z m;simp[Go.Ev.vb]at m;have:=o.lt w;omega
theorem MC{h:b_}{v:V}{L:List (Nat×Nat×Nat×Nat)}(w:WF h)(a:C_ q4 4 h v L)(hb:∀q∈L,q.1<256/\q.2.1<256/\q.2.2.1<256/\q.2.2.2<256):
 av go 57 [.B [v]] h fun u h'=>Fr [] h h'/\∃X,IL h.i h' u X/\X.length<=12:=by
 let⟨h1,a5,a1,a6⟩:=au w [v];have n1:=s_ a5;refine ai ?_;simp[a_,<-a5];refine aC (fun n env hh=>Fr [] h hh/\Fr [] h1 hh/\∃(i:Nat)(u:V)(X:List e_),env.c_ 4=some (ZZ i)/\env.c_ 3=some u/\env.c_ 1=some (.u h.i 0)/\i<=L.length/\i<=12/\X.length<=i/\IL h1.i hh u X/\n=12-i) 12 oM ?_ ?_;exact⟨a1,Vk a1.r,0,.j,[],iS,iS,iS,oM,oM,iS,⟨.inl ⟨rfl,rfl⟩,iS,iS,iS⟩,rfl⟩;rintro n env hh ⟨F,F1,i,u,X,g4,g3,g1,hi,aH,hX,il,rfl⟩;have ob:=F1.c_ a6;have l0:ag hh h.i 0=some v:=ob.o 0;have len:=(a.fr F).A_;by_cases c1:i<L.length;by_cases c2:i<12;let⟨bi,oi,q,p1,_,p3,p4⟩:=(a.fr F).ix (f:=q4) (k:=4) (fun _=>rfl) .i64 (i:Int) oM oM;rw[pi]at p4;let⟨b1,b2,b3,b4⟩:=hb q (Vg p4);simp only[a_,seval,g4,g1,l0,len,(oM:(i:Int)<L.length),(oM:(i:Int)<12),p1,p3];refine aa (sM F.r b1 b2 b3 b4) ?_;rintro _ h2 ⟨F2,x,rfl,gx⟩;let⟨h3,a4,a3,a8⟩:=au F2.r [ZX 0,ZY 0,.f [],.j];simp only[a_,seval,<-a4];refine ao (c':=x.s) a3.r a8 rfl gx.H.O rfl ?_;rintro h4 o4 F4 n4;have n3:=s_ a4;have n2:=F2.i;have nh:=F1.i;have ac:Fr [] h2 h4:=a3.y F4 F2.r oM;have K:=F2.c ac;have ab:=il.a K;have an:=gx.a ac iS;have k0:ag h4 h2.i 0=some (ZX (x.A:Int)):=o4.o 0;have ar:aq h4 h2.i 0 4=some x.s:=by rw[o4.J];rfl
 simp only[a_,seval,g3,k0];refine aa (AQ ab.e oM) ?_;rintro _ _ ⟨rfl,r,rfl,hr⟩;by_cases c3:r<0;let⟨h5,a2,a0,a7⟩:=au F4.r x.s;have u1:bq [ZX 0,ZY 0,.f [],.j] 0 x.s=some x.s:=rfl;simp only[a_,seval,g3,eq_true c3,ar,(iR:x.s.length=4),u1,<-a2];have n5:=s_ a2;have Z:=ab.a a0;have af:=an.a a0 iS;refine WY (bytes:=56) (n:=1) a0.r Z.g (Wy a7 rfl) oM oM gx.H.O oM (by rw[aG aT X];omega) ?_;intro u' h6 G6 e6 F6;have ul:=il.g.lt F.r;have ub:=il.g.vb;have xb:=gx.g.vb;have ax:=af.a F6 (fun z m c=>by have:=ul z m;have:=xb z c;omega);have i6:∀y∈X,X1 h1.i h6 y:=fun y m=>(Z.i y m).a F6 (Z.d y m);have xl:=af.g.lt a0.r;have n6:=F6.i;have aj:=K.c a0;have FN:Fr [] h h6:=Ww w (F.c aj) F6 (fun y hy=>by have:=ub _ hy;omega);have ay:Fr [] h1 h6:=Ww a1.r (F1.c aj) F6 (fun y hy=>ub _ hy);have eq:(X++[x]).flatMap e_.s=X.flatMap e_.s++x.s:=by simp
 have nk:∀y∈X,y.A≠x.A:=fun y m e=>by have:=hr.2 ⟨y,m,e⟩;omega
 have ak:IL h1.i h6 u' (X++[x]):=by refine⟨by rw[eq];exact G6,?_,?_,?_⟩;intro y m;obtain m|m:=Vc.1 m;exact i6 y m;rw[Vu.1 m];exact ax.c oM;intro y m z hz c;rw[e6,Vu]at hz;subst hz;obtain m|m:=Vc.1 m;have:=(Z.i y m).g.lt a0.r _ c;omega;grind;rw[VF,Xq];refine⟨il.n,iS,?_⟩;intro p hp p' ae e;obtain⟨y,ym,rfl⟩:=VK.1 hp;simp at ae;exact nk y ym (by rw[e,ae])
 simp(disch:=omega) only[a_,seval,ah,g4];refine t_ ⟨12-(i+1),oM,FN,ay,i+1,u',X++[x],iS,iS,iX,oM,oM,by simp;omega,ak,rfl⟩;simp(disch:=omega) only[a_,seval,ah,g4,eq_false c3];refine t_ ⟨12-(i+1),oM,F.c K,F1.c K,i+1,u,X,iS,iX,iX,oM,oM,oM,ab,rfl⟩;simp[a_,g4,g3,g1,l0,len,(oM:(i:Int)<L.length),(oM:¬(i:Int)<12)];exact⟨F,X,il.f oM,oM⟩;simp[a_,g4,g3,g1,l0,len,(oM:¬(i:Int)<L.length)];exact⟨F,X,il.f oM,oM⟩
structure d_ where
 x:e_
 b:Int
 kn:Bool
def d_.s(e:d_):List V:=e.x.aG e.b e.kn
theorem aK(e:d_):e.s.length=6:=rfl
def b8(n:Nat):List V:=[ZY (n:Int)]
structure EOk(Ks:List w_)(X:List e_)(e:d_):Prop where
 m:e.x∈X
 o:P0 e.x 3=true
 r:bP Ks 12 e.x=0
 b:e.kn=false->e.b=aF Ks e.x
 c:e.kn=true->1<=e.b/\e.b<=40
set_option maxHeartbeats 1000000 in
theorem MN{h:b_}{vI vH:V}{kb:Nat}{L:List (Nat×Nat×Nat×Nat)}{H:List Nat}(w:WF h)(a:C_ q4 4 h vI L)(hb:∀q∈L,q.1<256/\q.2.1<256/\q.2.2.1<256/\q.2.2.2<256)
 (aH:C_ b8 1 h vH H) (hH:∀n∈H,n<256) (hk:kb<256):
 av go 16 [.B [vI,vH,ZY (kb:Int)]] h fun u h'=>Fr [] h h'/\∃vK Ks vX X vE,∃E:List d_,u=.G [.B [vK,ZZ 12],.B [vE]]/\o_ w_.s 9 h' vK Ks/\(∀q∈Ks,Q4 h' q)/\GK Ks/\U3 Ks 12=true/\Ks.length=3/\
  IL h.i h' vX X/\Gs h' h.i 6 vE (E.flatMap d_.s)/\(∀e∈E,EOk Ks X e)/\(E.map fun e=>e.x.A).Nodup/\E.length<=12:=by
 let⟨h1,cb,ch,ci⟩:=au w [vI,vH,ZY (kb:Int)];let⟨h2,b9,ca,ct⟩:=au ch.r [.j,ZZ 0];let⟨h3,cc,bV,cn⟩:=au ca.r [.j];have n1:=s_ cb;have n2:=s_ b9;have n3:=s_ cc;have a8:=ca.c bV;have k2:ag h3 h.i 2=some (ZY (kb:Int)):=(a8.c_ ci).o 2;refine ai ?_;simp only[a_,seval,<-cb,<-b9,<-cc,k2];refine aa (EK bV.r hk) ?_;rintro vK h4 ⟨F4,Ks,bk,gk,br,lk⟩;let⟨rk,kh⟩:=bk [] h4 iS (Vk F4.r);have v1:=Wj rk;have o4:=F4.c_ (a8.c_ ci);let⟨h5,b6,b7,cx⟩:=au F4.r [.j,ZZ 0];have n4:=F4.i;have n5:=s_ b6;simp only[a_,seval,az v1,<-b6];refine ao (o:=0) (v:=.B [vK,ZZ 12]) (c':=[vK,ZZ 12]) b7.r cx rfl (by show aw [_,_]=true;simp only[aA,aD,v1];rfl) rfl ?_;rintro h6 o6 F6 n6;have aj:Fr [] h4 h6:=b7.y F6 F4.r oM;have l0:aq h6 h.i 0 1=some [vI]:=by rw[(aj.c_ o4).J];rfl
 have bc:=(ch.c a8).c (F4.c aj);simp only[a_,seval,l0];apply aa (MC aj.r (a.fr bc) hb);rintro vX h7 ⟨F7,X,il,hX⟩;let⟨h8,cj,bE,cr⟩:=au F7.r [.j];have n7:=F7.i;have n8:=s_ cj;simp only[a_,<-cj];have a9:=bc.c F7;have bw:=F7.c_ (aj.c_ o4);have ay:=F7.c_ o6;have FH:Fr [] h h8:=a9.c bE;have oa:=bE.c_ (F7.c_ (aj.c_ (F4.c_ (bV.c_ ct))));have oc:=bE.c_ (F7.c_ (aj.c_ (F4.c_ cn)));refine aC (fun n env hh=>Fr [] h7 hh/\∃(i:Nat)(vE:V)(E:List d_),env.c_ 7=some (ZZ i)/\env.c_ 1=some (.u h.i 0)/\env.c_ 2=some (.u h1.i 0)/\env.c_ 3=some (.u h2.i 0)/\env.c_ 4=some (.u h4.i 0)/\env.c_ 5=some vX/\env.c_ 6=some (.u h7.i 0)/\
  i<=X.length/\f_ hh h1.i [.j,ZZ 0]/\f_ hh h2.i [.j]/\f_ hh h7.i [vE]/\Gs hh h8.i 6 vE (E.flatMap d_.s)/\(∀e∈E,EOk Ks X e)/\(E.map d_.x).Sublist (X.take i)/\n=X.length-i) X.length oM ?_ ?_
 exact⟨bE,0,.j,[],iS,iS,iS,iS,iS,iS,iS,oM,oa,oc,cr,.inl ⟨rfl,rfl⟩,iS,iS,rfl⟩;rintro n env hh ⟨G,i,vE,E,g7,g1,g2,g3,g4,g5,g6,hi,oa,oc,oe,GE,a0,sub,rfl⟩;have a7:=il.a G;have len:=a7.e.M;have El:E.length<=i:=by have:=sub.length_le;simp at this;omega
 by_cases c1:i<X.length;let⟨bi,oi,x,p1,_,p3,p4⟩:=Yj aT a7.e .i64 (i:Int) oM oM;rw[pi]at p4;have xm:=Vg p4;have kl:aq hh h4.i 0 2=some [vK,ZZ 12]:=by rw[(G.c_ ay).J];rfl
 have a5:Fr [] h4 hh:=aj.c (F7.c G);simp only[a_,seval,g_,g7,g4,g5,len,(oM:(i:Int)<X.length),kl,p1,p3];apply aa (AB G.r (VJ rk a5) (fun q m=>(kh q m).fr a5) gk oM (a7.i x xm).H);rintro _ ha ⟨Fa,e,rfl,e0,he⟩;have Ga:=G.c Fa;have bo:aq ha h4.i 0 2=some [vK,ZZ 12]:=by rw[(Ga.c_ ay).J];rfl
 let⟨cz,cy,x',a1,_,cq,a4⟩:=Yj aT (il.a Ga).e .i64 (i:Int) oM oM;rw[pi,p4]at a4;cases a4;rw[p1]at a1;cases a1;by_cases c2:0<e;simp(disch:=omega) only[a_,seval,DF,g_,ah,g7,g4,kl,p3,eq_true c2];refine t_ ⟨X.length-(i+1),oM,Ga,i+1,vE,E,iS,iX,iX,iX,iX,iX,iX,oM,Fa.c_ oa,Fa.c_ oc,Fa.c_ oe,GE.fr Fa,a0,sub.trans (List.take_sublist_take_left oM),rfl⟩;simp only[a_,seval,DF,g_,g4,kl,p3,eq_false c2];let⟨bW,cl⟩:=he.1 oM;have ht:x.N<Ks.length:=by have:=bW;simp only[P0,Vd,decide_eq_true_eq]at this;exact this.2.1
 apply xT [⟨none,.a 2 true (.v 4),none⟩,⟨none,.p .o [.v 5],none⟩,⟨none,.p .o [.v 7],none⟩,⟨none,.p (.c 4) [.l 1,.l 0],none⟩,⟨none,.a 4 true (.l 0),none⟩,⟨none,.c 59 [.l 4,.l 0],none⟩] [⟨none,.g 6 (.l 0) (.l 1),none⟩] rfl;let⟨hb,ce,bT,cu⟩:=au Fa.r [ZX 0,ZY 0,.f [],.j,ZZ 0,.h false];have nb:=s_ ce;have na:=Ga.i;have it:∀{H},Fr [] h7 H->aq H bi oi 4=some x.s:=by intro H f;let⟨cz,cy,x',a1,_,cq,a4⟩:=Yj aT (il.a f).e .i64 (i:Int) oM oM;rw[pi,p4]at a4;cases a4;rw[p1]at a1;cases a1;exact cq
 have kk:∀{H},Fr [] h7 H->aq H h4.i 0 2=some [vK,ZZ 12]:=by intro H f;rw[(f.c_ ay).J];rfl
 have Gb:=Ga.c bT;simp only[a_,seval,g_,<-ce,g7,g4,g5,kk Gb,p1,it Gb];apply aa (qU bT.r (VJ rk (aj.c (F7.c Gb))) ((il.a Gb).i x xm).H ht);rintro _ hc ⟨rfl,Fc⟩;have Gc:=Gb.c Fc;simp only[a_,g_,mJ];refine ao (o:=0) (v:=.B (x.aG (aF Ks x) false)) (c':=x.aG (aF Ks x) false) Fc.r (Fc.c_ cu) rfl (by show aw (x.s++[_,_])=true;rw[aO,((il.a Gb).i x xm).H.O];rfl) rfl ?_;rintro hd od Fd nd;have nc:=Fc.i;have bC:=oe.lt G.r;have nG:=Fa.i;have ar:Fr [] ha hd:=(bT.c Fc).y Fd Fa.r oM;have Gd:=Ga.c ar;have bv:=ar.c_ (Fa.c_ oe);have le:=bv.o 0;have Ed:=YT (n:=E.length) (GE.fr (Fa.c ar)) (aG aK E) oM;have bm:=Gd.c_ bw;have lH:=bm.o 1;have bf:=aH.fr (a9.c Gd);simp only[a_,seval,DF,g1,g4,g6,kk Gb,it Gb,le,Ed.A_,lH,bf.A_];by_cases c3:E.length<H.length;let⟨bh,oh,ac,q1,q2,_,co⟩:=bf.ix (f:=b8) (k:=1) (fun _=>rfl) .i64 (E.length:Int) oM oM;rw[pi]at co;have bB:=hH ac (Vg co);have q3:ag hd bh oh=some (ZY (ac:Int)):=q2 0 oM;by_cases c4:0<(ac:Int);simp(disch:=omega) only[a_,seval,eq_true (oM:(E.length:Int)<H.length),g1,q1,q3,eq_true c4,lH,vO ac 40 40 rfl dI,ah];apply u_ Fd.r od;rintro bD bj Fe ne;simp only[a_,seval];apply u_ Fe.r bj;rintro hf bn Ff nf;simp only[a_,seval,g6];have K:=((ar.y Fe Fa.r oM).y Ff Fa.r oM);have ax:=K.c_ (Fa.c_ oe);have a2:aq hf ha.i 0 6=some (d_.s ⟨x,1+((ac%40:Nat):Int),true⟩):=by rw[(bn).J];rfl
 have u1:bq [ZX 0,ZY 0,.f [],.j,ZZ 0,.h false] 0 (d_.s ⟨x,1+((ac%40:Nat):Int),true⟩)=some (d_.s ⟨x,1+((ac%40:Nat):Int),true⟩):=rfl;have on:aw (d_.s ⟨x,1+((ac%40:Nat):Int),true⟩)=true:=by show aw (x.s++[_,_])=true;rw[aO,((il.a Gb).i x xm).H.O];rfl
 obtain⟨hx,ab⟩:∃hx,hx=k_ hf (d_.s ⟨x,1+((ac%40:Nat):Int),true⟩):=⟨_,rfl⟩;have Z:Fr [] hf hx:=ab▸VL K.r _;have ak:f_ hx hf.i (d_.s ⟨x,1+((ac%40:Nat):Int),true⟩):=ab▸Wi K.r _;simp only[a_,seval,ax.o 0,a2,u1,(iR:(d_.s ⟨x,1+((ac%40:Nat):Int),true⟩).length=6),<-ab];have an:=GE.vb;have nH:=((Fa.c K).c Z).i;have a6:=(oe.lt G.r);have a3:h8.i<=hx.i:=oM;refine WY (bytes:=72) (n:=1) Z.r (GE.fr ((Fa.c K).c Z)) (Wy ak rfl) oM oM on a3 (by rw[aG aK E];omega) ?_;intro af hy Gy ey Fy;have tk:∀{B:Nat}{cs:List V},f_ hh B cs->B<h8.i->f_ hy B cs:=fun o l=>Fy.D _ _ (fun m=>by have:=an _ m;omega) (((Fa.c K).c Z).c_ o);have ae:af.O=true:=by obtain⟨rfl,_⟩|⟨b,n,rfl,_⟩:=Gy<;>rfl
 simp only[a_,seval,g6];refine ao (c':=[af]) Fy.r (tk oe oM) (by rw[az ae];rfl) (by rw[az ae];simp only[aA,aD,ae];rfl) (by rw[az ae];rfl) ?_;rintro hz oz Fz nz;have FN:Fr [] h7 hz:=(Ww F7.r (G.c ((Fa.c K).c Z)) Fy (fun y hy=>by have:=an _ hy;omega)).y Fz F7.r oM;have eq:(E++[(⟨x,1+((ac%40:Nat):Int),true⟩:d_)]).flatMap d_.s=E.flatMap d_.s++d_.s ⟨x,1+((ac%40:Nat):Int),true⟩:=by simp
 simp(disch:=omega) only[a_,seval,ah,g7];refine t_ ⟨X.length-(i+1),oM,FN,i+1,af,E++[⟨x,1+((ac%40:Nat):Int),true⟩],iS,iX,iX,iX,iX,iX,iX,oM,Fz.D _ _ oO (tk oa oM),Fz.D _ _ oO (tk oc oM),oz,by rw[eq];exact Gy.ai Fz oO,?_,?_,rfl⟩;intro e' m;obtain m|m:=Vc.1 m;exact a0 e' m;rw[Vu.1 m];exact⟨xm,by rw[<-lk];exact bW,cl,fun z=>(by cases z),fun _=>⟨by show(1:Int)<=1+((ac%40:Nat):Int);omega,by show 1+((ac%40:Nat):Int)<=40;omega⟩⟩;rw[VF,Vs,p4];exact sub.append (Xp _);simp only[a_,seval,eq_true (oM:(E.length:Int)<H.length),g6,q1,q3,eq_false c4];have K:=ar;have ax:=K.c_ (Fa.c_ oe);have a2:aq hd ha.i 0 6=some (d_.s ⟨x,aF Ks x,false⟩):=by rw[(od).J];rfl
 have u1:bq [ZX 0,ZY 0,.f [],.j,ZZ 0,.h false] 0 (d_.s ⟨x,aF Ks x,false⟩)=some (d_.s ⟨x,aF Ks x,false⟩):=rfl;have on:aw (d_.s ⟨x,aF Ks x,false⟩)=true:=by show aw (x.s++[_,_])=true;rw[aO,((il.a Gb).i x xm).H.O];rfl
 obtain⟨hx,ab⟩:∃hx,hx=k_ hd (d_.s ⟨x,aF Ks x,false⟩):=⟨_,rfl⟩;have Z:Fr [] hd hx:=ab▸VL K.r _;have ak:f_ hx hd.i (d_.s ⟨x,aF Ks x,false⟩):=ab▸Wi K.r _;simp only[a_,seval,ax.o 0,a2,u1,(iR:(d_.s ⟨x,aF Ks x,false⟩).length=6),<-ab];have an:=GE.vb;have nH:=((Fa.c K).c Z).i;have a6:=(oe.lt G.r);have a3:h8.i<=hx.i:=oM;refine WY (bytes:=72) (n:=1) Z.r (GE.fr ((Fa.c K).c Z)) (Wy ak rfl) oM oM on a3 (by rw[aG aK E];omega) ?_;intro af hy Gy ey Fy;have tk:∀{B:Nat}{cs:List V},f_ hh B cs->B<h8.i->f_ hy B cs:=fun o l=>Fy.D _ _ (fun m=>by have:=an _ m;omega) (((Fa.c K).c Z).c_ o);have ae:af.O=true:=by obtain⟨rfl,_⟩|⟨b,n,rfl,_⟩:=Gy<;>rfl
 simp only[a_,seval,g6];refine ao (c':=[af]) Fy.r (tk oe oM) (by rw[az ae];rfl) (by rw[az ae];simp only[aA,aD,ae];rfl) (by rw[az ae];rfl) ?_;rintro hz oz Fz nz;have FN:Fr [] h7 hz:=(Ww F7.r (G.c ((Fa.c K).c Z)) Fy (fun y hy=>by have:=an _ hy;omega)).y Fz F7.r oM;have eq:(E++[(⟨x,aF Ks x,false⟩:d_)]).flatMap d_.s=E.flatMap d_.s++d_.s ⟨x,aF Ks x,false⟩:=by simp
 simp(disch:=omega) only[a_,seval,ah,g7];refine t_ ⟨X.length-(i+1),oM,FN,i+1,af,E++[⟨x,aF Ks x,false⟩],iS,iX,iX,iX,iX,iX,iX,oM,Fz.D _ _ oO (tk oa oM),Fz.D _ _ oO (tk oc oM),oz,by rw[eq];exact Gy.ai Fz oO,?_,?_,rfl⟩;intro e' m;obtain m|m:=Vc.1 m;exact a0 e' m;rw[Vu.1 m];exact⟨xm,by rw[<-lk];exact bW,cl,fun _=>rfl,fun z=>by cases z⟩;rw[VF,Vs,p4];exact sub.append (Xp _);simp only[a_,seval,eq_false (oM:¬(E.length:Int)<H.length),g6];have K:=ar;have ax:=K.c_ (Fa.c_ oe);have a2:aq hd ha.i 0 6=some (d_.s ⟨x,aF Ks x,false⟩):=by rw[(od).J];rfl
 have u1:bq [ZX 0,ZY 0,.f [],.j,ZZ 0,.h false] 0 (d_.s ⟨x,aF Ks x,false⟩)=some (d_.s ⟨x,aF Ks x,false⟩):=rfl;have on:aw (d_.s ⟨x,aF Ks x,false⟩)=true:=by show aw (x.s++[_,_])=true;rw[aO,((il.a Gb).i x xm).H.O];rfl
 obtain⟨hx,ab⟩:∃hx,hx=k_ hd (d_.s ⟨x,aF Ks x,false⟩):=⟨_,rfl⟩;have Z:Fr [] hd hx:=ab▸VL K.r _;have ak:f_ hx hd.i (d_.s ⟨x,aF Ks x,false⟩):=ab▸Wi K.r _;simp only[a_,seval,ax.o 0,a2,u1,(iR:(d_.s ⟨x,aF Ks x,false⟩).length=6),<-ab];have an:=GE.vb;have nH:=((Fa.c K).c Z).i;have a6:=(oe.lt G.r);have a3:h8.i<=hx.i:=oM;refine WY (bytes:=72) (n:=1) Z.r (GE.fr ((Fa.c K).c Z)) (Wy ak rfl) oM oM on a3 (by rw[aG aK E];omega) ?_;intro af hy Gy ey Fy;have tk:∀{B:Nat}{cs:List V},f_ hh B cs->B<h8.i->f_ hy B cs:=fun o l=>Fy.D _ _ (fun m=>by have:=an _ m;omega) (((Fa.c K).c Z).c_ o);have ae:af.O=true:=by obtain⟨rfl,_⟩|⟨b,n,rfl,_⟩:=Gy<;>rfl
 simp only[a_,seval,g6];refine ao (c':=[af]) Fy.r (tk oe oM) (by rw[az ae];rfl) (by rw[az ae];simp only[aA,aD,ae];rfl) (by rw[az ae];rfl) ?_;rintro hz oz Fz nz;have FN:Fr [] h7 hz:=(Ww F7.r (G.c ((Fa.c K).c Z)) Fy (fun y hy=>by have:=an _ hy;omega)).y Fz F7.r oM;have eq:(E++[(⟨x,aF Ks x,false⟩:d_)]).flatMap d_.s=E.flatMap d_.s++d_.s ⟨x,aF Ks x,false⟩:=by simp
 simp(disch:=omega) only[a_,seval,ah,g7];refine t_ ⟨X.length-(i+1),oM,FN,i+1,af,E++[⟨x,aF Ks x,false⟩],iS,iX,iX,iX,iX,iX,iX,oM,Fz.D _ _ oO (tk oa oM),Fz.D _ _ oO (tk oc oM),oz,by rw[eq];exact Gy.ai Fz oO,?_,?_,rfl⟩;intro e' m;obtain m|m:=Vc.1 m;exact a0 e' m;rw[Vu.1 m];exact⟨xm,by rw[<-lk];exact bW,cl,fun _=>rfl,fun z=>by cases z⟩;rw[VF,Vs,p4];exact sub.append (Xp _);have kl:aq hh h4.i 0 2=some [vK,ZZ 12]:=by rw[(G.c_ ay).J];rfl
 have le:aq hh h7.i 0 1=some [vE]:=by rw[oe.J];rfl
 have bA:vE.O=true:=by obtain⟨rfl,_⟩|⟨b,n,rfl,_⟩:=GE<;>rfl
 have a5:Fr [] h4 hh:=aj.c (F7.c G);have nG:=G.i;simp only[a_,seval,g_,g7,g2,g4,g5,g6,len,(oM:¬(i:Int)<X.length),kl,le];refine ao (o:=0) (v:=.B [vK,ZZ 12]) (c':=[vK,ZZ 12]) G.r oa rfl (by show aw [_,_]=true;simp only[aA,aD,v1];rfl) rfl ?_;rintro ha xa Fa na;have bo:aq ha h4.i 0 2=some [vK,ZZ 12]:=by rw[(Fa.D _ _ oO (G.c_ ay)).J];rfl
 have bp:=Fa.D _ _ oO oe;have bt:aq ha h7.i 0 1=some [vE]:=by rw[bp.J];rfl
 simp only[a_,seval,g_,g3];refine ao (o:=0) (v:=.B [vE]) (c':=[vE]) Fa.r (Fa.D _ _ oO oc) rfl (by show aw [_]=true;simp only[aA,aD,bA];rfl) rfl ?_;rintro hz xz Fz nz;have r1:aq hz h1.i 0 2=some [vK,ZZ 12]:=by rw[(Fz.D _ _ oO xa).J];rfl
 have r2:aq hz h2.i 0 1=some [vE]:=by rw[xz.J];rfl
 simp only[a_,seval,DF,g2,g3,g4,g6,kl,le,bt,r1,r2];have ba:Fr [h1.i] h4 ha:=Vn a5 Fa F4.r iS (fun x m=>.inl m);have bg:Fr [h1.i,h2.i] h4 hz:=Vn ba Fz F4.r iS (fun x m=>.inl (by simp at m|-;exact .inr m));let⟨rz,kz⟩:=bk _ hz oO bg;have FN:Fr [] h hz:=((a9.c G).y Fa w oM).y Fz w oM;have bz:=((il.a G).c Fa oO).c Fz oO;have Gz:=((GE.ai Fa oO).ai Fz oO).le (C:=h.i) oM;refine⟨FN,vK,Ks,vX,X,vE,E,rfl,rz,kz,gk,br,lk,bz.f oM,Gz,a0,?_,oM⟩;have:=(sub.trans (XG _ _)).map e_.A;rw[VW]at this;exact this.nodup il.n
def R1(m:Nat->Option Nat)(E:List d_):Prop:=∀k j,m k=some j↔∃e,E[j]? =some e/\e.x.A=k
def V0(E:List d_):Prop:=∀e∈E,1<=e.b/\e.b<=2305843009213693952
theorem V0.a:∀{E:List d_},V0 E->0<=(E.map d_.b).sum
 |[],_=>by simp
 |e::E,h=>by have h1:=h e iS;have h2:=V0.a (E:=E) fun x m=>h x iX;simp only[VT,Xb];omega
theorem V0.c{E:List d_}(h:V0 E)(i:Nat):V0 (E.take i):=fun e m=>h e (Wl m)
theorem V0.e{E:List d_}(h:V0 E)(i:Nat):V0 (E.drop i):=fun e m=>h e (VU m)
theorem V0.d{E:List d_}(i:Nat):(E.map d_.b).sum=((E.take i).map d_.b).sum+((E.drop i).map d_.b).sum:=by rw[<-XF,<-VF,VA]
theorem pB{E:List d_}{i:Nat}{e:d_}(h:E[i]? =some e):((E.take (i+1)).map d_.b).sum=((E.take i).map d_.b).sum+e.b:=by rw[Vs,h];simp
theorem E7{h:b_}{v:V}{E:List d_}(a:o_ d_.s 6 h v E)(hE:E.length<=4096)(ok:V0 E):
 av go 190 [v] h fun u h'=>h=h'/\∃t:Int,u=ZZ t/\(4611686018427387904<t↔4611686018427387904<(E.map d_.b).sum):=by
 refine ai ?_;simp[a_];refine aC (fun n env hh=>h=hh/\∃i:Nat,env.c_ 4=some (ZZ i)/\env.c_ 3=some (ZX ((E.take i).map d_.b).sum)/\env.c_ 0=some v/\i<=E.length/\((E.take i).map d_.b).sum<=4611686018427387904/\n=E.length-i) E.length oM ?_ ?_;exact⟨rfl,0,iS,iS,iS,oM,iS,rfl⟩;rintro n env hh ⟨rfl,i,Z,g3,K,hi,hs,rfl⟩;have nn:=(ok.c i).a;by_cases c:i<E.length;let⟨b,o,e,p1,p2,_,p4⟩:=a.ix aK .i64 (i:Int) oM oM;rw[pi]at p4;have b4:ag h b (o+4)=some (ZZ e.b):=p2 4 oM;have ob:=ok e (Vg p4);have ts:=pB p4;have c1:bF .u64 e.b=e.b:=bY _ oM oM;have c2:bF .u64 (((E.take i).map d_.b).sum+e.b)=((E.take (i+1)).map d_.b).sum:=by rw[bY _ oM oM,ts]
 by_cases c3:4611686018427387904<((E.take (i+1)).map d_.b).sum;simp only[a_,seval,Z,g3,K,a.M,(oM:(i:Int)<E.length),p1,b4,eq_true (oM:(0:Int)<e.b),c1,c2,eq_true c3];refine⟨_,rfl,?_⟩;have:=(ok.e (i+1)).a;have:=V0.d (E:=E) (i+1);omega;simp(disch:=omega) only[a_,seval,ah,Z,g3,K,a.M,(oM:(i:Int)<E.length),p1,b4,eq_true (oM:(0:Int)<e.b),c1,c2,eq_false c3];refine t_ ⟨E.length-(i+1),oM,rfl,i+1,iS,iS,iX,oM,oM,rfl⟩;rw[Vm oM]at hs g3 nn;have c1:bF .i64 (E.map d_.b).sum=(E.map d_.b).sum:=ah _ oM oM;simp only[a_,seval,Z,g3,K,a.M,(oM:¬(i:Int)<E.length),c1];exact⟨_,rfl,Xf⟩
theorem A6{h:b_}{v:V}{E:List d_}(a:o_ d_.s 6 h v E)(Z:E.length<=4096)(ok:V0 E):
 av go 117 [v] h fun u h'=>h=h'/\u=ZZ (if 4611686018427387904<(E.map d_.b).sum then 13 else 0):=by
 refine ai ?_;simp[a_];refine aa (E7 a Z ok) ?_;rintro _ _ ⟨rfl,t,rfl,ht⟩;by_cases c:4611686018427387904<(E.map d_.b).sum;simp[a_,eq_true (ht.2 c),c];simp[a_,eq_false (fun x=>c (ht.1 x)),c]
theorem wc:∀(d:List V)(o:Nat),bq d o []=some d
 |[],o=>jB o
 |x::l,0=>dQ x l
 |x::l,o+1=>by rw[bM,wc l o];rfl
theorem mt(d:List V):∀(c:List V)(o:Nat)(vs c':List V),bq c o vs=some c'->bq (c++d) o vs=some (c'++d)
 |[],o,[],c',e=>by rw[jB]at e;cases e;exact wc d o
 |[],o,v::vs,c',e=>by rw[ny]at e;cases e
 |x::l,0,[],c',e=>by rw[dQ]at e;cases e;rfl
 |x::l,0,v::vs,c',e=>by
  rw[aY]at e;cases q:bq l 0 vs with
  |none=>rw[q]at e;cases e
  |some r=>rw[q]at e;cases e;rw[Wq,aY,mt d l 0 vs r q];rfl
 |x::l,o+1,vs,c',e=>by
  rw[bM]at e;cases q:bq l o vs with
  |none=>rw[q]at e;cases e
  |some r=>rw[q]at e;cases e;rw[Wq,bM,mt d l o vs r q];rfl
theorem nU(d:List V)(o:Nat)(vs d':List V)(e:bq d o vs=some d'):∀(c:List V),bq (c++d) (c.length+o) vs=some (c++d')
 |[]=>by simpa using e
 |x::l=>by rw[Wq,Vy,(oM:l.length+1+o=(l.length+o)+1),bM,nU d o vs d' e l];rfl
theorem qV{α:Type}{f:α->List V}{k:Nat}(hf:∀x,(f x).length=k){y:α}{o:Nat}{vs:List V}:∀(L:List α)(i:Nat)(x:α),L[i]? =some x->bq (f x) o vs=some (f y)->bq (L.flatMap f) (i*k+o) vs=some ((L.set i y).flatMap f)
 |z::L,0,x,h,e=>by simp at h;subst h;rw[VM,YO,VR,XQ,VM];exact mt _ _ _ _ _ e
 |z::L,i+1,x,h,e=>by rw[VM,List.set_cons_succ,VM,show(i+1) *k+o=(f z).length+(i*k+o) by rw[hf,Xy];omega];exact nU _ _ _ _ (qV hf L i x (eV h) e) _
theorem _root_.Go.Ev.Gs.u{h:b_}{B e:Nat}{v:V}{n:Nat}(g:Gs h B e v cs)(hn:cs.length=n*e)(K:0<e){i:Nat}(hi:i<n):∃b,vb v=[b]/\B<=b/\f_ h b cs/\(∀k,aP (.c e) [v,.C k (i:Int)]=some (.u b (i*e)))/\∀h' c',f_ h' b c'->c'.length=cs.length->Gs h' B e v c':=by obtain⟨rfl,rfl⟩|⟨b,m,rfl,h1,h2,Z,o⟩:=g;have h0:0=n*e:=hn;have:=YX (oM:0<n) K;omega;have:m=n:=Nat.eq_of_mul_eq_mul_right K oM;subst this;refine⟨b,rfl,Z,o,fun k=>?_,fun h' c' o' hl=>.inr ⟨b,m,rfl,oM,h2,Z,o'⟩⟩;rw[lZ _ _ _ _ _ _ _ oM oM];simp
theorem dF{h:b_}{e:d_}(a:q_ h e.x):aw e.s=true:=by show aw (e.x.s++[_,_])=true;rw[aO,a.O];rfl
theorem R1.W2{m:Nat->Option Nat}{E E':List d_}(ix:R1 m E)(e:E'.map d_.x=E.map d_.x):R1 m E':=by intro k j;rw[ix k j];have:=congrArg (fun l=>l[j]?) e;simp at this;constructor;grind;grind
def e_.Y(x:e_):Nat×Nat×i_×List i_:=(x.A,x.N,x.U,x.E)
def d_.Y(e:d_):(Nat×Nat×i_×List i_)×Int×Bool:=(e.x.Y,e.b,e.kn)
theorem e_.bi{x y:e_}(e:x.Y=y.Y):x.A=y.A/\x.N=y.N/\x.U=y.U/\x.E=y.E:=by simp[e_.Y]at e;exact e
def E0:List V:=[ZX 0,ZY 0,.f [],.j,ZZ 0,.h false]
theorem AN{Z:List d_}{z:d_}{n i:Nat}(K:Z.length=i)(hi:i<n):bq (Z.flatMap d_.s++aW E0 (n-i)) (i*6) z.s=some ((Z++[z]).flatMap d_.s++aW E0 (n-(i+1))):=by
 have l:(Z.flatMap d_.s).length=i*6:=by rw[aG aK,K]
 rw[(oM:n-i=n-(i+1)+1),fG,<-l,<-Xm (Z.flatMap d_.s).length,nU (E0++aW E0 (n-(i+1))) 0 z.s (z.s++aW E0 (n-(i+1))) (mt _ _ _ _ _ rfl),Wx];simp
theorem P3.kl{h:b_}{b:Nat}{l:List Int}{ks bs:List Bool}(a:P3 h b pm l ks bs):ks.length=l.length/\P2 l:=by let⟨p,Z,o,K,ix,mk,e⟩:=a;exact⟨ix.A_.1,ix.cb⟩
def X5(N:Nat)(h:b_)(v:V)(Z:List d_):Prop:=(Z=[]/\v=.j)\/∃b,v=.z b 0 Z.length Z.length/\N<=b/\f_ h b (Z.flatMap d_.s)/\∀z∈Z,T8 (b+1) h z.x.vm z.x.E
theorem T8.le{N M:Nat}{h:b_}{v:V}{L:List (List UInt8)}(a:T8 N h v L)(l:M<=N):T8 M h v L:=by obtain⟨e,rfl|⟨b,rfl,Z,o⟩⟩|⟨b,e,Z,o⟩:=a;exact .inl ⟨e,.inl rfl⟩;exact .inl ⟨e,.inr ⟨b,rfl,oM,o⟩⟩;exact .inr ⟨b,e,oM,o⟩
theorem X5.rs{N:Nat}{h:b_}{v:V}{Z:List d_}(a:X5 N h v Z):o_ d_.s 6 h v Z:=by obtain⟨rfl,rfl⟩|⟨b,rfl,_,o,_⟩:=a;exact Yo;exact Wy o (aG aK Z)
def SE(N:Nat)(Ks:List w_)(h:b_)(b:Nat)(E:List d_):Prop:=
 ∃n0 K X st vK bg B bm S bl pm mc,H_ n0 h b K 12 X (E.map d_.b) (E.map d_.kn) st vK bg B bm S bl pm mc/\cK Ks K/\X.map e_.Y=E.map (fun e=>e.x.Y)/\(∀x∈X,nZ x.vm=true)/\R1 mc.1 E/\mc.2<=1024/\(∀y∈Wr b bg B bm S bl pm,N<=y)/\N<=n0.1
theorem SE.fr{N:Nat}{h:b_}{b:Nat}{E:List d_}(w:WF h)(s:SE N Ks h b E)(f:Fr [] h h'):SE N Ks h' b E:=by let⟨n0,K,X,st,vK,Z,B,bm,S,bl,pm,mc,s,r⟩:=s;exact⟨n0,K,X,st,vK,Z,B,bm,S,bl,pm,mc,s.fr w f,r⟩
def SA(Ks:List w_)(h:b_)(b:Nat)(E:List d_):Prop:=
 ∃n0 K X st vK bg B bm S bl pm mc,H_ n0 h b K 12 X (E.map d_.b) (E.map d_.kn) st vK bg B bm S bl pm mc/\cK Ks K/\X.map e_.Y=E.map (fun e=>e.x.Y)/\(∀x∈X,nZ x.vm=true)/\R1 mc.1 E
theorem SE.a{N:Nat}{h:b_}{b:Nat}{E:List d_}(s:SE N Ks h b E):SA Ks h b E:=by let⟨n0,K,X,st,vK,bg,B,bm,S,bl,pm,mc,s,r1,r2,r3,Z,_⟩:=s;exact⟨n0,K,X,st,vK,bg,B,bm,S,bl,pm,mc,s,r1,r2,r3,Z⟩
theorem qO(x:e_):∀{a b:PT},PT.W2 a b->cH x a=cH x b
 |.z_,.z_,_=>rfl
 |.p_ _ _ _ _ _ _ _ s n,.p_ _ _ _ _ _ _ _ s' n',⟨h1,h2,h3,h4,h5,h6,h7⟩=>by subst h1 h2 h3 h4 h5;simp[cH,qO x h6,qO x h7]
 |.z_,.p_ _ _ _ _ _ _ _ _ _,h=>h.elim
 |.p_ _ _ _ _ _ _ _ _ _,.z_,h=>h.elim
theorem qI(h:cK Ks K)(cap:Int)(x:e_):bP K cap x=bP Ks cap x:=by
 unfold bP;cases e:Ks[x.N]? with
 |none=>
  have:K[x.N]? =none:=by rw[List.getElem?_eq_none_iff]at e|-;rw[<-eg h];exact e
  rw[this]
 |some q=>let⟨p,e2,s⟩:=ou h e;rw[e2];let⟨h1,h2,h3,h4,h5,_,_,_,Z⟩:=s;simp[fL,h1,h2,h3,h4,h5,PT.ZP _ _ _ _ _ Z,qO x Z]
theorem AC{p:Nat->Bool}:∀{seen:List Nat}{Y:List e_},(∀y∈Y,P0 y K.length=true/\bP K cap y=0/\p y.A=false/\y.A∉seen)->(Y.map e_.A).Nodup->dZ K cap p seen Y=0
 |_,[],_,_=>rfl
 |seen,y::Y,h,n=>by let⟨h1,h2,h3,h4⟩:=h y iS;rw[VT,List.nodup_cons]at n;simp only[dZ];rw[h1,if_neg dI,if_neg iX,if_neg iX];refine AC (fun z m=>?_) n.2;let⟨g1,g2,g3,g4⟩:=h z iX;refine⟨g1,g2,g3,fun c=>?_⟩;obtain c|c:=Vc.1 c;exact g4 c;grind
theorem qD:∀{L:List Int}{t:Int},(∀x∈L,1<=x/\x<=40)->t+40*L.length<=4611686018427387904->yf t L=0
 |[],_,_,_=>rfl
 |x::L,t,h,c=>by have:=h x iS;rw[Vy]at c;simp only[yf];rw[if_neg oM,if_neg oM];exact qD (fun y m=>h y iX) oM
theorem jW:∀{L:List Int},(∀x∈L,1<=x/\x<=40)->0<=L.sum/\L.sum<=40*L.length
 |[],_=>by simp
 |x::L,h=>by have:=h x iS;have:=jW (L:=L) fun y m=>h y iX;simp only[Xb,Vy];omega
theorem wa{L:List Int}(h:∀x∈L,1<=x/\x<=40)(Z:L.length<=1000):cC [] 0 L=0:=by have:=jW h;unfold cC;rw[if_pos iS,if_neg oO,if_pos (qD h oM),if_neg oO]
theorem tW:∀(X:List e_)(mc:cJ)(i:Nat),(X.map e_.A).Nodup->∀k j,(dS mc X i).1 k=some j↔(∃n x,X[n]? =some x/\x.A=k/\j=i+n)\/((∀x∈X,x.A≠k)/\mc.1 k=some j)
 |[],mc,i,_,k,j=>by simp[dS]
 |x::r,mc,i,nd,k,j=>by
  rw[VT,List.nodup_cons]at nd;have ih:=tW r (np mc x.A i) (i+1) nd.2 k j;simp only[dS];rw[ih];have ms:(np mc x.A i).1 k=if k=x.A then some i else mc.1 k:=by simp only[np,kW]
  rw[ms];constructor;rintro(⟨n,y,K,Z,h3⟩|⟨K,Z⟩);exact .inl ⟨n+1,y,by simpa using K,Z,oM⟩;by_cases c:k=x.A;rw[if_pos c]at Z;exact .inl ⟨0,x,rfl,c.symm,by cases Z;rfl⟩;grind;grind
theorem tY:∀(X:List e_)(mc:cJ)(i:Nat),(dS mc X i).2<=mc.2+X.length
 |[],_,_=>Ve _
 |x::r,mc,i=>by
  have:=tY r (np mc x.A i) (i+1);have h2:(np mc x.A i).2<=mc.2+1:=by simp only[np];split<;>omega
  simp only[dS,Vy];omega
def d_.ht(e:d_):Nat×Int:=(e.x.A,e.b)
theorem wQ{m:Nat->Option Nat}{E:List d_}{bs:d_->Int}(ix:R1 m E)(hb:∀e∈E,1<=bs e/\bs e<=40)(h0:∀e∈E,e.kn=false->e.b=bs e)(h1:∀e∈E,e.kn=true->1<=e.b/\e.b<=40)(hl:E.length<=1000):
 ∀(n i c:Nat),i+n=E.length->∃c',j7 m (((E.drop i).filter d_.kn).map d_.ht) c ((E.take i).map d_.b++(E.drop i).map bs) ((E.take i).map d_.kn++List.replicate n false)=(0,c',E.map d_.b,E.map d_.kn)
 |0,i,c,e=>by rw[Vq oM,Vm oM];exact⟨c,by simp[j7]⟩
 |n+1,i,c,hi=>by
  have il:i<E.length:=oM;have p:E[i]? =some E[i]:=Vp il;generalize E[i]=e at p;have em:=Vg p;have lb:((E.take i).map d_.b++(E.drop i).map bs).length=E.length:=by simp;omega
  have ih:=fun c=>wQ ix hb h0 h1 hl n (i+1) c oM;have tk:((E.take i).map d_.b).length=i:=by simp;omega
  have ab:((E.take i).map d_.kn).length=i:=by simp;omega
  rw[aN p];cases Z:e.kn with
  |false=>let⟨c',r⟩:=ih c;refine⟨c',?_⟩;rw[List.filter_cons_of_neg iX];rw[Vs,p]at r;simp only[Yq,VF,VT,Xz,VN,List.singleton_append,Z,h0 e em Z]at r;rw[VT,WX];exact r
  |true=>
   let⟨c',r⟩:=ih (c+1);refine⟨c',?_⟩;rw[List.filter_cons_of_pos iX,VT,VT,WX];have mk:m e.x.A=some i:=(ix _ i).2 ⟨e,p,rfl⟩;have all:∀x∈(E.take i).map d_.b++bs e::(E.drop (i+1)).map bs,1<=x/\x<=40:=by grind
   have sl:=jW all;have K:((E.take i).map d_.b++bs e::(E.drop (i+1)).map bs).length=E.length:=by simp;omega
   have g:((E.take i).map d_.b++bs e::(E.drop (i+1)).map bs).getD i 0=bs e:=by grind
   have hx:fF ((E.take i).map d_.b++bs e::(E.drop (i+1)).map bs) i e.b=0:=by have b1:=h1 e em Z;have b2:=hb e em;unfold fF;rw[if_pos ⟨oM,by rw[K];omega⟩,if_neg oM,pi,g,if_neg (by rw[K]at sl;omega)]
   have s1:((E.take i).map d_.b++bs e::(E.drop (i+1)).map bs).set i e.b=(E.take i).map d_.b++e.b::(E.drop (i+1)).map bs:=by grind
   have s2:((E.take i).map d_.kn++false::List.replicate n false).set i true=(E.take i).map d_.kn++true::List.replicate n false:=by grind
   rw[Vs,p]at r;simp only[Yq,VF,VT,Xz,VN,List.singleton_append,Z]at r;simp only[j7,d_.ht,mk,hx,if_pos,s1,s2];exact r
theorem OT(q i:Nat)(Z:i<5):aP (.c 2) [.z q 0 5 5,ZZ (i:Int)]=some (.u q (i*2)):=by have:i=0\/i=1\/i=2\/i=3\/i=4:=oM;obtain rfl|rfl|rfl|rfl|rfl:=this<;>simp[aP]<;>exact⟨_,rfl,rfl⟩
def Ie(b:Nat):List V:=[ZY 1,.I (.func 46) [.u b 0] [],ZY 2,.I (.func 47) [.u b 0] [],ZY 3,.I (.func 48) [.u b 0] [],ZY 4,.I (.func 49) [.u b 0] [],ZY 5,.I (.func 50) [.u b 0] []]
theorem wx{h:b_}{b B S k n:Nat}{a c t:Int}{X:List e_}{l:List Int}{kn:List Bool}{v:V}{mc:cJ}{R:V->b_->Prop}(w:WF h)(s:H_ n0 h b Ks cap X l kn st vK bg B bm S bl pm mc)
 (hk:k<256) (sl:T5 h 4 v n cs) (hE:∀h',dG k a c t n≠0->Fr [] h h'->R (ZZ (dG k a c t n)) h') (hD:dG k a c t n=0->∀h',Fr [] h h'->av go (45+k) [.u b 0,.B [ZY (k:Int),ZZ a,ZZ c,ZZ t,v]] h' R):
 av go 9 [.u b 0,.B [ZY (k:Int),ZZ a,ZZ c,ZZ t,v]] h R:=by
 have v1:v.O=true:=Yu sl;let⟨h1,a3,ay,a0⟩:=au w [ZY (k:Int),ZZ a,ZZ c,ZZ t,v];have s1:=s.fr w ay;have l5:aq h1 h.i 0 5=some [ZY (k:Int),ZZ a,ZZ c,ZZ t,v]:=by rw[a0.J];rfl
 refine ai ?_;simp[a_,<-a3];refine aa (jm s1) ?_;rintro _ _ ⟨rfl,rfl⟩;simp[a_,l5];apply aa (wN ay.r hk (sl.fr ay));rintro _ h2 ⟨rfl,F2⟩;have af:=ay.c F2;by_cases c0:dG k a c t n=0;have kk:1<=k/\k<=5:=by unfold dG at c0;split at c0;cases c0;omega
 simp only[a_,↓reduceIte,Nat.reduceEqDiff,Nat.reduceLT,c0];obtain⟨h3,Z⟩:∃h3,h3=k_ h2 (Ie b):=⟨_,rfl⟩;have K:Fr [] h2 h3:=Z▸VL F2.r _;have o3:f_ h3 h2.i (Ie b):=Z▸Wi F2.r _;change W _ _ _ (k_ h2 (Ie b)) _;rw[<-Z];have n3:=s_ Z;have row:∀hh,Fr [] h3 hh->∀i,i<5->aq hh h2.i (i*2) 2=some [ZY ((i+1:Nat):Int),.I (.func (46+i)) [.u b 0] []]:=by intro hh f i hi;have:i=0\/i=1\/i=2\/i=3\/i=4:=oM;rw[(f.c_ o3).J];obtain rfl|rfl|rfl|rfl|rfl:=this<;>rfl
 refine aC (fun n env hh=>Fr [] h3 hh/\∃(i:Nat),env.c_ 32=some (ZZ i)/\env.c_ 31=some (ZZ (5:Nat))/\env.c_ 30=some (.z h2.i 0 5 5)/\env.c_ 0=some (.u b 0)/\env.c_ 3=some (.u h.i 0)/\i<k/\n=5-i) 5 oM ?_ ?_;exact⟨Vk K.r,0,iS,iS,iS,iS,iS,oM,rfl⟩;rintro n env hh ⟨F,i,ak,ar,an,g0,g3,hi,rfl⟩;have aj:i<5:=oM;have ae:(i:Int)<(5:Nat):=oM;have p1:=OT h2.i i aj;have p3:=row hh F i aj;let⟨h4,a1,aH,a2⟩:=au F.r [ZY 0,.R];simp only[a_,↓reduceIte,Nat.reduceEqDiff,ak,ar,an,ae,p1,p3,<-a1];apply u_ aH.r a2;rintro h5 o5 F5 n5;have ac:Fr [] hh h5:=aH.y F5 F.r (Ve _);have x0:ag h5 hh.i 0=some (ZY ((i+1:Nat):Int)):=o5.o 0;have x1:ag h5 hh.i 1=some (.I (.func (46+i)) [.u b 0] []):=o5.o 1;have Fa:=((af.c K).c F).c ac;have on:=((((F2.c K).c F).c ac).c_ a0);have y0:ag h5 h.i 0=some (ZY (k:Int)):=on.o 0;have y5:aq h5 h.i 0 5=some [ZY (k:Int),ZZ a,ZZ c,ZZ t,v]:=by rw[on.J];rfl
 by_cases ek:k=i+1;have ab:(((i+1:Nat):Int)=(k:Int)):=oM;have ax:46+i<1099511627776:=oM;simp only[a_,↓reduceIte,Nat.reduceEqDiff,g3,x0,x1,y0,y5,eq_true ab,ax];refine Xk (show av go (46+i) _ h5 R from ?_) ?_;have:=hD c0 h5 Fa;rw[(oM:45+k=46+i)]at this;exact this;intro u h' r;simp[a_];exact r;have ab:¬(((i+1:Nat):Int)=(k:Int)):=oM;simp(disch:=omega) only[a_,↓reduceIte,Nat.reduceEqDiff,ah,ak,g3,x0,y0,eq_false ab];refine t_ ⟨5-(i+1),oM,F.c ac,i+1,iS,iX,iX,iX,iX,oM,rfl⟩;simp[a_,eq_false c0];exact hE _ c0 af
structure X4(Ks:List w_)(h:b_)(E:List d_):Prop where
 h:∀e∈E,q_ h e.x/\nZ e.x.vm=true/\P0 e.x 3=true/\bP Ks 12 e.x=0
 b:∀e∈E,e.kn=false->e.b=aF Ks e.x
 c:∀e∈E,e.kn=true->1<=e.b/\e.b<=40
 n:(E.map fun e=>e.x.A).Nodup
 l:E.length<=1000
 r:U3 Ks 12=true/\Ks.length=3/\GK Ks
theorem H_.aL{h:b_}{b B S:Nat}{X:List e_}{l:List Int}{kn:List Bool}{mc:cJ}(w:WF h)(s:H_ n0 h b Ks cap X l kn st vK bg B bm S bl pm mc):∀y∈Wr b bg B bm S bl pm,y<h.i:=by intro y m;simp only[Wr,Vc,Vo,VD,or_false]at m;obtain(rfl|rfl|rfl|rfl|rfl|rfl)|m:=m;exact s.ob.lt w;exact s.g.c.1.lt w;exact s.gB.lt w;exact s.k.lt w;exact s.aB;exact s.au;exact s.pl y (eV m)
theorem wS{h:b_}{b o n m:Nat}{r:List V}(e:aq h b o n=some r)(l:m<=n):aq h b o m=some (r.take m):=by unfold aq at e|-;split at e;obtain⟨rfl,q⟩:=kL e;rw[bO _ _ oM,WL,WE l];cases e
theorem X4.f{h:b_}{E:List d_}(a:X4 Ks h E)(f:Fr [] h h'):X4 Ks h' E:=⟨fun e m=>⟨(a.h e m).1.fr f,(a.h e m).2⟩,a.b,a.c,a.n,a.l,a.r⟩
theorem X4.a{h:b_}{E:List d_}(a:X4 Ks h E):∀e∈E,1<=aF Ks e.x/\aF Ks e.x<=40:=by intro e m;have t:=(a.h e m).2.2.1;simp only[P0,Vd,decide_eq_true_eq]at t;have p:Ks[e.x.N]? =some (Ks[e.x.N]'(by rw[a.r.2.1];exact t.2.1)):=Vp _;generalize Ks[e.x.N]'(by rw[a.r.2.1];exact t.2.1)=q at p;have g:=(a.r.2.2 q (Vg p)).2.2;rw[aF,p];exact g
theorem X4.e{h:b_}{E:List d_}(a:X4 Ks h E):V0 E:=by intro e m;cases Z:e.kn;have:=a.a e m;rw[a.b e m Z];omega;have:=a.c e m Z;omega
theorem X4.i{h:b_}{E:List d_}(a:X4 Ks h E):∀e∈E,0<e.x.A:=by intro e m;have t:=(a.h e m).2.2.1;simp only[P0,Vd,decide_eq_true_eq]at t;omega
theorem _root_.Go.Ev.Gs.dj{h:b_}{B e:Nat}{v:V}(g:Gs h B e v cs)(f:Fr Z h h')(d:∀z∈Z,z∉vb v):Gs h' B e v cs:=by obtain z|⟨b,n,K,z2,z3,z4,o⟩:=g;exact .inl z;exact .inr ⟨b,n,K,z2,z3,z4,f.D _ _ (fun m=>d _ m (by rw[K];simp[vb])) o⟩
theorem U8.aV:∀{a b:List e_},U8 a b->b.map e_.Y=a.map e_.Y
 |[],[],_=>rfl
 |_::_,_::_,h=>by obtain⟨⟨v,rfl,_⟩,h2⟩:=h;simp only[VT,U8.aV h2];rfl
 |[],_::_,h=>h.elim
 |_::_,[],h=>h.elim
theorem EM{X:List e_}{E:List d_}(ev:X.map e_.Y=E.map (fun e=>e.x.Y))(n:(E.map fun e=>e.x.A).Nodup):R1 (dS (fun _=>none,0) X 0).1 E:=by
 have K:X.map e_.A=E.map (fun e=>e.x.A):=by have:=congrArg (List.map Prod.fst) ev;rw[VW,VW]at this;exact this
 intro k j;rw[tW X _ 0 (by rw[K];exact n)];constructor;rintro(⟨n,x,h1,Z,h3⟩|⟨_,Z⟩);have:=congrArg (fun l=>l[n]?) K;simp only[VY,h1]at this;cases q:E[n]? with
 |none=>rw[q]at this;cases this
 |some e=>rw[q]at this;exact⟨e,by rw[(oM:j=n)];exact q,by rw[<-Z];exact(WU this).symm⟩
 cases Z;rintro⟨e,h1,Z⟩;have:=congrArg (fun l=>l[j]?) K;simp only[VY,h1]at this;cases q:X[j]? with
 |none=>rw[q]at this;cases this
 |some x=>rw[q]at this;exact .inl ⟨j,x,q,by rw[<-Z];exact WU this,oM⟩
theorem Ku{N:Nat}{h:b_}{b B S:Nat}{v:V}{E:List d_}(w:WF h)(s:H_ n0 h b K 12 [] [] [] [] vK bg B bm S bl pm (fun _=>none,0))(sk:cK Ks K)(wr:∀y∈Wr b bg B bm S bl pm,y<N)(o:X4 Ks h E)
 (hi:∀(Z:List Nat)(h':b_),(∀z∈Z,z∈Wr b bg B bm S bl pm\/h.i<=z)->Fr Z h h'->∀e∈E,q_ h' e.x) (g:Gs h N 4 v ((E.map d_.x).flatMap e_.s)):av go 9 [.u b 0,.B [ZY 1,ZZ 0,ZZ 0,ZZ 0,v]] h fun u h'=>u=ZZ 0/\Fr (Wr b bg B bm S bl pm) h h'/\
  ∃X st B' S' pm' mc,H_ n0 h' b K 12 X (E.map fun e=>aF Ks e.x) (List.replicate E.length false) st vK bg B' bm S' bl pm' mc/\X.map e_.Y=E.map (fun e=>e.x.Y)/\(∀x∈X,nZ x.vm=true)/\R1 mc.1 E/\mc.2<=1024/\
   ∀y∈Wr b bg B' bm S' bl pm',y∈Wr b bg B bm S bl pm\/h.i<=y:=by
 have sl:Sl h 4 v (E.map d_.x).length ((E.map d_.x).flatMap e_.s):=YT g (aG aT _) oM;have v1:=sl.O;have el:(E.map d_.x).length=E.length:=by simp
 have hl:=o.l;have ac:U3 K 12=true:=by rw[<-jZ sk];exact o.r.1
 have e0:dG 1 0 0 0 (E.map d_.x).length=0:=by simp[dG]
 refine wx (k:=1) (n:=(E.map d_.x).length) w s oM (Sl.a sl) (fun h' c f=>absurd e0 c) (fun _ h1 f1=>?_);have s1:=s.fr w f1;have eb:(E.map d_.x).map (aF K)=E.map fun e=>aF Ks e.x:=by rw[VW];exact Xt fun e m=>(hU sk e.x).1
 have nd:((E.map d_.x).map e_.A).Nodup:=by rw[VW];exact o.n
 have er:kH K 12 0 [] (E.map d_.x) [] (fun _=>false)=0:=by
  unfold kH;have ab:dZ K 12 (fun _=>false) [] (E.map d_.x)=0:=by refine AC (fun y m=>?_) nd;obtain⟨e,em,rfl⟩:=VK.1 m;let⟨_,_,q1,q2⟩:=o.h e em;exact⟨by rw[<-eg sk,o.r.2.1];exact q1,by rw[qI sk];exact q2,rfl,iS⟩
  rw[if_neg iS,if_neg oO,ab,if_neg dI,eb];exact wa (fun x m=>by obtain⟨e,em,rfl⟩:=VK.1 m;exact o.a e em) oO
 refine Xk (wU (a:=0) f1.r s1 oM ac iS iS iS (Y:=E.map d_.x) (fun Z h' hZ f=>?_) (fun y m=>?_) oM (by simp only[aA,aD,v1];rfl)) ?_;have n1:=f1.i;have gl:=g.lt w;have f':Fr Z h h':=Vn f1 f w iS (fun x m=>.inl m);refine⟨Sl.a (YT (g.dj f' fun z m c=>?_) (aG aT _) oM),fun y m=>?_⟩;have:=g.vb z c;have:=gl z c;obtain q|q:=hZ z m;grind;omega;grind;obtain⟨e,em,rfl⟩:=VK.1 m;exact(o.h e em).2.1;rintro _ h' ⟨rfl,_,r2⟩;have ae:kH K 12 0 [] (E.map d_.x) [] (fun x=>(((fun _=>none,0):cJ).1 x).isSome)=0:=er;rw[ae]at r2|-;let⟨_,_,_,Y',B',S',pm',cp,s2,f2,q1,q2,q3⟩:=r2 rfl;rw[eb]at s2;simp only[Int.toNat_zero,List.take_nil,Wv,Wk,Xo,el]at s2;have ev:Y'.map e_.Y=E.map (fun e=>e.x.Y):=by rw[cp.aV,VW];rfl
 refine⟨rfl,Vn f1 f2 w iS (fun x m=>.inl m),Y',_,B',S',pm',_,s2,ev,cp.nz,EM ev o.n,?_,?_⟩;have:=tY Y' (fun _=>none,0) 0;have:=cp.A_;simp only[]at *;omega;have n1:=f1.i;intro y m;simp only[Wr,Vc,Vo,VD,or_false]at m|-;obtain(m|m|m|m|m|m)|m:=m;omega;omega;omega;omega;omega;omega;grind
theorem J1{h:b_}{b B S:Nat}{v:V}{E:List d_}{X:List e_}{mc:cJ}(w:WF h)(s:H_ n0 h b K 12 X (E.map fun e=>aF Ks e.x) (List.replicate E.length false) st vK bg B bm S bl pm mc)
 (ix:R1 mc.1 E) (o:X4 Ks h E) (sv:∀(Z:List Nat)(h':b_),(∀z∈Z,z∈Wr b bg B bm S bl pm\/h.i<=z)->Fr Z h h'->C_ B? 2 h' v ((E.filter d_.kn).map d_.ht)):
 av go 12 [.u b 0,v] h fun u h'=>∃c:Int,u=.G [ZZ c,ZZ 0]/\Fr (bl::pm.toList) h h'/\H_ n0 h' b K 12 X (E.map d_.b) (E.map d_.kn) st vK bg B bm S bl pm mc:=by
 have hl:=o.l;let⟨c',em⟩:=wQ ix o.a o.b o.c oM E.length 0 0 oM;simp at em;refine Xk (Ac w s sv (fun x m=>?_) (by have:=XT d_.kn E;simp;omega) (fun k j q=>?_)) ?_;obtain⟨e,me,rfl⟩:=VK.1 m;have ab:=XE.1 me;have:=o.c e ab.1 ab.2;exact⟨(o.h e ab.1).1.k,by show _<=e.b;omega,by show e.b<=_;omega⟩;let⟨e,h1,_⟩:=(ix k j).1 q;have:=(Vt.1 h1).1;omega;rintro _ h' ⟨rfl,r1,_⟩;rw[em]at r1|-;let⟨f,s2⟩:=r1 rfl;exact⟨_,rfl,f,s2⟩
theorem GF{h:b_}{E:List d_}(w:WF h)(rk:o_ w_.s 9 h vK Ks)(kh:∀q∈Ks,Q4 h q)(re:o_ d_.s 6 h vE E)(o:X4 Ks h E):
 av go 17 [.B [vK,ZZ 12],.B [vE]] h fun u h'=>∃b,u=.u b 0/\Fr [] h h'/\SE h.i Ks h' b E:=by
 have v1:vK.O=true:=Wj rk;have v2:vE.O=true:=Wj re;have hl:=o.l;let⟨h1,bw,bC,bW⟩:=au w [vK,ZZ 12];let⟨h2,br,bt,bB⟩:=au bC.r [vE];have n1:=s_ bw;have n2:=s_ br;have ac:=bC.c bt;have c0:aq h2 h.i 0 2=some [vK,ZZ 12]:=by rw[(bt.c_ bW).J];rfl
 refine ai ?_;simp[a_,<-bw,<-br,c0];refine aa (CY ac.r (VJ rk ac) (fun q m=>(kh q m).fr ac) (by rw[o.r.2.1];omega) o.r.1) ?_;rintro _ h3 ⟨b,bg,bm,bl,ba,K,rfl,F3,sk,s3,ge⟩;have ax:=ac.c F3;simp[a_];let⟨h4,bD,bA,bV⟩:=au F3.r [ZY 0,ZZ 0,ZZ 0,ZZ 0,.j];have n4:=s_ bD;simp[<-bD];apply u_ bA.r bV;rintro h5 o5 F5 n5;have bj:Fr [] h3 h5:=bA.y F5 F3.r (Ve _);have wl:∀y∈Wr b bg h2.i bm bm bl none,h2.i<=y/\y<h3.i:=fun y m=>⟨ge y m,s3.aL F3.r y m⟩;simp[a_];refine aC (fun n env hh=>Fr [] h3 hh/\∃(i:Nat)(vI vT:V),env.c_ 9=some (ZZ i)/\env.c_ 8=some vT/\env.c_ 7=some (.u h3.i 0)/\env.c_ 5=some (.u b 0)/\env.c_ 3=some (.u h1.i 0)/\i<=E.length/\f_ hh h3.i [ZY 1,ZZ 0,ZZ 0,ZZ 0,vI]/\
  Gs hh h4.i 4 vI (((E.take i).map d_.x).flatMap e_.s)/\Gs hh h4.i 2 vT ((((E.take i).filter d_.kn).map d_.ht).flatMap B?)/\(∀z∈vb vI,z∉vb vT)/\n=E.length-i) E.length oM ?_ ?_
 exact⟨bj,0,.j,.j,iS,iS,iS,iS,iS,oM,o5,.inl ⟨rfl,rfl⟩,.inl ⟨rfl,rfl⟩,by simp[vb],rfl⟩;rintro n env hh ⟨F,i,vI,vT,g9,g8,g7,g5,g3,hi,on,GI,GT,dj,rfl⟩;have nF:=F.i;have bk:=on.lt F.r;have ab:=ax.c F;have ar:ag hh h1.i 0=some vE:=((F3.c F).c_ bB).o 0;by_cases c:i<E.length;have p4:E[i]? =some E[i]:=Vp c;generalize E[i]=e at p4;have em:=Vg p4;have ae:=((o.h e em).1).fr ab;have rd:∀{H},Fr [] h H->∃bi oi,aP (.c 6) [vE,ZZ (i:Int)]=some (.u bi oi)/\aq H bi oi 4=some e.x.s/\ag H bi oi=some (ZX (e.x.A:Int))/\ag H bi (oi+4)=some (ZZ e.b)/\ag H bi (oi+5)=some (.h e.kn):=by intro H f;let⟨bi,oi,e',p1,p2,p3,a3⟩:=(re.fr f).ix aK .i64 (i:Int) oM oM;rw[pi,p4]at a3;cases a3;exact⟨bi,oi,p1,wS p3 oM,p2 0 oM,p2 4 oM,p2 5 oM⟩
 let⟨bi,oi,p1,p3,_⟩:=rd ab;let⟨hx,bp,bn,bE⟩:=au F.r e.x.s;have nx:=s_ bp;have i0:ag hh h3.i 4=some vI:=on.o 4;have i1:ag hx h3.i 4=some vI:=(bn.c_ on).o 4;have u1:bq [ZX 0,ZY 0,.f [],.j] 0 e.x.s=some e.x.s:=rfl;simp only[a_,seval,g_,g9,g7,g3,ar,re.M,(oM:(i:Int)<E.length),i0,p1,p3,u1,(iR:e.x.s.length=4),<-bp];have ib:=GI.vb;have il:=GI.lt F.r;have tb:=GT.vb;have tl:=GT.lt F.r;refine WY (bytes:=56) (n:=1) bn.r (GI.fr bn) (Wy bE rfl) oM oM ae.O oM (by rw[aG aT];simp;omega) ?_;intro af hy a2 eI FI;have a4:=FI.D _ _ (fun m=>by have:=ib _ m;omega) (bn.c_ on);have c1:=a2.O;simp only[a_,seval,g_,g7];refine ao (c':=[ZY 1,ZZ 0,ZZ 0,ZZ 0,af]) FI.r a4 (by rw[az c1];rfl) (by rw[az c1];simp only[aA,aD,c1];rfl) (by rw[az c1];rfl) ?_;rintro hz oz Fz nz;have nI:=FI.i;have n3:=F.i;have FN:Fr [] h3 hz:=(Ww F3.r (F.c bn) FI (fun z m=>by have:=ib z m;omega)).y Fz F3.r (Ve _);have a5:=ax.c FN;have ak:=a2.ai Fz oO;have a0:=((GT.fr bn).dj FI (fun z m=>dj z m)).ai Fz oO;have dz:∀z∈vb af,z∉vb vT:=by grind
 have aj:ag hz h1.i 0=some vE:=((F3.c FN).c_ bB).o 0;let⟨bz,b6,q1,q3,q0,q4,q5⟩:=rd a5;have aH:((E.take (i+1)).map d_.x).flatMap e_.s=((E.take i).map d_.x).flatMap e_.s++e.x.s:=by rw[Vs,p4];simp
 simp(disch:=omega) only[a_,seval,DF,g_,ah,g9,g8,g3,aj,q1,q5,i0,i1,ar,p3];cases ek:e.kn with
 |false=>
  have an:(E.take (i+1)).filter d_.kn=(E.take i).filter d_.kn:=by rw[Vs,p4,Xe];simp[ek]
  simp only[seval];refine t_ ⟨E.length-(i+1),oM,FN,i+1,af,vT,iS,iX,iX,iX,iX,oM,oz,by rw[aH];exact ak,by rw[an];exact a0,dz,rfl⟩
 |true=>
  let⟨hq,bv,bo,bT⟩:=au Fz.r [ZX (e.x.A:Int),ZZ e.b];have nq:=s_ bv;simp only[a_,seval,g_,g9,g3,aj,q1,q0,q4,<-bv];refine WY (bytes:=16) (n:=1) bo.r (a0.fr bo) (Wy bT rfl) oM oM rfl oM (by rw[aG (f:=B?) (k:=2) (fun _=>rfl)];have:=XT d_.kn (E.take i);simp at this|-;omega) ?_;intro a9 hr a6 eT FT;have FR:Fr [] h3 hr:=Ww F3.r (FN.c bo) FT (fun z m=>by have:=tb z m;omega);have bc:=FT.D _ _ (fun m=>by have:=tb _ m;omega) (bo.c_ oz);have bf:=(ak.fr bo).dj FT (fun z m c=>dz z c m);have a7:=ak.lt Fz.r;have an:(((E.take (i+1)).filter d_.kn).map d_.ht).flatMap B?=(((E.take i).filter d_.kn).map d_.ht).flatMap B?++[ZX (e.x.A:Int),ZZ e.b]:=by rw[Vs,p4,Xe];simp[ek];rfl
  simp(disch:=omega) only[a_,seval,DF,g_,ah,g9,aj,q0,q4];refine t_ ⟨E.length-(i+1),oM,FR,i+1,af,a9,iS,iS,iX,iX,iX,oM,bc,by rw[aH];exact bf,by rw[an];exact a6,?_,rfl⟩;intro z m c;rw[eT,Vu]at c;have:=a7 z m;omega
 have ei:i=E.length:=oM;subst ei;rw[Vm (Ve _)]at GI GT;have l5:aq hh h3.i 0 5=some [ZY 1,ZZ 0,ZZ 0,ZZ 0,vI]:=by rw[on.J];rfl
 have tb:=GT.vb;have tl:=GT.lt F.r;have sh:=s3.fr F3.r F;have oh:=o.f ab;simp[a_,g9,g7,g5,g3,ar,re.M,l5];refine aa (Ku (N:=h4.i) F.r sh sk (fun y m=>by have:=wl y m;omega) oh (fun Z h' hZ f e m=>?_) GI) ?_;refine(o.h e m).1.fr (Ww w ab f fun z mz=>?_);have:=ab.i;obtain q|q:=hZ z mz;grind;omega;rintro _ ha ⟨rfl,Fa,X,st,B',S',ay,mc,sa,ev,nz,ix,bh,a8⟩;have a1:Fr [] h ha:=Ww w ab Fa (fun z m=>by have:=wl z m;omega);have na:=Fa.i;simp[a_,g8,g5];refine aa (J1 Fa.r sa ix (o.f a1) (fun Z h' hZ f=>?_)) ?_;refine Sl.a (YT (n:=((E.filter d_.kn).map d_.ht).length) ((GT.dj Fa (fun z m c=>?_)).dj f (fun z m c=>?_)) (aG (f:=B?) (k:=2) (fun _=>rfl) _) oM);grind;grind;rintro _ hb ⟨c',rfl,Fb,sb⟩;simp only[a_,seval,g5];have wn:∀y∈Wr b bg B' bm S' bl ay,h.i<=y:=by intro y m;obtain q|q:=a8 y m;grind;have:=ab.i;omega
 refine⟨b,rfl,Ww w a1 Fb (fun z m=>wn z ?_),(h2.i,none),K,X,st,ba,bg,B',bm,S',bl,ay,mc,sb,sk,ev,nz,ix,bh,wn,ac.i⟩;obtain rfl|m:=Vo.1 m;simp[Wr];exact Vc.2 (.inr m)
def SN(k:Nat)(tg ky:i_)(at':List (i_×i_))(tx:i_)(sub:NT):Prop:=∀(h:b_)(va vc va' vc':V)(sub':NT),WF h->sub'.sh=sub.sh->NH h (.y_ k tg ky at' tx va vc sub .D_)->NH h (.y_ k tg ky at' tx va' vc' sub' .D_)->
 av go 75 [.B [ZY (k:Int),.f tg,.f ky,va,.f tx,vc],.B [ZY (k:Int),.f tg,.f ky,va',.f tx,vc']] h fun u h'=>u=.h true/\Fr [] h h'
def SNs:NT->Prop
 |.D_=>True
 |.y_ k tg ky at' tx _ _ sub nx=>SN k tg ky at' tx sub/\SNs nx
theorem SNs.Z8:∀{t:NT}(i:Nat),SNs t->SNs (t.Z8 i)
 |.D_,0,_=>trivial
 |.D_,_+1,_=>trivial
 |.y_ _ _ _ _ _ _ _ _ _,0,a=>a
 |.y_ _ _ _ _ _ _ _ _ _,i+1,⟨_,b⟩=>SNs.Z8 i b
abbrev Z4':List V:=[ZX 0,ZY 0,.f [],.j]
section
variable {n0 : NL} {h : b_} {b bg B bm S bl : Nat} {Ks : List w_} {cap : Int} {X : List e_} {l : List Int} {kn st : List Bool} {vK : V} {pm : Option Nat} {mc : cJ}
end
theorem HY{h:b_}{q key:Nat}{e:d_}(w:WF h)(o:f_ h q [ZX (key:Int)])(a:q_ h e.x):av go 69 [.B e.s,.u q 0] h fun u h'=>u=.h (decide (e.x.A=key))/\Fr [] h h':=by let⟨Z,ae,ab,ac⟩:=au w e.s;have x0:ag Z h.i 0=some (ZX (e.x.A:Int)):=ac.o 0;have K:ag Z q 0=some (ZX (key:Int)):=(ab.c_ o).o 0;have d:decide ((e.x.A:Int)=(key:Int))=decide (e.x.A=key):=decide_eq_decide.2 oM;refine ai ?_;simp[a_,<-ae,x0,K,d];exact ab
theorem uv{h:b_}{E:List d_}{key:Nat}{m:Nat->Option Nat}(w:WF h)(re:o_ d_.s 6 h vE E)(ie:∀e∈E,q_ h e.x)(hE:E.length<=4096)(ix:R1 m E):av go 25 [.B [vE],ZX (key:Int)] h fun u h'=>u=dh (m key)/\Fr [] h h':=by
 have v1:vE.O=true:=Wj re;let⟨h1,ar,af,aj⟩:=au w [vE];let⟨h2,an,ac,ak⟩:=au af.r [ZX (key:Int)];have Z:=af.c ac;have x0:ag h2 h.i 0=some vE:=(ac.c_ aj).o 0;refine ai ?_;simp[a_,<-ar,<-an,x0];refine aa (R:=fun u h'=>u=ZZ (match m key with|some j=>(j:Int)|none=>-1)/\Fr [] h2 h') ?_ ?_
 refine ai ?_;simp[a_,(re.fr Z).M];refine aC (fun n env hh=>Fr [] h2 hh/\∃i:Nat,env.c_ 8=some (ZZ i)/\env.c_ 7=some (ZZ E.length)/\env.c_ 0=some vE/\env.c_ 1=some (.I (.func 69) [] [.u h1.i 0])/\i<=E.length/\(∀j e,j<i->E[j]? =some e->e.x.A≠key)/\n=E.length-i) E.length oM ?_ ?_;exact⟨Vk ac.r,0,iS,iS,iS,iS,oM,fun j e c=>by omega,rfl⟩;rintro n env hh ⟨F,i,g8,g7,g0,g1,hi,hn,rfl⟩;by_cases c:i<E.length;let⟨bi,oi,e,p1,_,p3,p4⟩:=(re.fr (Z.c F)).ix aK .i64 (i:Int) oM oM;rw[pi]at p4;have ae:=(ie e (Vg p4)).fr (Z.c F);have ab:69<1099511627776:=oM;simp[a_,g8,g7,g0,g1,(oM:(i:Int)<E.length),p1,p3];refine aa (HY F.r (F.c_ ak) ae) ?_;rintro _ h3 ⟨rfl,K⟩;by_cases ck:e.x.A=key;simp[a_,decide_eq_true ck];rw[(ix key i).2 ⟨e,p4,ck⟩];exact⟨rfl,F.c K⟩;simp(disch:=omega)[a_,ah,g8,decide_eq_false ck];refine t_ ⟨E.length-(i+1),oM,F.c K,i+1,iS,iX,iX,iX,oM,?_,rfl⟩;intro j e' hj hx;by_cases cj:j=i;grind;grind;simp[a_,g8,g7,(oM:¬(i:Int)<E.length)];refine⟨?_,F⟩;cases e:m key with
 |none=>rfl
 |some j=>let⟨e',q1,q2⟩:=(ix key j).1 e;have:=(Vt.1 q1).1;exact absurd q2 (hn j e' oM q1)
 rintro _ h3 ⟨rfl,K⟩;cases e:m key with
 |none=>simp[a_,dh,(oM:max (-1:Int) 0=0)];exact Z.c K
 |some j=>simp[a_,dh];exact Z.c K
theorem Zg.on{N:Nat}{K:b_}{x:e_}(t:Zg N h' Ks x cs)(f:Fr Z h' K)(hZ:∀z∈Z,z<N):Zg N K Ks x cs:=by let⟨q,s,va,vc,t1,t2,t3,t4⟩:=t;refine⟨q,s,va,vc,t1,t2,fun X h3 hX g=>?_,t4⟩;refine t3 (Z++X) h3 (fun y m=>(Vc.1 m).elim (hZ y) (hX y)) ⟨VC f.i g.i,g.r,fun b c hb o=>g.D b c (fun m=>hb (Vc.2 (.inr m))) (f.D b c (fun m=>hb (Vc.2 (.inl m))) o),fun b c hb o=>g.pl b c (fun m=>hb (Vc.2 (.inr m))) (f.pl b c (fun m=>hb (Vc.2 (.inl m))) o),fun b x hx e=>g.lp b x hx (f.lp b x hx e),fun b c r=>g.ro b c (f.ro b c r)⟩
theorem Zg.le{N M:Nat}{x:e_}(t:Zg N h' Ks x cs)(l:M<=N):Zg M h' Ks x cs:=by let⟨q,s,va,vc,t1,t2,t3,t4⟩:=t;exact⟨q,s,va,vc,t1,t2,fun X Z K g=>t3 X Z (fun y m=>Wn (K y m) l) g,t4⟩
theorem uo{h:b_}{x:e_}(w:WF h)(rk:o_ w_.s 9 h vK Ks)(kh:∀q∈Ks,Q4 h q)(a:q_ h x)(ht:x.N<Ks.length):
 av go 73 [.B [vK,ZZ cap],.B x.s] h fun u h'=>∃cs,u=.G [.B cs,ZZ (bP Ks cap x)]/\Fr [] h h'/\aw cs=true/\cs.length=6/\(bP Ks cap x=0->Zg h.i h' Ks x cs):=by
 have v1:vK.O=true:=Wj rk;let⟨h0,ak,af,ax⟩:=au w [vK,ZZ cap];let⟨h1,an,ae,ar⟩:=au af.r x.s;let⟨K,aj,ac,ay⟩:=au ae.r [ZY 0,.f [],.f [],.j,.f [],.j];have n0:=s_ ak;have n1:=s_ an;have n2:=s_ aj;have Z:=af.c (ae.c ac);have ob:=ac.c_ (ae.c_ ax);have ox:=ac.c_ ar;have l0:ag K h.i 0=some vK:=ob.o 0;have l1:ag K h.i 1=some (ZZ cap):=ob.o 1;have x1:ag K h0.i 1=some (ZY (x.N:Int)):=ox.o 1;have x4:aq K h0.i 0 4=some x.s:=by rw[ox.J];rfl
 let⟨bk,ok',q,p1,_,p3,p4⟩:=(VJ rk Z).ix fg .u8 (x.N:Int) oM oM;rw[pi]at p4;have hq:=kh q (Vg p4);have er:bP Ks cap x=fL q.k q.tg q.ky q.sl q.tx q.ar x cap:=by simp[bP,p4]
 have p6:aq K bk ok' 6=some q.as:=wS p3 oM;refine ai ?_;simp[a_,g_,<-ak,<-an,<-aj,l0,x1,p1,p6,x4,l1];refine aa (wA (vs:=q.vs) (vp:=q.vp) ac.r (hq.fr Z) (a.fr Z)) ?_;rintro _ h3 ⟨cs,rfl,F3,z1,z2⟩;have on:aw cs=true/\cs.length=6:=by by_cases z:fL q.k q.tg q.ky q.sl q.tx q.ar x cap=0;obtain⟨s,va,vc,rfl,n,_⟩:=z2 z;exact⟨NH.aF (n [] h3 iS (Vk F3.r)),rfl⟩;rw[z1 z];exact⟨rfl,rfl⟩
 have ab:=F3.c_ ay;simp[a_,g_];refine ao (c':=cs) F3.r ab on.2 on.1 (by
  rw[bN _ _ _ (by show 0+cs.length<=6;omega)];simp[V.s];omega) ?_
 rintro h4 o4 F4 n4;have l4:aq h4 h1.i 0 6=some cs:=by rw[o4.J,fY,bO _ _ oM,Vm oM]
 simp only[a_,seval,DF,g_,l0,x1,p6,x4,l1,l4];refine⟨cs,by rw[er],(Z.c F3).y F4 w oM,on.1,on.2,fun z=>?_⟩;rw[er]at z;let⟨s,va,vc,e,n,es⟩:=z2 z;refine Zg.le (N:=K.i) ⟨q,s,va,vc,p4,e,fun X hh hX f=>n ([h1.i]++X) hh (fun y m=>?_) (Vn F4 f F3.r (fun y m=>.inl (Vc.2 (.inl m))) (fun y m=>.inl (Vc.2 (.inr m)))),es,rL z⟩ oM;obtain m|m:=Vc.1 m;simp at m;omega;exact hX y m
theorem qR{h:b_}{E:List d_}(w:WF h)(re:o_ d_.s 6 h vE E)(ie:∀e∈E,q_ h e.x)(hE:E.length<=4096)(ok:V0 E)(hs:(E.map d_.b).sum<=4611686018427387904):
 av go 82 [.B [vE]] h fun u h'=>u=ZZ (E.map d_.b).sum/\Fr [] h h':=by
 have v1:vE.O=true:=Wj re;let⟨h1,an,ae,af⟩:=au w [vE];have x0:ag h1 h.i 0=some vE:=af.o 0;refine ai ?_;simp[a_,<-an,x0,(re.fr ae).M];refine aC (fun n env K=>Fr [] h K/\∃i:Nat,env.c_ 10=some (ZZ i)/\env.c_ 9=some (ZZ E.length)/\env.c_ 8=some vE/\env.c_ 3=some (ZZ ((E.take i).map d_.b).sum)/\i<=E.length/\n=E.length-i) E.length oM ?_ ?_;exact⟨ae,0,iS,iS,iS,iS,oM,rfl⟩;rintro n env K ⟨F,i,Z,g9,g8,g3,hi,rfl⟩;have nn:=(ok.c i).a;by_cases c:i<E.length;let⟨bi,oi,e,p1,_,p3,p4⟩:=(re.fr F).ix aK .i64 (i:Int) oM oM;rw[pi]at p4;have em:=Vg p4;have ob:=ok e em;have ts:=pB p4;have:=(ok.e (i+1)).a;have:=V0.d (E:=E) (i+1);let⟨h3,ak,ac,aj⟩:=au F.r [ZX 0,ZY 0,.f [],.j,ZZ 0,.h false];simp only[a_,seval,Z,g9,g8,(oM:(i:Int)<E.length),p1,p3,<-ak];refine ao (c':=e.s) ac.r aj rfl (dF ((ie e em).fr F)) rfl ?_;rintro h4 o4 F4 n4;have ab:Fr [] K h4:=ac.y F4 F.r (Ve _);have l4:ag h4 K.i 4=some (ZZ e.b):=o4.o 4;simp(disch:=omega) only[a_,seval,ah,Z,g3,l4,(oM:max e.b 0=e.b),eq_false (oM:¬4611686018427387904-((E.take i).map d_.b).sum<e.b)];refine t_ ⟨E.length-(i+1),oM,F.c ab,i+1,iS,iX,iX,(by rw[ts];simp),oM,rfl⟩;rw[Vm oM]at g3;simp[a_,Z,g9,g3,(oM:¬(i:Int)<E.length)];exact F
theorem wR{h:b_}{E:List d_}(w:WF h)(re:o_ d_.s 6 h vE E)(K:∀e∈E,q_ h e.x)(Z:E.length<=4096)(ok:V0 E)(hs:(E.map d_.b).sum<=4611686018427387904):
 av go 122 [.B [vE]] h fun u h'=>u=ZZ 0/\Fr [] h h':=by
 have v1:vE.O=true:=Wj re;let⟨h1,ae,ab,ac⟩:=au w [vE];have x1:aq h1 h.i 0 1=some [vE]:=by rw[ac.J];rfl
 refine ai ?_;simp[a_,<-ae,x1];refine aa (qR ab.r (re.fr ab) (fun e m=>(K e m).fr ab) Z ok hs) ?_;rintro _ h2 ⟨rfl,F2⟩;simp[a_,eq_false (oM:¬4611686018427387904<(E.map d_.b).sum)];exact ab.c F2
theorem X4.g{h:b_}{E:List d_}(o:X4 Ks h E):(E.map d_.b).sum<=40000:=by
 have:=jW (L:=E.map d_.b) (fun x m=>by
  obtain⟨e,Z,rfl⟩:=VK.1 m;cases K:e.kn;rw[o.b e Z K];exact o.a e Z;exact o.c e Z K)
 have hl:=o.l;simp at this;omega
theorem qS{h:b_}{E:List d_}(w:WF h)(rk:o_ w_.s 9 h vK Ks)(kh:∀q∈Ks,Q4 h q)(re:o_ d_.s 6 h vE E)(o:X4 Ks h E):
 av go 63 [.B [vK,ZZ 12],.B [vE]] h fun u h'=>u=ZZ 0/\Fr [] h h':=by
 have v1:vK.O=true:=Wj rk;have v2:vE.O=true:=Wj re;have hl:=o.l;have k3:=o.r.2.1;let⟨h1,bn,br,bh⟩:=au w [vK,ZZ 12];let⟨h2,bm,bg,bp⟩:=au br.r [vE];have n1:=s_ bn;have n2:=s_ bm;have aH:=br.c bg;have c0:aq h2 h.i 0 2=some [vK,ZZ 12]:=by rw[(bg.c_ bh).J];rfl
 refine ai ?_;simp[a_,<-bn,<-bm,c0];refine aa (zM bg.r (VJ rk aH) (fun q m=>(kh q m).fr aH) oM) ?_;rintro _ Z ⟨rfl,F3⟩;rw[o.r.1];have kk:∀{H},Fr [] Z H->aq H h.i 0 2=some [vK,ZZ 12]:=fun f=>by rw[(f.c_ (F3.c_ (bg.c_ bh))).J];rfl
 have k0:∀{H},Fr [] Z H->ag H h.i 0=some vK:=fun f=>(f.c_ (F3.c_ (bg.c_ bh))).o 0;have ee:∀{H},Fr [] Z H->ag H h1.i 0=some vE:=fun f=>(f.c_ (F3.c_ bp)).o 0;have e1:∀{H},Fr [] Z H->aq H h1.i 0 1=some [vE]:=fun f=>by rw[(f.c_ (F3.c_ bp)).J];rfl
 have e3:=ee (Vk F3.r);have a0:=aH.c F3;simp[a_,e3,re.M,(oM:¬(1024:Int)<E.length)];obtain⟨h4,ac⟩:∃h4,h4=lF Z:=⟨_,rfl⟩;have ak:Fr [] Z h4:=ac▸Fr.aP F3.r _;have s4:T2 h4 Z.i []:=⟨[],0,by rw[ac];exact jJ _ _,rfl,iS⟩;have e4:=ee ak;simp[a_,Hk,<-ac,e4,re.M];refine aC (fun n env K=>Fr [] Z K/\∃(i:Nat),env.c_ 25=some (ZZ i)/\env.c_ 24=some (ZZ E.length)/\env.c_ 23=some vE/\env.c_ 2=some (.u h.i 0)/\env.c_ 3=some (.u h1.i 0)/\env.c_ 6=some (.ad Z.i)/\
  i<=E.length/\T2 K Z.i ((E.take i).map fun e=>e.x.A)/\n=E.length-i) E.length oM ?_ ?_
 exact⟨ak,0,iS,iS,iS,iS,iS,iS,oM,s4,rfl⟩;rintro n env K ⟨F,i,aj,a3,ba,g2,g3,g6,hi,S,rfl⟩;have F0:=a0.c F;by_cases c:i<E.length;let⟨bi,oi,e,p1,_,p3,p4⟩:=(re.fr F0).ix aK .i64 (i:Int) oM oM;rw[pi]at p4;have em:=Vg p4;let⟨ax,nz,oi,bA⟩:=o.h e em;have an:P0 e.x Ks.length=true:=by rw[k3];exact oi
 have ht:e.x.N<Ks.length:=by simp only[P0,Vd,decide_eq_true_eq]at an;exact an.2.1
 let⟨h5,bv,bj,bz⟩:=au F.r [ZX 0,ZY 0,.f [],.j,ZZ 0,.h false];simp only[a_,seval,aj,a3,ba,(oM:(i:Int)<E.length),p1,p3,<-bv];refine ao (c':=e.s) bj.r bz rfl (dF (ax.fr F0)) rfl ?_;rintro h6 o6 F6 n6;have af:Fr [] K h6:=bj.y F6 F.r (Ve _);have a2:=F.c af;have i4:∀{H},f_ H K.i e.s->aq H K.i 0 4=some e.x.s:=fun o=>by rw[o.J];rfl
 have i0:∀{H},f_ H K.i e.s->ag H K.i 0=some (ZX (e.x.A:Int)):=fun o=>o.o 0;have bc:=i4 o6;have a8:=k0 a2;simp only[a_,seval,g2,bc,a8,(YY rk)];apply aa (qg af.r (ax.fr (F0.c af)) oM);rintro _ h7 ⟨rfl,F7⟩;rw[an];have o7:=F7.c_ o6;have a7:=i0 o7;have S7:=(S.a af).a F7;have nk:e.x.A∉(E.take i).map fun e=>e.x.A:=by
  intro m;have nd:=o.n;have:E.map (fun e=>e.x.A)=(E.take i).map (fun e=>e.x.A)++e.x.A::(E.drop (i+1)).map (fun e=>e.x.A):=by rw[<-VT (f:=fun e:d_=>e.x.A),<-aN p4,<-VF,VA]
  rw[this,Xq]at nd;exact nd.2.2 _ m _ iS rfl
 simp only[a_,seval,g6,a7,Am,ma,pN S7,decide_eq_false nk,C8,qy];apply sQ F7.r S7 nk;intro h8 S8 B8 n8;have ab:Fr [] Z h8:=YE F3.r (a2.c F7) B8 iS (Ve _);have a1:=a0.c ab;have o8:=B8.d _ _ iS o7;have a5:=i4 o8;have a6:=kk ab;simp only[a_,seval,g2,a5,a6];apply aa (uo ab.r (VJ rk a1) (fun q m=>(kh q m).fr a1) (ax.fr a1) ht);rintro _ h9 ⟨cs,rfl,F9,on,cl,_⟩;let⟨ha,bt,bo,bw⟩:=au F9.r [ZY 0,.f [],.f [],.j,.f [],.j];simp only[a_,<-bt];refine ao (c':=cs) bo.r bw cl on (by
  rw[bN _ _ _ (by show 0+cs.length<=6;omega)];simp[V.s];omega) ?_
 rintro hb ob Fb nb;have ar:Fr [] h8 hb:=(F9.c bo).y Fb ab.r F9.i;have ae:=ab.c ar;have ay:=ar.c_ o8;have b4:ag hb K.i 4=some (ZZ e.b):=ay.o 4;have b5:ag hb K.i 5=some (.h e.kn):=ay.o 5;have Sb:=S8.a ar;have es:(E.take (i+1)).map (fun e=>e.x.A)=(E.take i).map (fun e=>e.x.A)++[e.x.A]:=by rw[Vs,p4];simp
 simp only[a_,seval,g_,bA,b4];apply aa (wY e.b);rintro _ _ ⟨rfl,rfl⟩;have bf:ZE e.b=true:=by have:=o.e e em;simp[ZE];exact this
 cases ek:e.kn with
 |true=>rw[ek]at b5;simp(disch:=omega) only[a_,seval,DF,g_,ah,aj,b4,b5,bf];refine t_ ⟨E.length-(i+1),oM,ae,i+1,iS,iX,iX,iX,iX,iX,oM,by rw[es];exact Sb,rfl⟩
 |false=>
  rw[ek]at b5;have a9:=k0 ae;have b1:ag hb K.i 1=some (ZY (e.x.N:Int)):=ay.o 1;let⟨bk,ok',q,q1,q2,q3,q4⟩:=(VJ rk (a0.c ae)).ix fg .u8 (e.x.N:Int) oM oM;rw[pi]at q4;have q6:ag hb bk (ok'+6)=some (ZZ q.W):=q2 6 oM;have qb:e.b=q.W:=by rw[o.b e em ek];simp[aF,q4]
  have a4:ZE q.W=true:=by grind
  simp(disch:=omega) only[a_,seval,DF,g_,ah,aj,g2,b4,b5,a4,a9,b1,q1,q6,qb];refine t_ ⟨E.length-(i+1),oM,ae,i+1,iS,iX,iX,iX,iX,iX,oM,by rw[es];exact Sb,rfl⟩
 have l1:=e1 F;simp[a_,aj,a3,g3,(oM:¬(i:Int)<E.length),l1];have os:=o.g;apply aa (wR F.r (re.fr F0) (fun e m=>((o.h e m).1).fr F0) oM o.e oM);rintro _ h5 ⟨rfl,F5⟩;simp[a_];exact F0.c F5
structure V_(N M:Nat)(h:b_)(Ks:List w_)(vE:V)(X:List e_)(E:List d_):Prop where
 g:Gs h N 6 vE (E.flatMap d_.s)
 l:∀z∈vb vE,z<M
 i:∀e∈E,X1 N h e.x
 f:∀e∈E,∀z∈vb e.x.vm,z<M
 o:∀h',(∀e∈E,q_ h' e.x)->X4 Ks h' E
 n:E.length<=12
theorem V_.a{N M:Nat}{h:b_}{X:List e_}{E:List d_}(d:V_ N M h Ks vE X E)(f:Fr Z h h')(l:∀z∈Z,z<N\/M<=z):V_ N M h' Ks vE X E:=
 ⟨d.g.dj f (fun z m c=>by have:=d.l z c;have:=d.g.vb z c;have:=l z m;omega),d.l,fun e m=>(d.i e m).a f (fun z mz c=>by have:=d.f e m z c;have:=(d.i e m).g.vb z c;have:=l z mz;omega),d.f,d.o,d.n⟩
theorem V_.H{N M:Nat}{h:b_}{X:List e_}{E:List d_}(d:V_ N M h Ks vE X E):∀e∈E,q_ h e.x:=fun e m=>(d.i e m).H
theorem V_.c{N M:Nat}{h:b_}{X:List e_}{E:List d_}(d:V_ N M h Ks vE X E):X4 Ks h E:=d.o h d.H
theorem V_.d{N M:Nat}{h:b_}{X:List e_}{E:List d_}(d:V_ N M h Ks vE X E):o_ d_.s 6 h vE E:=YT (n:=E.length) d.g (aG aK _) oM
theorem Id{h:b_}{vI vH:V}{kb:Nat}{L:List (Nat×Nat×Nat×Nat)}{H:List Nat}(w:WF h)(a:C_ q4 4 h vI L)(hb:∀q∈L,q.1<256/\q.2.1<256/\q.2.2.1<256/\q.2.2.2<256)
 (aH:C_ b8 1 h vH H) (hH:∀n∈H,n<256) (hk:kb<256):
 av go 16 [.B [vI,vH,ZY (kb:Int)]] h fun u h'=>Fr [] h h'/\∃vK Ks X vE E,u=.G [.B [vK,ZZ 12],.B [vE]]/\o_ w_.s 9 h' vK Ks/\(∀q∈Ks,Q4 h' q)/\V_ h.i h'.i h' Ks vE X E:=by
 apply Xk (MN w a hb aH hH hk);rintro _ h' ⟨F,vK,Ks,vX,X,vE,E,rfl,rk,kh,gk,K,lk,il,G,Z,nd,el⟩;refine⟨F,vK,Ks,X,vE,E,rfl,rk,kh,G,G.lt F.r,fun e m=>il.i _ (Z e m).m,fun e m=>(il.i _ (Z e m).m).g.lt F.r,fun h2 hh=>⟨fun e m=>?_,fun e m=>(Z e m).b,fun e m=>(Z e m).c,nd,VC el oM,K,lk,gk⟩,el⟩;have g:=il.i _ (Z e m).m;exact⟨hh e m,Sl.nz (YT (n:=e.x.E.length) g.g (by rw[yu];exact(WC _).symm) oM),(Z e m).o,(Z e m).r⟩
theorem J4(h:b_):av go 15 [] h fun u h'=>u=.h true/\h=h':=
 ⟨.h true,h,Oi JV rfl (by unfold lov;rw[if_pos ⟨rfl,rfl⟩]),rfl,rfl⟩
open Go.Ev.St
abbrev zz:i_:=[122,122]
theorem GL{L M:List i_}(e:L.flatMap sS=M.flatMap sS):L.length=M.length:=by have:=congrArg List.length e;rw[aG iu,aG iu]at this;omega
theorem T8.ch{N:Nat}{h:b_}{v:V}{L:List i_}(a:T8 N h v L):aP .d [v]=some (ZZ L.length):=a.rs.M
theorem T8.cg{N:Nat}{h:b_}{v:V}{L:List i_}(a:T8 N h v L):aP .z [v]=some (ZZ L.length):=by obtain⟨rfl,rfl|⟨b,rfl,_⟩⟩|⟨b,rfl,_⟩:=a<;>rfl
theorem T8.wr{N b:Nat}{h:b_}{v:V}{L M K:List i_}(a:T8 N h v L)(f:Fr [b] h h')(o:f_ h b (M.flatMap sS))(o':f_ h' b (K.flatMap sS))(e:K.length=M.length):∃L',L'.length=L.length/\T8 N h' v L':=by obtain⟨rfl,rfl|⟨b',rfl,Z,ob⟩⟩|⟨b',rfl,Z,ob⟩:=a;exact⟨[],rfl,.inl ⟨rfl,.inl rfl⟩⟩;by_cases c:b'=b;subst c;have q:M.flatMap sS=([]:List i_).flatMap sS:=o.ae ob;have q2:=GL q;have:K=[]:=VH.1 (by rw[e,q2];rfl);subst this;exact⟨[],rfl,.inl ⟨rfl,.inr ⟨_,rfl,Z,o'⟩⟩⟩;exact⟨[],rfl,.inl ⟨rfl,.inr ⟨_,rfl,Z,f.D _ _ (eV c) ob⟩⟩⟩;by_cases c:b'=b;subst c;have q2:=GL (o.ae ob);exact⟨K,oM,.inr ⟨_,by rw[e,q2],Z,o'⟩⟩;exact⟨L,rfl,.inr ⟨_,rfl,Z,f.D _ _ (eV c) ob⟩⟩
theorem T8.ix{N:Nat}{h:b_}{v:V}{L:List i_}{i:Nat}(a:T8 N h v L)(Z:i<L.length):∃b,N<=b/\f_ h b (L.flatMap sS)/\aP (.c 1) [v,ZZ (i:Int)]=some (.u b i)/\bq (L.flatMap sS) i [.f zz]=some ((L.set i zz).flatMap sS):=by have p:L[i]? =some L[i]:=Vp Z;have u:=qV (y:=zz) (o:=0) (vs:=[.f zz]) iu L i L[i] p rfl;rw[WC,Xm]at u;obtain⟨rfl,_⟩|⟨b,rfl,K,o⟩:=a;simp at Z;refine⟨b,K,o,?_,u⟩;rw[eM _ _ _ _ _ _ _ oM oM];simp
section
variable {env : T V} {h h7 : b_} {N : Nat} (w7 : WF h7) (hN : h7.i <= N)
include w7 hN
def LsW(N bo:Nat)(h:b_)(Z Z':List d_):Prop:=bo<N/\f_ h bo (Z'.flatMap d_.s)/\Z'.map d_.x=Z.map d_.x/\∀z∈Z,∃L',L'.length=z.x.E.length/\T8 N h z.x.vm L'
end
open Go.Ev.St
section
variable {env : T V} {h h7 : b_} {N : Nat} (w7 : WF h7)
theorem LsW.wr{bo b:Nat}{h:b_}{Z Z':List d_}{M K:List i_}(a:LsW N bo h Z Z')(hb:N<=b)(f:Fr [b] h h')(o:f_ h b (M.flatMap sS))(o':f_ h' b (K.flatMap sS))(e:K.length=M.length):LsW N bo h' Z Z':=by let⟨l,ob,ex,cs⟩:=a;refine⟨l,f.D _ _ oO ob,ex,fun z m=>?_⟩;let⟨L,e1,c1⟩:=cs z m;let⟨L',e2,c2⟩:=c1.wr f o o' e;exact⟨L',oM,c2⟩
include w7
end
open Go.Ev.St
theorem yA(k t:Nat)(x:i_)(m:List i_)(v u:V):∀p:PT,cH ⟨k,t,x,m,v⟩ p=cH ⟨k,t,x,m,u⟩ p
 |.z_=>rfl
 |.p_ _ _ _ _ _ _ _ s n=>by simp[cH,yA k t x m v u s,yA k t x m v u n];rfl
theorem BI{y z:e_}(e:y.Y=z.Y):y=⟨z.A,z.N,z.U,z.E,y.vm⟩:=by let⟨K,e2,Z,e4⟩:=e_.bi e;let⟨a,b,c,d,v⟩:=y;simp at K e2 Z e4;subst K e2 Z e4;rfl
theorem HB{y z:e_}(e:y.Y=z.Y)(p:PT):cH y p=cH z p:=by rw[BI e];exact yA _ _ _ _ _ _ p
theorem KU{y z:e_}(e:y.Y=z.Y):P1 y=P1 z:=by rw[BI e];rfl
theorem GW{y z:e_}(e:y.Y=z.Y):bP Ks cap y=bP Ks cap z:=by
 unfold bP;let⟨_,Z,_⟩:=e_.bi e;rw[Z];split;unfold fL;rw[HB e,KU e];have:iA y=iA z:=by rw[BI e];rfl
 rw[this];rfl
theorem pS{n p q:Nat}(h:p+q<=n):yM n p q=0:=by unfold yM;rw[if_neg];omega
theorem uI{h:b_}{b B n p q:Nat}{l:List V}(w:WF h)(k:Gp h b B n l)(hp:p+q<=n):
 av go 98 [.u b 0,ZZ (p:Int),ZZ (q:Int)] h fun z h'=>z=ZZ 0/\Gp h' b B (n-q) (l.take (p*4)++l.drop ((p+q) *4))/\Fr [b,B] h h'/\(P_ h B->P_ h' B):=by
 obtain⟨v,c1,G,c2,a,g,m,k,rfl,rfl⟩:=k;have am:=k.q;by_cases c0:q=0;subst c0;refine ai ?_;simp only[a_,↓reduceIte,Nat.reduceEqDiff,Nat.reduceAdd];refine aa (eO k (p:Int) (0:Nat)) ?_;rintro _ _ ⟨rfl,rfl⟩;simp only[a_,↓reduceIte,Nat.reduceEqDiff,pS hp,(iS:(((0:Nat):Int)=0)=True)];exact⟨⟨v,c1,G,c2,a,g,m,k,iS,oM⟩,Vk w,id⟩;have nz:(q:Int)=0↔False:=by simp;omega
 refine ai ?_;simp[a_];refine aa (eO k (p:Int) (q:Int)) ?_;rintro _ _ ⟨rfl,rfl⟩;simp only[a_,↓reduceIte,Nat.reduceEqDiff,pS hp,nz];apply aa (Bp w k (p:=p) oM);rintro _ h1 ⟨rfl,Z,F1⟩;have l0:ag h1 b 0=some v:=Z.c.o 0;have l2:ag h1 b 2=some (ZZ (g:Int)):=Z.c.o 2;have ac:=Z.w;let⟨u3,e3,s3,d3⟩:=Z.d.aN oM .i64 .i64 ((p:Int)+g) ((p:Int)+g+q) (p+g) (p+g+q) oM oM oM oM;simp(disch:=omega)[a_,g_,ah,l0,l2,e3];apply Cn F1.r d3 rfl rfl Z.d;rintro h2 t2 F2 n2;have K:=F2.D b _ (eV Z.l.symm) Z.c;have ab:ag h2 b 2=some (ZZ (g:Int)):=K.o 2;simp(disch:=omega)[a_,DF,ah,l0,l2,ab];refine ao (c':=[v,ZZ (p:Int),ZZ ((g+q:Nat):Int)]) F2.r K rfl rfl (by rw[(oM:((g+q:Nat):Int)=(g:Int)+q)];rfl) ?_;rintro h3 o3 F3 n3;simp[a_];have t3:=t2.fr F3 (eV Z.l);generalize hL:c1++c2=L at Z t3;have x1:=Z.i;have x2:=Z.o;have x3:=Z.n;have lL:L.length=(a+m) *4:=by grind
 have e1:(L.take (p*4)++aW Z4 g++L.drop (p*4)).take ((p+g) *4)=L.take (p*4)++aW Z4 g:=by grind
 have e2:(L.take (p*4)++aW Z4 g++L.drop (p*4)).drop ((p+g) *4+(p+g+q-(p+g)) *4)=L.drop ((p+q) *4):=by rw[show(p+g) *4+(p+g+q-(p+g)) *4=(L.take (p*4)++aW Z4 g).length+q*4 by rw[Vv];omega,Wa,Wd];congr 1;omega
 rw[e1,e2,(oM:p+g+q-(p+g)=q)]at t3;have n6:=Z.p;have gd:P_ h3 B:=by
  obtain⟨hl,⟨_,z⟩|⟨_,o⟩⟩:=id t3;omega;refine⟨_,o,oM,yx (Yx (Yx (n6.c fun x m=>by rw[Vc]at m;obtain m|m:=m<;>simp[m]) (R6.f R6.i q)) (n6.c fun x m=>?_))⟩
  have:x∈L.drop (p*4):=by rw[(oM:(p+q) *4=p*4+q*4),<-Wd]at m;exact VU m
  simp[this]
 refine⟨⟨v,L.take (p*4),aW Z4 g++aW Z4 q,L.drop ((p+q) *4),p,g+q,a+m-p-q,⟨o3,?_,x1,?_,?_,Z.r,?_,Z.l,oM,oM,?_⟩,rfl,oM⟩,?_,fun _=>gd⟩;rw[(oM:p+(g+q)+(a+m-p-q)=p+g+(a+m-p)),<-VN];exact t3;rw[Vv,c9,c9];simp;omega;grind;have:=bH (q*4) Z.s;rw[Wd]at this;rw[(oM:(p+q) *4=p*4+q*4)];exact this;refine Yx (Yx (n6.c fun x m=>by simp[m]) (Yx (R6.f R6.i g) (R6.f R6.i q))) (n6.c fun x m=>?_);have:x∈L.drop (p*4):=by rw[(oM:(p+q) *4=p*4+q*4),<-Wd]at m;exact VU m
 simp[this];refine Vn (T:=[b,B]) (Vn (T:=[b,B]) F1 F2 w ?_ ?_) F3 w ?_ ?_<;>intro x hx<;>simp at hx|- <;>omega
theorem OS{D:List V}{q i:Nat}(hD:D.length=q*4)(hi:i<q):bq (D.take (i*4)++aW Z4 (q-i)) (i*4) ((D.drop (i*4)).take 4)=some (D.take ((i+1) *4)++aW Z4 (q-(i+1))):=by
 have l1:(D.take (i*4)).length=i*4:=by simp;omega
 have l2:((D.drop (i*4)).take 4).length=4:=by simp;omega
 rw[bN _ _ _ (by rw[l2,Vv,c9,l1];simp;omega),l2];congr 1;have K:(D.take (i*4)++aW Z4 (q-i)).take (i*4)=D.take (i*4):=by grind
 have Z:(D.take (i*4)++aW Z4 (q-i)).drop (i*4+4)=aW Z4 (q-(i+1)):=by rw[(oM:i*4+4=(D.take (i*4)).length+4),Wa,(oM:q-i=q-(i+1)+1),fG];rfl
 rw[K,Z,(oM:(i+1) *4=i*4+4),List.take_add]
theorem HV{h:b_}{b B n p q t:Nat}{l:List V}(w:WF h)(k:Gp h b B n l)(hp:p+q<=n)(ht:t+q<=n):
 av go 101 [.u b 0,ZZ (p:Int),ZZ (q:Int),ZZ (t:Int)] h fun z h'=>z=ZZ 0/\∃B',(B'=B\/h.i<=B')/\
  Gp h' b B' n ((l.take (p*4)++l.drop ((p+q) *4)).take (t*4)++(l.drop (p*4)).take (q*4)++(l.take (p*4)++l.drop ((p+q) *4)).drop (t*4))/\Fr [b,B] h h'/\(P_ h B->P_ h' B'):=by
 let⟨ll,ln,lo⟩:=k.t;let⟨v,c1,G,c2,a,g,m,k0,el,en⟩:=id k;have am:=k0.q;have t0:¬(t:Int)<0:=oM;have tq:¬((a+m:Nat):Int)-(q:Int)<(t:Int):=oM;by_cases c0:q=0;subst c0;refine ai ?_;simp only[a_,↓reduceIte,Nat.reduceEqDiff,Nat.reduceAdd];refine aa (eO k0 (p:Int) (0:Nat)) ?_;rintro _ _ ⟨rfl,rfl⟩;simp only[a_,↓reduceIte,Nat.reduceEqDiff,pS (oM:p+0<=a+m),t0];apply aa (dE k0);rintro _ _ ⟨rfl,rfl⟩;simp(disch:=omega) only[a_,↓reduceIte,Nat.reduceEqDiff,ah,tq,(iS:(((0:Nat):Int)=0)=True)];refine⟨B,.inl rfl,?_,Vk w,id⟩;simp only[VA];exact k;have nz:(q:Int)=0↔False:=by simp;omega
 refine ai ?_;simp only[a_,↓reduceIte,Nat.reduceEqDiff,Nat.reduceAdd];refine aa (eO k0 (p:Int) (q:Int)) ?_;rintro _ _ ⟨rfl,rfl⟩;simp only[a_,↓reduceIte,Nat.reduceEqDiff,pS (oM:p+q<=a+m),t0];apply aa (dE k0);rintro _ _ ⟨rfl,rfl⟩;simp(disch:=omega) only[a_,↓reduceIte,Nat.reduceEqDiff,ah,tq,nz];refine(dy _ _ _ _ _ _ _ _ oM oM oM oM).2 ?_;simp only[pi];let⟨h1,af,F1,o1⟩:=au w (aW Z4 q);have n1:=s_ af;rw[<-af];clear af;have bl:=k0.c.lt w;have Bl:B<h.i:=by obtain⟨hl,⟨_,z⟩|⟨_,o⟩⟩:=k0.d;omega;exact o.lt w
 generalize hD:(l.drop (p*4)).take (q*4)=D;have lD:D.length=q*4:=by grind
 simp only[a_,↓reduceIte];refine aC (fun n' env K=>Fr [h.i] h1 K/\∃i:Nat,env.c_ 35=some (ZZ i)/\env.c_ 34=some (ZZ q)/\env.c_ 10=some (.z h.i 0 q q)/\env.c_ 0=some (.u b 0)/\env.c_ 1=some (ZZ (p:Int))/\env.c_ 2=some (ZZ (q:Int))/\env.c_ 3=some (ZZ (t:Int))/\
  i<=q/\f_ K h.i (D.take (i*4)++aW Z4 (q-i))/\n'=q-i) q oM ?_ ?_
 exact⟨Vk F1.r,0,iS,iS,iS,iS,iS,iS,iS,oM,by simpa using o1,rfl⟩;rintro n' env K ⟨F,i,Z,ac,ab,g0,g1,g2,g3,hi,oo,rfl⟩;have kh:=(k0.f F1 iS iS).f F oO oO;have F0:Fr [] h K:=Ww w F1 F iS;by_cases c:i<q;have l0:ag K b 0=some v:=kh.c.o 0;simp(disch:=omega) only[a_,↓reduceIte,Nat.reduceEqDiff,g_,ah,Z,ac,ab,g0,g1,(oM:(i:Int)<q),l0,(oM:(p:Int)+i=((p+i:Nat):Int))];apply aa (uf kh (p+i) oM);rintro _ _ ⟨rfl,rfl⟩;have⟨a1,a2⟩:=kh.y (i:=p+i) oM;have ec:((c1++c2).drop ((p+i) *4)).take 4=(D.drop (i*4)).take 4:=by rw[<-hD,<-el,Yd,Wd,WL,WE oM];congr 2;omega
 rw[ec]at a2;have lc:((D.drop (i*4)).take 4).length=4:=by simp;omega
 have oD:aw ((D.drop (i*4)).take 4)=true:=by rw[<-hD];exact bQ _ (bH _ (bQ _ (bH _ lo)))
 have px:aP (.c 4) [.z h.i 0 q q,ZZ (i:Int)]=some (.u h.i (i*4)):=by rw[eM _ _ _ _ _ _ _ oM oM];simp
 obtain⟨x,y,z,u,ed⟩:∃x y z u,(D.drop (i*4)).take 4=[x,y,z,u]:=by
  generalize(D.drop (i*4)).take 4=cs at lc;match cs,lc with
  |[x,y,z,u],_=>exact⟨x,y,z,u,rfl⟩
 have up:=OS lD c;rw[ed]at a2 oD up;simp only[a_,g_,a1,a2,px];apply ao (v:=.B [x,y,z,u]) F.r oo rfl oD up;rintro h2 o2 F2 n2;have ae:ag h2 b 0=some v:=(F2.D b _ oO kh.c).o 0;simp(disch:=omega) only[a_,↓reduceIte,Nat.reduceEqDiff,Nat.reduceAdd,DF,Nat.reduceSub,ah,Z,l0,a2];refine t_ ⟨q-(i+1),oM,Vn F F2 F1.r (fun x m=>.inl m) (fun x m=>.inl m),i+1,iS,iX,iX,iX,iX,iX,iX,oM,o2,rfl⟩;have:i=q:=oM;subst this;have eD:D.take (i*4)++aW Z4 (i-i)=D:=by rw[<-lD,Wz,WP];simp[fU]
 rw[eD]at oo;have kg:Gp K b B n l:=(k.f F1 iS iS).f F oO oO;simp only[a_,↓reduceIte,Nat.reduceEqDiff,Z,ac,g0,g1,g2,(oM:¬(i:Int)<i)];apply aa (uI F.r kg hp);rintro _ h3 ⟨rfl,k3,F3,_⟩;simp only[a_,↓reduceIte,Nat.reduceEqDiff,ab,g0,g3];have n3:=F.i;have o3:=F3.D h.i _ oO oo;have n6:R6 D:=by rw[<-hD,el];exact k0.p.c fun x m=>by grind
 refine Xk (oX (p:=t) (q:=i) (xs:=D) F3.r k3 (fun h' f=>Wy (f.D _ _ oO o3) lD) (by rw[<-hD];exact bQ _ (bH _ lo)) n6 oM oM) ?_;rintro _ h4 ⟨rfl,B',hB,k4,F4⟩;rw[(oM:n-i+i=n)]at k4;have n4:=F3.i;simp only[a_,↓reduceIte];refine⟨B',hB.imp id (fun z=>by omega),k4,Vn (Vn F0 F3 w iS (fun x m=>.inl m)) F4 w (fun x m=>.inl m) (fun x m=>.inl m),fun _=>k4.a oM⟩
theorem Co{h:b_}{n:Nat}{x:V}{xs:List V}(w:WF h)(a:T5 h 3 x n xs)(z:nZ x=true)(Z:n<=100000):av go 127 [x] h fun u h'=>Gn 3 h' h.i u n xs/\Fr [] h h':=by by_cases c:x=.j;subst c;have:n=0:=a.2;subst this;have q:aP (.l 1 false) [.j,.j]=some (.h true):=rfl;refine ai ?_;simp[a_,q];exact⟨⟨a.1,.inl ⟨rfl,.inl rfl⟩⟩,Vk w⟩;refine ai ?_;simp[a_,(a.aT z).2.2 c];apply iQ (bytes:=24) w a z oM oM;intro K h' g f;simp[a_];exact⟨g,f⟩
theorem Fp{h:b_}:av go 127 [.j] h fun u h'=>u=.j/\h=h':=by have q:aP (.l 1 false) [.j,.j]=some (.h true):=rfl;refine ai ?_;simp[a_,q]
theorem HK{h:b_}{b S c:Nat}{m:Nat->Option Nat}(w:WF h)(k:Km h b S m c)(gS:P_ h S):
 av go 66 [.u b 0] h fun u h'=>∃b' S',u=.u b' 0/\h.i<=b'/\h.i<=S'/\S'<h'.i/\Km h' b' S' m c/\Fr [] h h'/\P_ h' S':=by
 have q:aP (.l 0 false) [.u b 0,.K]=some (.h false):=rfl;obtain⟨o,x⟩|⟨v,sl,t,k,x⟩:=k;have l0:ag h b 0=some .j:=o.o 0;have l1:ag h b 1=some (ZZ 0):=o.o 1;have l2:ag h b 2=some (ZZ 0):=o.o 2;refine ai ?_;simp only[a_,seval,g_,l0];refine aa Fp ?_;rintro _ _ ⟨rfl,rfl⟩;let⟨K,e1,Z,o1⟩:=au w [.j,ZZ 0,ZZ 0];have n1:=s_ e1;simp only[a_,seval,DF,g_,l1,l2,l0,<-e1];have k1:Km K h.i h.i m c:=.inl ⟨o1,x⟩;exact⟨h.i,h.i,rfl,Ve _,Ve _,oM,k1,Z,k1.ao⟩;have l0:ag h b 0=some v:=k.ob.o 0;have l1:ag h b 1=some (ZZ (c:Int)):=k.ob.o 1;have l2:ag h b 2=some (ZZ (t:Int)):=k.ob.o 2;have n8:=k.n8;have nb:=k.nb;have z:nZ v=true:=by obtain e|e:=k.tb.1<;>rw[e]<;>rfl
 refine ai ?_;simp only[a_,seval,g_,l0];refine aa (Co w (Sl.a k.tb.ay) z oM) ?_;rintro u K ⟨g,Z⟩;obtain⟨_,⟨e,_⟩|⟨S',hS,rfl,oS⟩⟩:=g;omega;have m1:ag K b 1=some (ZZ (c:Int)):=(Z.c_ k.ob).o 1;have m2:ag K b 2=some (ZZ (t:Int)):=(Z.c_ k.ob).o 2;have ls:=oS.lt Z.r;have n1:=Z.i;let⟨h2,e2,F2,o2⟩:=au Z.r [.L S' 0 sl.length 3,ZZ (c:Int),ZZ (t:Int)];have n2:=s_ e2;simp only[a_,seval,DF,g_,l1,l2,l0,m1,m2,<-e2];have ab:=F2.c_ oS;have k2:Km h2 K.i S' m c:=.inr ⟨_,sl,t,{k with ob:=o2,tb:=⟨.inr rfl,ab⟩},x⟩;let⟨cS,og,g6,gs⟩:=gS;have eS:=og.ae k.tb.2;subst eS;exact⟨K.i,S',rfl,n1,hS,oM,k2,Z.c F2,⟨_,ab,g6,gs⟩⟩
end Go.Ev.Lay
