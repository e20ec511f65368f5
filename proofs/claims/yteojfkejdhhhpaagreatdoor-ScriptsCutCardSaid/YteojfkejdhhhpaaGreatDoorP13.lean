/- An evaluator of the program, and contracts over it: TxJ to SfB. -/
import Derived.Test.YteojfkejdhhhpaaGreatDoorP06
import Derived.Test.YteojfkejdhhhpaaGreatDoorP07
import Derived.Test.YteojfkejdhhhpaaGreatDoorP08
import Derived.Test.YteojfkejdhhhpaaGreatDoorP12
set_option linter.unusedSimpArgs false
set_option linter.unusedVariables false
set_option linter.constructorNameAsVariable false
set_option linter.unnecessarySimpa false
set_option maxRecDepth 4000
namespace Go.Ev.Lay
variable{h h':Heap}{B b k n e N lo hi hi':Nat}{v vE:V}{cs:List V}{c:Cfg}{env:T V}{p:Nat×Int}{α:Type}{tg tx:Str}{φ:Heap->Prop}
open Go.Ev.St
theorem _root_.Go.Ev.Gs.low{Z esz:Nat}(a:Gs h B esz v cs)(U:Z<=B):Gs h Z esz v cs:=by
 rcases a with a|⟨b,n,e,l,p,q,o⟩
 ·exact .inl a
 ·exact .inr ⟨b,n,e,l,p,QY U q,o⟩
abbrev BPt:=Bool×Nat×Nat
def bpC(x:BPt):List V:=[.bool x.1,.ptr x.2.1 x.2.2]
theorem Li(x:BPt):(bpC x).length=2:=rfl
def bpS:List BPt->List V
 |[]=>[]
 |x::r=>if x.1 then .ptr x.2.1 x.2.2::bpS r else bpS r
theorem yB(b:List BPt):∀a:List BPt,bpS (a++b)=bpS a++bpS b
 |[]=>rfl
 |x::a=>by
  simp only[Rb,bpS,yB b a];split<;>rfl
theorem Dq:∀a:List BPt,(bpS a).length≤a.length
 |[]=>by simp[bpS]
 |x::a=>by
  have:=Dq a;simp only[bpS];split<;>simp<;>omega
section
variable {h : Heap}
theorem Bh{c:Nat}{f0 f1 f2 f3:Bool}{s d:V}(w:WF h)(s1:s.one=true)(d1:d.one=true)(db:(∃v,ai h b 1=some v)):
 ay go 114 [.agg [s,.bool f0,.bool f1,.bool f2,.bool f3,d],.ptr b 0,.ptr c 0] h fun u h'=>Fr [] h h'/\Gs h' h.next 1 u (bpS [(f0,b,1),(f1,b,2),(f2,b,3),(f3,c,0)]):=by
 obtain⟨L,hL⟩:∃L:List BPt,L=[(f0,b,1),(f1,b,2),(f2,b,3),(f3,c,0)]:=⟨_,rfl⟩;rw[<-hL];have on:az [s,.bool f0,.bool f1,.bool f2,.bool f3,d]=true:=by simp only[af,ag,s1,d1];rfl
 obtain⟨h1,ah,Z,U⟩:=av w [s,.bool f0,.bool f1,.bool f2,.bool f3,d];obtain⟨h2,aj,R,ak⟩:=av Z.wf [.bool f0,.ptr b 1,.bool f1,.ptr b 2,.bool f2,.ptr b 3,.bool f3,.ptr c 0];have a0:=Z.then R;have l1{h'}(f:Fr [] h1 h'):=(f.get U).l1 1;have l2{h'}(f:Fr [] h1 h'):=(f.get U).l1 2;have l3{h'}(f:Fr [] h1 h'):=(f.get U).l1 3;have l4{h'}(f:Fr [] h1 h'):=(f.get U).l1 4;have rr:=Qw (S:=[]) Z.wf;refine aa ?_;simp only[evs,seval,DF,eff,<-ah,<-aj,l1 rr,l2 rr,l3 rr,l4 rr];have rL:Recs bpC 2 h2 (.slice h1.next 0 4 4) L:=by rw[hL];exact RM (n:=4) ak rfl
 have nL:L.length=4:=by rw[hL];rfl
 have n1:=Z.next;have n2:=R.next;refine aw (fun z env hh=>Fr [] h2 hh/\∃(i:Nat)(u:V),env.get 34=some (ZZ i)/\env.get 33=some (ZZ 4)/\env.get 32=some (.slice h1.next 0 4 4)/\env.get 7=some u/\i<=4/\Gs hh h2.next 1 u (bpS (L.take i))/\z=4-i) 4 oM ?_ ?_
 ·exact⟨Qw R.wf,0,.nils,iS,iS,iS,iS,oM,.inl ⟨rfl,by simp[bpS]⟩,rfl⟩
 ·rintro z env hh ⟨F,i,u,D,ax,aF,g7,hi,G,rfl⟩;have wh:=F.wf;have u1:=G.one;by_cases ci:i<4
  ·obtain⟨bb,o,x,p1,p2,p3,p4⟩:=(QI rL F).ix Li .i64 (i:Int) oM oM;rw[so]at p4;have tk:L.take (i+1)=L.take i++[x]:=by grind
   have bl:=Dq (L.take i);rw[QN]at bl;obtain⟨f,pb,po⟩:=x;have p3:aH hh bb o 2=some [.bool f,.ptr pb po]:=p3;obtain⟨h5,aE,ab,ad⟩:=av wh [.bool false,.nilp];simp only[evs,seval,D,ax,aF,eq_true (oM:(i:Int)<4),p1,p3,<-aE];refine stu ab.wf ad ?_;rintro h6 o6 F6 n6;have I:=ab.fresh F6 wh (pi _);have q0:=o6.l1 0;have q1:=o6.l1 1;cases f with
   |false=>
    simp(disch:=omega) only[evs,seval,fwrap_i64,D,q0];refine rqn ⟨4-(i+1),oM,F.then I,i+1,u,iS,iX,iX,iX,oM,by rw[tk,yB];simpa[bpS]using G.fr I,rfl⟩
   |true=>
    obtain⟨h7,aA,J,ao⟩:=av F6.wf [.ptr pb po];simp only[evs,seval,g7,q0,q1,<-aA];refine RB (bytes:=8) (n:=1) J.wf ((G.fr I).fr J) (RM ao rfl) oM oM rfl (by have:=F.next;have:=I.next;have:=J.next;omega) oM ?_;intro u' h9 G9 e9 F9;have u2:=G9.one;have aR:=Ru R.wf (F.then (I.then J)) F9 G.vb;simp(disch:=omega) only[evs,seval,fwrap_i64,D];refine rqn ⟨4-(i+1),oM,aR,i+1,u',iS,iX,iX,iS,oM,by rw[tk,yB];exact G9,rfl⟩
  ·simp only[evs,seval,D,ax,g7,eq_false (oM:¬(i:Int)<4)];rw[Qs oM]at G;exact⟨a0.then F,G.low oM⟩
end
open Go.Ev.St
theorem vJ{call:aD}{env:T V}{k:Nat}:∀(B:List IStep)(i:Nat)(loc:List V)(h:Heap),k+1<i→lay call env [k,k+1] B i loc h=some (B.map fun s=>(s,none),h)
 |[],_,_,_,_=>rfl
 |s::B,i,loc,h,hi=>by
  have c0:(i==k)=false:=beq_false_of_ne oM;have c1:(i==k+1)=false:=beq_false_of_ne oM;have c:List.contains [k,k+1] i=false:=by grind
  simp only[lay,c,cond_false,vJ (call:=call) (env:=env) (k:=k) B (i+1) _ h oM,List.map_cons]
theorem zF{call:aD}{env:T V}{k:Nat}{R:List IStep}{h h':Heap}{r:List Go.Ev.DS}:∀(A:List IStep)(i:Nat)(loc:List V),i+A.length=k→(∀loc,lay call env [k,k+1] R k loc h=some (r,h'))→lay call env [k,k+1] (A++R) i loc h=some ((A.map fun s=>(s,none))++r,h')
 |[],i,loc,hi,hr=>by
  have:i=k:=by simpa using hi
  subst this;simpa using hr loc
 |s::A,i,loc,hi,hr=>by
  simp only[List.length_cons]at hi;have c0:(i==k)=false:=beq_false_of_ne oM;have c1:(i==k+1)=false:=beq_false_of_ne oM;have c:List.contains [k,k+1] i=false:=by grind
  simp only[List.cons_append,lay,c,cond_false,zF (call:=call) (env:=env) A (i+1) _ oM hr,List.map_cons]
theorem NW{call:aD}{R U:List V}{I:List Nat}{Z:List (Nat×Nat×Nat)}{J:List (Nat×Nat)}{Q:Ex->T V->Heap->Prop}(A B:List IStep)(D:A.length=k)
 (x:WD call env ((A.map fun s=>(s,none))++(zn (.al R),some (.ptr h.next 0,R))::(zn (.al U),some (.ptr (h.next+1) 0,U))::B.map fun s=>(s,none)) [] [halloc (halloc h R) U] (halloc (halloc h R) U) (DF call (A++zn (.al R)::zn (.al U)::B) Z J env (Q .norm))):
 W call (.dops (A++zn (.al R)::zn (.al U)::B) [k,k+1] I Z J) env h Q:=by
 refine(Ck _ _ _ _ _ _).2 ?_;have e:∀loc,lay call env [k,k+1] (zn (.al R)::zn (.al U)::B) k loc h=some ((zn (.al R),some (.ptr h.next 0,R))::(zn (.al U),some (.ptr (h.next+1) 0,U))::B.map (fun s=>(s,none)),halloc (halloc h R) U):=by
  intro loc;have c:List.contains [k,k+1] k=true:=by simp
  have c':List.contains [k,k+1] (k+1)=true:=by simp
  simp only[lay,c,c',cond_true,jM,vJ B (k+1+1) _ _ (Sz (k+1)),eZ,zP]
 rw[zF A 0 [] oM e,jq];exact x
abbrev BQ:=Nat×Nat×Int
def ntQ(n:Ntc)(X S:Nat):List BQ:=if n.k=1\/n.k=4 then[(X,1,n.a),(S,0,n.Y.length)]else if n.k=2 then[(X,1,n.a),(X,2,n.c)]else if n.k=3 then[(X,1,n.a),(X,2,n.c),(X,3,n.t)]else[(S,0,n.Y.length)]
def qP(q:BQ):V:=.ptr q.1 q.2.1
def qT(q:BQ):Str:=32::dG q.2.2
theorem Kc{n:Ntc}(U:1<=n.k)(Z:n.k<=5)(X S:Nat):(ntQ n X S).flatMap qT=lnp (us4 n.k) (nv4 n):=by
 unfold ntQ us4 nv4;rcases(by omega:n.k=1\/n.k=2\/n.k=3\/n.k=4\/n.k=5)with q|q|q|q|q<;>simp[q,lnp,pc1,qT]
theorem ntK{n:Ntc}(R:1<=n.k)(U:n.k<=5):∃(Z f1 f2 f3:Bool)(d:V),aP (.ixarr 6 6 true) [.agg xU,ZY (n.k:Int)]=some (.agg [.str (wd5.getD n.k []),.bool Z,.bool f1,.bool f2,.bool f3,d])/\d.one=true/\∀X S,bpS [(Z,X,1),(f1,X,2),(f2,X,3),(f3,S,0)]=(ntQ n X S).map qP:=by
 unfold ntQ;rcases(by omega:n.k=1\/n.k=2\/n.k=3\/n.k=4\/n.k=5)with q|q|q|q|q<;>rw[q]<;>exact⟨_,_,_,_,_,rfl,rfl,fun X S=>rfl⟩
theorem K5{n:Ntc}(o:Bi n):FI n.k n.a n.c n.t n.Y.length=0:=by
 obtain⟨U,Z,h⟩:=o;have a:=h 0 oM;have c:=h 1 oM;have t:=h 2 oM;have y:=h 3 oM;unfold Ke us4 nv4 at a c t y;unfold FI;rcases(by omega:n.k=1\/n.k=2\/n.k=3\/n.k=4\/n.k=5)with q|q|q|q|q<;>simp[q]at a c t y|- <;>simp_all
open Go.Ev.St
theorem _root_.Go.Ev.Gs.keepV{Z:List Nat}(g:Gs h B e v cs)(f:Fr Z h h')(U:∀z∈vb v,z∉Z):Gs h' B e v cs:=by
 rcases g with a|⟨b,n,rfl,l,p,q,o⟩
 ·exact .inl a
 ·exact .inr ⟨b,n,rfl,l,p,q,f.own _ _ (U b (by simp[vb])) o⟩
section
variable {h : Heap}
set_option maxHeartbeats 1000000 in
theorem Ec{vN:V}{Ns:List Nt}(w:WF h)(TT:Tq h)(rn:Recs Nt.cells 5 h vN Ns)(hx:∀x∈Ns,NtH h x)(cu:Ns.length<=32)(ok:mN Ns)(ln:(Ns.flatMap ntT).length<=1048576):
 ay go 54 [vN] h fun u h'=>u=.tup [.str (Ns.flatMap ntT),ZZ 0]/\Fr [] h h':=by
 obtain⟨h2,e2⟩:∃h2,h2=htag (halloc h [.nilp,.nils]) h.next 83 2:=⟨_,rfl⟩;have al:aux h (.alt 83 [.nilp,.nils]) []=some (.ptr h.next 0,h2):=by rw[e2];rfl
 have N2:=Bd.new w;rw[<-e2]at N2;obtain⟨B2,F2⟩:=N2;clear e2;refine aa ?_;simp only[evs,seval,rn.len,eq_false (oM:¬(32:Int)<Ns.length),iM,eg,al];refine aw (fun z env Z=>Fr [] h Z/\∃(i:Nat)(u:V),env.get 19=some (ZZ i)/\env.get 18=some (ZZ Ns.length)/\env.get 17=some vN/\env.get 4=some (.ptr h.next 0)/\i<=Ns.length/\Bd Z h.next u ((Ns.take i).flatMap ntT)/\(∀x∈vb u,h.next<=x)/\z=Ns.length-i) Ns.length oM ?_ ?_
 ·exact⟨F2,0,.nils,iS,iS,iS,iS,oM,B2,by simp[vb],rfl⟩
 ·rintro z env Z ⟨F,i,u,aj,ak,bf,g4,hi,B,fv,rfl⟩;have wh:=F.wf;have Th:Tq Z:=F.pl 2 bS iS TT;have tl:=xJ (Ns.take i) (fun x m=>hx x (QP m)) (fun x m=>ok x (QP m));rw[QN]at tl;by_cases c:i<Ns.length
  ·obtain⟨b,o,x,p1,p2,p3,p4⟩:=(QI rn F).ix fJ .i64 (i:Int) oM oM;rw[so]at p4;have xm:=Of p4;have xh:=(hx x xm).fr F;have on:=xh.on;obtain⟨nk,iY⟩:=ok x xm;have cz:=K5 nk;have yl:=CK xh iY;have nn:=F.next;obtain⟨f0,f1,f2,f3,d,ek,d1,es⟩:=ntK nk.1 nk.2.1;obtain⟨h3,bE,aE,bL⟩:=av wh [ZY 0,ZZ 0,ZZ 0,ZZ 0,.nils];simp only[evs,seval,aj,ak,bf,eq_true (oM:(i:Int)<Ns.length),p1,p3,<-bE];refine ac aE.wf bL rfl on rfl ?_;rintro h4 o4 F4 n4;have ax:=aE.fresh F4 wh (pi _);have l5:=o4.la 5
   have L0{h'}(f:Fr [] h4 h'):=(f.get o4).l1 0;have L4{h'}(f:Fr [] h4 h'):=(f.get o4).l1 4;have a3:=xh.fr ax;simp only[evs,seval,l5,Nt.cells];refine aN (ED F4.wf a3.k (Recs.a a3.r)) fun h5 F5=>?_;rw[cz];simp only[evs,seval,L4 F5];have a9:=a3.fr F5;refine aN (AO F5.wf (F5.pl 2 bS iS (ax.pl 2 bS iS Th)) a9.r a9.i iY) fun R F6=>?_;have aF:=F5.then F6;have bw:=a9.fr F6;simp only[evs,seval];refine NW [zc 113 [],zA 0 6,zL,zp (.ixarr 6 6 true) [.l 2,.l 0],zA 4 6,zL,zp .lenS [.l 0]] _ rfl ?_;have aA:=QW F6.wf pf;have bv:=Ro F6.wf pf;have aR:=QW aA.wf [ZZ 0];have o7:=Ro aA.wf [ZZ 0];have bB:=aR.get bv;have F7:=aA.then aR;have n7:(halloc (halloc R pf) [ZZ 0]).next=R.next+2:=rfl;have bK:(halloc R pf).next=R.next+1:=rfl;rw[bK]at o7;clear aA aR bv bK;generalize halloc (halloc R pf) [ZZ 0]=h7 at F7 o7 bB n7|-;have a6:=aF.then F7;simp only[evs,eff];refine aN (zH F7.wf) fun h8 F8=>?_;have ab:=a6.then F8;have cT:=(bw.fr F7).fr F8;simp only[evs,seval,eff,L0 ab,L4 ab,(bw.fr F7).r.len,ek,cR,fu];obtain⟨nm,a0⟩:∃nm,nm=wd5.getD x.n.k []:=⟨_,rfl⟩;rw[<-a0]at ek|-;have w8:=F8.wf;refine ac (c':=[.str nm,.bool f0,.bool f1,.bool f2,.bool f3,d]) w8 (F8.get bB) rfl (by simp only[V.cells,af,ag,d1];rfl) rfl ?_;rintro h9 o9 F9 n9;have cI:=F8.next;have cx:=aF.next;have X6:Z.next<R.next:=by have:=o4.lt F4.wf;omega
   simp only[evs,eff];refine stu F9.wf (F9.own _ _ iS (F8.get o7)) ?_;rintro bo b6 a8 cA;have bN:=a8.own _ _ iS o9;have bi:=((F7.then F8).fresh F9 F6.wf (pi _)).fresh a8 F6.wf oM;have I:=aF.then bi;have cm:=(F.then ax).then I;have l0:=bN.l1 0;have dc:nm.length<=6:=by rw[a0];exact wW _
   have b7:=(F9.own _ _ oO (ab.get o4)).l1 4;simp only[evs,seval,DF,g4,l0,L0 a6,L0 ab,L4 a6,L4 ab,b7];refine ae (cG (s:=nm) a8.wf (B.fr wh (ax.then I)) oM) ?_;rintro _ bn ⟨rfl,bh,a5,D⟩;have bu:=B.lt wh;have vu:=Bv.lt wh B.2.2.1;have cn:=I.next;have cr:bo.next=h8.next:=oM
   have ah:∀q∈h.next::vb u,q<Z.next:=fun q m=>by
    rcases Qy.1 m with rfl|m
    ·exact bu
    ·exact vu q m
   have oX:=D.1.own _ _ (fun m=>by have:=ah _ m;omega) (I.get o4);have oS:=D.1.own _ _ (fun m=>by have:=ah _ m;omega) b6;have oK:=D.1.own _ _ (fun m=>by have:=ah _ m;omega) bN;have lK:=oK.la 6
   have bm:∀q∈vb bh,h.next<=q/\(q<Z.next\/bo.next<=q):=fun q m=>by
    rcases D.2 q m with m|m
    ·exact⟨fv q m,.inl (vu q m)⟩
    ·exact⟨oM,.inr m⟩
   have ao:=Ru w cm D.1 (fun q m=>by
    rcases Qy.1 m with rfl|m
    ·exact pi _
    ·exact fv q m)
   simp only[evs,seval,lK];refine ae (Bh (c:=R.next+1) ao.wf rfl d1 ⟨_,oX.ld1 1⟩) ?_;rintro vq ci ⟨ad,Gq⟩;rw[es]at Gq;have Q3:∀q∈ntQ x.n Z.next (R.next+1),i64 q.2.2/\∀{h'},Own h' Z.next x.cells->Own h' (R.next+1) [ZZ (x.n.Y.length:Int)]->ai h' q.1 q.2.1=some (ZZ q.2.2):=fun q m=>by
    have ha:=xh.a;have hc:=xh.c;have ht:=xh.t;have hy:i64 (x.n.Y.length:Int):=⟨oM,by have:=xh.n;omega⟩;have qa:i64 x.n.a/\∀{h'},Own h' Z.next x.cells->Own h' (R.next+1) [ZZ (x.n.Y.length:Int)]->ai h' Z.next 1=some (ZZ x.n.a):=⟨ha,fun o _=>o.ld1 1⟩;have qc:i64 x.n.c/\∀{h'},Own h' Z.next x.cells->Own h' (R.next+1) [ZZ (x.n.Y.length:Int)]->ai h' Z.next 2=some (ZZ x.n.c):=⟨hc,fun o _=>o.ld1 2⟩;have qt:i64 x.n.t/\∀{h'},Own h' Z.next x.cells->Own h' (R.next+1) [ZZ (x.n.Y.length:Int)]->ai h' Z.next 3=some (ZZ x.n.t):=⟨ht,fun o _=>o.ld1 3⟩;have qy:i64 (x.n.Y.length:Int)/\∀{h'},Own h' Z.next x.cells->Own h' (R.next+1) [ZZ (x.n.Y.length:Int)]->ai h' (R.next+1) 0=some (ZZ (x.n.Y.length:Int)):=⟨hy,fun _ o=>o.ld1 0⟩;unfold ntQ at m;split at m
    ·rcases Qy.1 m with rfl|m
     ·exact qa
     ·simp at m;subst m;exact qy
    ·split at m
     ·rcases Qy.1 m with rfl|m
      ·exact qa
      ·simp at m;subst m;exact qc
     ·split at m
      ·rcases Qy.1 m with rfl|m
       ·exact qa
       ·rcases Qy.1 m with rfl|m
        ·exact qc
        ·simp at m;subst m;exact qt
      ·simp at m;subst m;exact qy
   have q4:(ntQ x.n Z.next (R.next+1)).length<=3:=by unfold ntQ;(repeat' split)<;>simp
   have qt:=Kc nk.1 nk.2.1 Z.next (R.next+1);generalize ntQ x.n Z.next (R.next+1)=Q at Gq Q3 q4 qt;have cN:=D.1.next;have br:=Gq.vb;have lq{h'}(G:Gs h' bn.next 1 vq (Q.map qP)):=(SM (n:=Q.length) G iS oM).len;simp only[evs,seval,lq Gq];have bP:(Q.flatMap qT).length<=66:=by
    have:∀Q:List BQ,(∀q∈Q,i64 q.2.2)->(Q.flatMap qT).length<=22*Q.length:=fun Q=>by
     induction Q with
     |nil=>simp
     |cons q Q ih=>
      intro hq;have:=ih fun z m=>hq z (QO _ m);have:=bW (hq q (RX ..));simp only[QT,Qv,QB,qT];omega
    have:=this Q fun q m=>(Q3 q m).1;omega
   obtain⟨Z0,a4⟩:∃Z0,Z0=(Ns.take i).flatMap ntT++nm:=⟨_,rfl⟩;rw[<-a4]at a5;have Zl:Z0.length<=8000010:=by rw[a4,Qv];omega
   refine aw (fun z env hm=>Fr [] h hm/\ci.next<=hm.next/\∃(j:Nat)(u:V),env.get 50=some (ZZ j)/\env.get 49=some (ZZ Q.length)/\env.get 48=some vq/\env.get 4=some (.ptr h.next 0)/\env.get 8=some (.str (x.n.Y.flatMap itL))/\env.get 19=some (ZZ i)/\env.get 18=some (ZZ Ns.length)/\env.get 17=some vN/\j<=Q.length/\Bd hm h.next u (Z0++(Q.take j).flatMap qT)/\Own hm Z.next x.cells/\Own hm (R.next+1) [ZZ (x.n.Y.length:Int)]/\Gs hm bn.next 1 vq (Q.map qP)/\(∀q∈vb u,h.next<=q/\q≠Z.next/\q≠R.next+1/\q∉vb vq)/\z=Q.length-j) Q.length oM ?_ ?_
   ·exact⟨ao.then ad,pi _,0,bh,iS,iS,iS,iX,iS,iX,iX,iX,oM,by simpa using a5.fr ao.wf ad,ad.get oX,ad.get oS,Gq,fun q m=>by
     have:=bm q m;have l:=Bv.lt ao.wf a5.2.2.1 q m;refine⟨this.1,oM,oM,fun m'=>?_⟩;have:=br q m';omega,rfl⟩
   ·clear aj ak bf g4;rintro z env hm ⟨Fm,cq,j,um,bc,bt,ce,g4,g8,aj,ak,bf,hj,Bm,bI,a2,Gm,fm,rfl⟩;have wm:=Fm.wf;have Tm:Tq hm:=Fm.pl 2 bS iS TT;have db:=ad.next;by_cases cj:j<Q.length
    ·obtain⟨b',o',q,bY,ch,bg⟩:=Vals.ix (show Vals qP hm vq Q from SM Gm iS oM) .i64 (j:Int) oM oM;rw[so]at bg;have qm:=Of bg;obtain⟨q64,ql⟩:=Q3 q qm;have cl:=ql bI a2;have il:=bW q64;simp only[evs,seval,bc,bt,ce,eq_true (oM:(j:Int)<Q.length),bY,ch,qP,cl];refine aN (CU wm Tm q64) fun ct J=>?_;have fl:((Q.take j).flatMap qT).length<=66:=by
      have e:Q.flatMap qT=(Q.take j).flatMap qT++(Q.drop j).flatMap qT:=by rw[<-QV,RH]
      rw[e,Qv]at bP;omega
     simp only[evs,seval,g4,aI [32] (dG q.2.2) oO];refine ae (cG J.wf (Bm.fr wm J) (by simp only[Qv,QB,Rf];omega)) ?_;rintro _ ca ⟨rfl,a1,a7,U⟩;simp(disch:=omega) only[evs,seval,fwrap_i64,bc];have cy:=J.next;have bT:=U.1.next;have X1:Z.next∉h.next::vb um:=fun m=>by
      rcases Qy.1 m with m|m
      ·omega
      ·exact(fm _ m).2.1 rfl
     have S1:R.next+1∉h.next::vb um:=fun m=>by
      rcases Qy.1 m with m|m
      ·omega
      ·exact(fm _ m).2.2.1 rfl
     have G1:∀z∈vb vq,z∉h.next::vb um:=fun z mz m=>by
      rcases Qy.1 m with rfl|m
      ·have:=br _ mz;omega
      ·exact(fm _ m).2.2.2 mz
     have da:=a2.lt wm;have cc:∀z∈vb vq,z<hm.next:=fun z mz=>by
      rcases Gm with⟨rfl,_⟩|⟨bz,_,rfl,_,_,_,oz⟩
      ·simp[vb]at mz
      ·simp[vb]at mz;subst mz;exact oz.lt wm
     refine rqn ⟨Q.length-(j+1),oM,Ru w (Fm.then J) U.1 (fun q m=>by
      rcases Qy.1 m with rfl|m
      ·exact pi _
      ·exact(fm q m).1),oM,j+1,a1,iS,iX,iX,iX,iX,iX,iX,iX,oM,?_,U.1.own _ _ X1 (J.get bI),U.1.own _ _ S1 (J.get a2),(Gm.fr J).keepV U.1 G1,fun q m=>?_,rfl⟩
     ·rw[bD bg,<-QE];exact a7
     ·rcases U.2 q m with m|m
      ·exact fm q m
      ·exact⟨oM,oM,oM,fun m'=>by have:=cc q m';omega⟩
    ·rw[Qs oM]at Bm;have cS:=mQ x.n.Y fun y m=>⟨iY.2 y m,(xh.i y m).k,(xh.i y m).t⟩;have:=iY.1;simp only[evs,seval,bc,bt,g4,g8,eq_false (oM:¬(j:Int)<Q.length),aI [10] (x.n.Y.flatMap itL) (by simp only[QB,Rf];omega)];refine ae (cG wm Bm (by simp only[Qv,QB,Rf];omega)) ?_;rintro _ ca ⟨rfl,a1,a7,U⟩;simp(disch:=omega) only[evs,seval,fwrap_i64,aj];have bT:=U.1.next;have cW:=Fm.next;refine rqn ⟨Ns.length-(i+1),oM,Ru w Fm U.1 (fun q m=>by
      rcases Qy.1 m with rfl|m
      ·exact pi _
      ·exact(fm q m).1),i+1,a1,iS,iX,iX,iX,oM,?_,fun q m=>(U.2 q m).elim (fun m=>(fm q m).1) (fun m=>by omega),rfl⟩
     rw[bD p4];have e:Z0++Q.flatMap qT++([10]++x.n.Y.flatMap itL)=(Ns.take i).flatMap ntT++ntT x:=by
      rw[a4,qt,ntT,ntL,a0];simp only[QE]
     rw[<-e];exact a7
  ·rw[Qs oM]at B;simp only[evs,seval,aj,ak,g4,eq_false (oM:¬(i:Int)<Ns.length)];refine dm (uI B) ?_;simp only[evs,seval,g4,eq_false (oM:¬(1048576:Int)<((Ns.flatMap ntT).length:Int))];refine ae (eA wh B oM) ?_;rintro _ h5 ⟨rfl,F5⟩;simp only[evs,seval];exact Ru w F F5 (fun x m=>by
    rcases Qy.1 m with rfl|m
    ·exact pi _
    ·exact fv x m)
end
open Go.Ev.St
section
variable {h : Heap} {vT : V} {Tl : List (Nat × Int)} {m : Nat -> Option Nat} {b S c : Nat}
theorem Ey(w:WF h)(k:Km h b S m c)(D:c<4096)(mk:m p.1=none)(p1:1<=p.1/\p.1<18446744073709551616)(p2:1<=p.2/\p.2<=64):
 ay go 144 [.agg (htC p),ZZ 1,.ptr b 0] h fun u h'=>u=ZZ 0/\∃S',(S'=S\/h.next<=S')/\Km h' b S' (lJ m p.1 0) (c+1)/\Fr [b,S] h h':=by
 obtain⟨h1,J,Z,U⟩:=av w (htC p);have e1:halloc h [ZX (p.1:Int),ZZ p.2]=h1:=J.symm;have q0{h'}(f:Fr [] h1 h'):=(f.get U).l1 0;have q1{h'}(f:Fr [] h1 h'):=(f.get U).l1 1;unfold htC;refine aa ?_;simp only[evs,seval,e1,q0 (Qw Z.wf)];refine aN (Kw Z.wf (k.fr Z) oM) fun h2 I=>?_;have R:=Z.then I;simp only[evs,seval,mk,Mn,q0 I,q1 I,eq_false (oM:¬(p.1:Int)=0),eq_false (oM:¬p.2<1),eq_false (oM:¬2305843009213693952<p.2)];refine ae (Kt (x:=0) I.wf (k.fr R) (.inl D) oM oM oM) ?_;rintro _ h3 ⟨rfl,S',s1,k3,F3⟩;rw[mk]at k3;simp only[evs,seval];have:=R.next;exact⟨S',s1.imp id (fun q=>by omega),k3,R.trans F3 w iS iS⟩
theorem Ed(w:WF h)(a:TZ h vT Tl)(ok:Cz 1 Tl):ay go 116 [vT,ZZ 1] h fun u h'=>u=.tup [ZZ 0,ZZ 0]/\Fr [] h h':=by
 have hl:=a.n;have ar:=a.r;refine aa ?_;simp only[evs,seval,ar.len,decide_eq_false (oM:¬(1:Int)<1),decide_eq_false (oM:¬(2305843009213693952:Int)<1),eq_false (oM:¬(256:Int)<Tl.length)];refine ae (Ku w) ?_;rintro _ h1 ⟨b,rfl,hb,k1,F1⟩;simp only[evs,seval,ar.len];refine aw (fun n env hh=>Fr [] h hh/\∃(i S:Nat)(m:Nat->Option Nat),env.get 24=some (ZZ i)/\env.get 23=some (ZZ Tl.length)/\env.get 22=some vT/\env.get 1=some (ZZ 1)/\env.get 6=some (.ptr b 0)/\
  i<=Tl.length/\h.next<=S/\Km hh b S m i/\(∀k,m k≠none->k∈(Tl.take i).map Prod.fst)/\n=Tl.length-i) Tl.length oM ?_ ?_
 ·exact⟨F1,0,b,_,iS,iS,iS,iS,iS,oM,hb,k1,fun k x=>absurd rfl x,rfl⟩
 rintro n env hh ⟨F,i,S,m,U,ab,ad,g1,g6,hi,hS,km,hm,rfl⟩;by_cases c:(i:Int)<Tl.length
 ·obtain⟨bi,oi,p,e1,_,e3,e4⟩:=(QI ar F).ix dM .i64 (i:Int) oM c;rw[so]at e4;have em:=Of e4;have ah:aH hh bi oi 2=some [ZX (p.1:Int),ZZ p.2]:=e3;obtain⟨o1,o2,o3,o4⟩:=ok i p e4;have tk:(Tl.take (i+1)).map Prod.fst=(Tl.take i).map Prod.fst++[p.1]:=by rw[QS,e4];simp
  have mn:m p.1=none:=by grind
  obtain⟨h2,J,Z,I⟩:=av F.wf [ZX 0,ZZ 0];simp only[evs,seval,U,ab,ad,c,e1,ah,<-J];refine stu Z.wf I ?_;rintro h3 o3 F3 n3;have R:=Z.fresh F3 F.wf (pi _);have l3:=o3.la 2
  simp only[evs,seval,g1,g6,l3];refine ae (Ey (p:=p) R.wf (km.fr R) oM mn ⟨oM,a.k p em⟩ (a.z p em)) ?_;rintro _ h4 ⟨rfl,S',s1,k4,F4⟩;have D:=F.then R;have aj:=D.next;simp(disch:=omega) only[evs,seval,fwrap_i64,U];refine rqn ⟨Tl.length-(i+1),oM,Ru w D F4 oO,i+1,S',lJ m p.1 0,iS,iX,iX,iX,iX,oM,by rcases s1 with rfl|q<;>omega,k4,?_,rfl⟩
  intro k hk;rw[tk,Qp,RF];by_cases q:k=p.1
  ·exact .inr q
  ·refine .inl (hm k ?_);simpa[lJ,q]using hk
 ·simp only[evs,seval,U,ab,c];exact F
def htL(p:Nat×Int):Str:=dec p.1++[32]++dG p.2++[10]
theorem ya(Z:p.1<18446744073709551616)(U:1<=p.2/\p.2<=64):(htL p).length<=43:=by
 have:=aT Z;have:=bW (n:=p.2) ⟨oM,oM⟩;simp only[htL,Qv,QB,Rf];omega
theorem qK(a:TZ h vT Tl):∀i,((Tl.take i).flatMap htL).length<=43*Tl.length:=fun i=>by
 have:∀T:List (Nat×Int),(∀p∈T,p∈Tl)->(T.flatMap htL).length<=43*T.length:=fun T=>by
  induction T with
  |nil=>simp
  |cons p T ih=>
   intro hT;have:=ih fun q m=>hT q (QO _ m);have pm:=hT p (RX ..);have:=ya (a.k p pm) (a.z p pm);simp only[QT,Qv,QB];omega
 have:=this (Tl.take i) fun p m=>QP m;rw[QN]at this;omega
theorem Eb(w:WF h)(TT:Tq h)(a:TZ h vT Tl)(ok:Cz 1 Tl):ay go 55 [vT] h fun u h'=>u=.tup [.str (Tl.flatMap htL),ZZ 0]/\Fr [] h h':=by
 have hl:=a.n;refine aa ?_;simp only[evs,seval];refine aN (Ed w a ok) fun R F1=>?_;obtain⟨h2,e2⟩:∃h2,h2=htag (halloc R [.nilp,.nils]) R.next 83 2:=⟨_,rfl⟩;have al:aux R (.alt 83 [.nilp,.nils]) []=some (.ptr R.next 0,h2):=by rw[e2];rfl
 have N2:=Bd.new F1.wf;rw[<-e2]at N2;obtain⟨B2,F2⟩:=N2;clear e2;have n1:=F1.next;have ar:=a.r;have w1:=F1.wf;simp only[evs,seval,iM,eg,al,(QI ar (F1.then F2)).len];refine aw (fun z env hh=>Fr [] h hh/\∃(i:Nat)(u:V),env.get 19=some (ZZ i)/\env.get 18=some (ZZ Tl.length)/\env.get 17=some vT/\env.get 6=some (.ptr R.next 0)/\i<=Tl.length/\Bd hh R.next u ((Tl.take i).flatMap htL)/\(∀x∈vb u,R.next<=x)/\z=Tl.length-i) Tl.length oM ?_ ?_
 ·exact⟨F1.then F2,0,.nils,iS,iS,iS,iS,oM,B2,by simp[vb],rfl⟩
 ·rintro z env hh ⟨F,i,u,I,ab,ak,g6,hi,B,fv,rfl⟩;have wh:=F.wf;have Th:Tq hh:=F.pl 2 bS iS TT;have tl:=qK a i;by_cases c:i<Tl.length
  ·obtain⟨b,o,y,p1,p2,p3,p4⟩:=(QI ar F).ix dM .i64 (i:Int) oM oM;rw[so]at p4;have ym:=Of p4;have yk:=a.k y ym;have yz:=a.z y ym;have nn:=F.next;have p3:aH hh b o 2=some [ZX (y.1:Int),ZZ y.2]:=p3;have Bl:=B.lt wh;obtain⟨h3,ah,Z,aj⟩:=av wh [ZX 0,ZZ 0];simp only[evs,seval,I,ab,ak,eq_true (oM:(i:Int)<Tl.length),p1,p3,<-ah];refine stu Z.wf aj ?_;rintro h4 o4 F4 n4;have J:=Z.fresh F4 wh (pi _);have L0{h'}(f:Fr [] h4 h'):=(f.get o4).l1 0;have L1{h'}(f:Fr [] h4 h'):=(f.get o4).l1 1;have rr:=Qw (S:=[]) F4.wf;simp only[evs,seval,eff,L0 rr];refine aN (we F4.wf (J.pl 2 bS iS Th) yk) fun h5 U=>?_;have k1:=aT yk;have k2:=bW (n:=y.2) ⟨oM,oM⟩;simp only[evs,seval,eff,L1 U,aI (dec y.1) [32] oO];refine aN (E9 U.wf ((J.then U).pl 2 bS iS Th) ⟨oM,oM⟩) fun h6 F6=>?_;rw[Di];have ad:=U.then F6;have D:=J.then ad;simp only[evs,seval,eff,g6,aI (dec y.1++[32]) (dG y.2) oO,aI (dec y.1++[32]++dG y.2) [10] oO];have yl:=ya yk yz;refine ae (cG (s:=htL y) F6.wf (B.fr wh D) oM) ?_;rintro _ h7 ⟨rfl,u7,B7,W7⟩;have F7:=Ru w (F.then D) W7.1 (fun x m=>by
    rcases Qy.1 m with rfl|m
    ·omega
    ·have:=fv x m;omega)
   have n6:=D.next;have oL:ai h7 hh.next 1=some (ZZ y.2):=by
    refine(W7.1.own _ _ (fun m=>?_) (ad.get o4)).ld1 1;rcases Qy.1 m with m|m
    ·omega
    ·have:=Bv.lt wh B.2.2.1 _ m;omega
   simp(disch:=omega) only[evs,seval,DF,fwrap_i64,L0 rr,L1 rr,L1 U,I];refine rqn ⟨Tl.length-(i+1),oM,F7,i+1,u7,iS,iX,iX,iX,oM,?_,fun x m=>(W7.2 x m).elim (fv x) (fun q=>by omega),rfl⟩;rw[bD p4];exact B7
  ·simp only[evs,seval,I,ab,g6,eq_false (oM:¬(i:Int)<Tl.length)];refine ae (eA wh B oM) ?_;rintro _ h5 ⟨rfl,U⟩;simp only[evs,seval];rw[Qs oM];exact⟨rfl,Ru w F U (fun x m=>by
    rcases Qy.1 m with rfl|m
    ·omega
    ·have:=fv x m;omega)⟩
end
open Go.Ev.St
structure EvOK(x:Evt):Prop where
 k:1<=x.k/\x.k<=7
 to:x.to≠0->x.k=1\/x.k=2\/x.k=4\/x.k=7
 key:x.key≠0->x.k=3
 n5:0<x.Ns.length->x.k=5
 n:x.Ns.length<=32
 ok:mN x.Ns
 s:(x.Ns.flatMap ntT).length<=1048576
 t:x.Tl.length<=256/\Cz 1 x.Tl
set_option maxHeartbeats 1000000 in
theorem BH{h:Heap}{x:Evt}{N:Nat}(wf:WF h)(xh:EvtH h x N):ay go 17 [.agg x.cells] h fun u h'=>Fr [] h h'∧∃e:Int,u=.int .i64 e∧0≤e∧(e=0→EvOK x):=by
 have on:=xh.on;obtain⟨h1,e_h1,F_h1,o_h1⟩:=av wf x.cells;have xh1:=xh.fr F_h1;have l0:=o_h1.l1 0;have l1:=o_h1.l1 1;have l2:=o_h1.l1 2;have l3:=o_h1.l1 3;have l4{h'}(f:Fr [] h1 h'):=(f.get o_h1).l1 4;have nN:=xh.n;have nT:=xh.t.n;have r0:=Fr.refl (S:=[]) F_h1.wf;have D:∀p:Prop,p=True∨p=False:=fun p=>by grind
 by_cases k1:(x.k:Int)<1
 ·refine aa ?_;simp only[evs,seval,←e_h1,l0,k1];exact⟨F_h1,_,rfl,oM,fun h=>by omega⟩
 by_cases k7:7<(x.k:Int)
 ·refine aa ?_;simp only[evs,seval,←e_h1,l0,k1,k7];exact⟨F_h1,_,rfl,oM,fun h=>by omega⟩
 refine aa ?_;simp only[evs,seval,←e_h1];by_cases t:x.k=1∨x.k=2∨x.k=4∨x.k=7
 case' pos=>
  apply CS
  ·rcases D ((x.k:Int)=1)with e1|e1<;>rcases D ((x.k:Int)=2)with e2|e2<;>rcases D ((x.k:Int)=4)with e3|e3<;>rcases D ((x.k:Int)=7)with e4|e4;all_goals try (exfalso;simp only[eq_iff_iff,iff_true,iff_false]at e1 e2 e3 e4;omega)
   all_goals
    intro pass;simp only[evs,seval,l0,k1,k7,e1,e2,e3,e4];exact pass
 case' neg=>
  apply CS
  ·rcases D ((x.k:Int)=1)with e1|e1<;>rcases D ((x.k:Int)=2)with e2|e2<;>rcases D ((x.k:Int)=4)with e3|e3<;>rcases D ((x.k:Int)=7)with e4|e4;all_goals try (exfalso;simp only[eq_iff_iff,iff_true,iff_false]at e1 e2 e3 e4;omega)
   all_goals
    intro pass;simp only[evs,seval,l0,k1,k7,e1,e2,e3,e4];exact pass
 all_goals
  by_cases Q:(x.to=0∨(x.k=1∨x.k=2∨x.k=4∨x.k=7))∧(x.key=0∨x.k=3)∧(x.Ns.length=0∨x.k=5)
  rotate_left
  ·rcases D (x.to=0)with e1|e1<;>rcases D ((x.key:Int)=0)with e2|e2<;>rcases D ((x.k:Int)=3)with e3|e3<;>rcases D ((0:Int)<(x.Ns.length:Int))with e4|e4<;>rcases D ((x.k:Int)=5)with e5|e5;all_goals try (exfalso;simp only[eq_iff_iff,iff_true,iff_false]at e1 e2 e3 e4 e5;omega)
   all_goals
    simp only[evs,seval,l0,l1,l2,l3,xh1.rn.len,e1,e2,e3,e4,e5];exact⟨F_h1,5,rfl,oM,fun h=>by omega⟩
  ·apply CS
   ·rcases D (x.to=0)with e1|e1<;>rcases D ((x.key:Int)=0)with e2|e2<;>rcases D ((x.k:Int)=3)with e3|e3<;>rcases D ((0:Int)<(x.Ns.length:Int))with e4|e4<;>rcases D ((x.k:Int)=5)with e5|e5;all_goals try (exfalso;simp only[eq_iff_iff,iff_true,iff_false]at e1 e2 e3 e4 e5;omega)
    all_goals
     intro pass;simp only[evs,seval,l0,l1,l2,l3,xh1.rn.len,e1,e2,e3,e4,e5];exact pass
   ·simp only[evs,seval,l3,l4 r0,xh1.t.r.len,eq_false (oM:¬(32:Int)<x.Ns.length),eq_false (oM:¬(256:Int)<x.Tl.length)];refine ae (uS F_h1.wf xh1.rn xh1.hx oM) ?_;rintro _ h2 ⟨F2,s,e,rfl,e0,ei,es⟩;by_cases ce:0<e
    ·simp only[evs,seval,ce];exact⟨F_h1.then F2,_,rfl,e0,fun q=>by omega⟩
    have ok:=ei.1 oM;simp only[evs,seval,ce,l4 F2];refine ae (tL (l:=1) (xh1.fr F2).t.r oM oM oM) ?_;rintro _ _ ⟨rfl,i,e',rfl,e0',ei'⟩;simp only[evs,seval];exact⟨F_h1.then F2,_,rfl,e0',fun q=>⟨oM,fun z=>Q.1.resolve_left z,fun z=>Q.2.1.resolve_left z,fun z=>Q.2.2.resolve_left oM,ok.1,ok.2.1,ok.2.2,ei'.1 q⟩⟩
open Go.Ev.St
def VK(q:Knd):Prop:=q.k=1/\q.tx=[]/\cB 1 q.tg q.ky q.sl [] q.sub.len=true/\q.sub.vl 3/\q.sub.nd<=11
def JC(q0 q:Knd):Prop:=q.base=q0.base/\q.pool=q0.pool/\(q=q0\/VK q)
abbrev S8:List V:=[ZZ 0,ZZ 0,ZZ 0,.nils,ZZ 0,ZZ 0,ZY 0,.nils]
structure ScrH(h:Heap)(c:Cfg)(vE:V)(Xs:List Evt):Prop where
 ks:Recs Knd.cells 9 h c.vK c.Ks
 kh:∀q∈c.Ks,KndH h q
 k3:c.Ks.length=3
 ev:Recs Evt.cells 5 h vE Xs
 eh:∀x∈Xs,EvtH h x 1000
 eo:∀x∈Xs,EvOK x
 n:Xs.length<=16
def scC(c:Cfg)(vE:V):List V:=c.cells++[vE]
theorem jU{f:α->List V}{L:List α}(hf:∀x,(f x).length=k)(o:Own h b (L.flatMap f))(Z:L.length=n):Recs f k h (.slice b 0 n n) L:=by
 subst Z;exact RM o (au hf L)
section
variable {h : Heap} {vB vP : V} {Bs : List B6} {Ps : List P14} {b0 b1 b2 b3 b4 fl : Nat}
set_option maxHeartbeats 1000000 in
theorem GT(wf:WF h)(hb:b0<256/\b1<256/\b2<256/\b3<256/\b4<256)(rB:ARecs B6.cells 6 h vB Bs)(oB:∀b∈Bs,b.ok)(nB:Bs.length<281474976710656)(rP:ARecs P14.cells 3 h vP Ps)(b6:∀p∈Ps,P14H h p)(cu:fl<256)(nP:Ps.length<281474976710656):
 ay go 5 [.agg (c5 b0 b1 b2 b3 b4++[vB,vP,ZY (fl:Int)])] h fun u h'=>Fr [] h h'/\∃(c0 c:Cfg)(vE:V)(Xs:List Evt),u=.agg (scC c vE)/\vE≠.sliceE/\ScrH h' c vE Xs/\c.flaw<7/\c.view=c0.view/\c.over=c0.over/\c.least=c0.least/\c.cap=c0.cap/\c.arena=c0.arena/\RK c0.Ks/\c0.cap=12/\(1<=c0.least/\c0.least<=6)/\(1<=c0.view/\c0.view<=200)/\(0<=c0.over/\c0.over<=3)/\(1<=c0.arena/\c0.arena<=65536)/\(∀q∈c0.Ks,6<=q.base/\0<=q.pool/\q.pool<=16)/\∀(j:Nat)(q0 q:Knd),c0.Ks[j]? =some q0->c.Ks[j]? =some q->JC q0 q:=by
 have cq:=Ug rB;have cl:=Ug rP;obtain⟨SC,cn⟩:∃SC:List V,SC=c5 b0 b1 b2 b3 b4++[vB,vP,ZY (fl:Int)]:=⟨_,rfl⟩;obtain⟨h1,aR,a0,br⟩:=av wf (c5 b0 b1 b2 b3 b4++[vB,vP,ZY (fl:Int)]);obtain⟨h2,aE,a3,a9⟩:=av a0.wf S8;have n1:=hnx aR
 have n2:=hnx aE
 have bg:=a0.then a3;have ob:=a3.get br;have w2:=bg.wf;have e1:halloc h [ZY (b0:Int),ZY (b1:Int),ZY (b2:Int),ZY (b3:Int),ZY (b4:Int),vB,vP,ZY (fl:Int)]=h1:=aR.symm;have bw:aH h2 h.next 0 5=some (c5 b0 b1 b2 b3 b4):=by rw[ob.ld];rfl
 have lB{h'}(f:Fr [] h2 h'):aH h' h.next 5 1=some [vB]:=by rw[(f.get ob).ld];rfl
 refine aa ?_;simp only[evs,seval,e1,<-aE,bw];refine ae (IM w2 hb) ?_;rintro _ R ⟨F3,c,kb,rfl,cd⟩;have bu:=bg.then F3;have w3:=F3.wf;have n3:=F3.next;have cj:=cd.o.lt w3;have ch:=cd.b;have kv:c.vK.one=true:=by rw[cd.v];rfl
 have oc:az c.cells=true:=by simp only[Cfg.cells,af,ag,kv];rfl
 obtain⟨h4,a2,a4,bf⟩:=av w3 S8;have n4:=hnx a2
 simp only[evs,seval,Cfg.cells,<-a2];refine ac (c':=scC c .nils) a4.wf bf rfl (by simp only[V.cells,af,ag,kv];rfl) rfl ?_;rintro h5 o5 F5 n5;have ad:=a4.fresh F5 w3 (pi _);have bh:=bu.then ad;have bi:=F3.then ad;have w5:=F5.wf;have lK{h'}{c':Cfg}{v}(o:Own h' R.next (scC c' v)):aH h' R.next 0 7=some c'.cells:=by rw[o.ld];rfl
 have k3:=cd.r.2.1;have bK:RZ h5 c.vK c.Ks:=⟨by rw[cd.v];exact jU aW (ad.get cd.o) k3,fun q m=>cd.s [] h5 iS ad q m,cd.r⟩;simp only[evs,seval,lB bi,lK o5];obtain⟨P,hP⟩:∃P:Nat->Prop,P=fun z=>z=R.next\/z=kb\/z=h1.next:=⟨_,rfl⟩;have bI:∀z,P z->z<h5.next:=fun z q=>by
  rw[hP]at q;rcases q with rfl|rfl|rfl<;>omega
 refine ae (ID w5 bI bK cd.cap cd.le (TC rB bh) oB nB) ?_;rintro vA h6 ⟨F6,I,GA,nX,sX⟩;have w6:=F6.wf;have n6:=F6.next;have o6:=F6.get o5;simp only[evs];have lv{h'}{c':Cfg}{v}(o:Own h' R.next (scC c' v)):=o.l1 7;have bv:kb≠R.next:=oM
 refine aw (fun z env hh=>Fr [R.next] h6 hh/\∃(i:Nat)(u:V)(Ys:List Evt),env.get 5=some (ZZ i)/\env.get 4=some vA/\env.get 1=some (.ptr h.next 0)/\env.get 2=some (.ptr h1.next 0)/\env.get 3=some (.ptr R.next 0)/\i<=I.length/\Own hh R.next (scC c u)/\Gs hh h6.next 5 u (Ys.flatMap Evt.cells)/\Ys.length<=i/\(∀y∈Ys,y∈I/\EvOK y)/\z=I.length-i) I.length oM ?_ ?_
 ·exact⟨Qx (Qw (S:=[]) w6) (Qw (S:=[]) w6) w6 iS iS,0,.nils,[],iS,iS,iS,iS,iS,oM,o6,.inl ⟨rfl,rfl⟩,iS,iS,rfl⟩
 ·rintro z env hh ⟨F,i,u,Ys,g5,g4,g1,g2,g3,hi,oo,G,nY,hY,rfl⟩;have w:=F.wf;have u1:=G.one;have nh:=F.next;have S3:∀z∈[R.next],P z\/h6.next<=z:=fun z q=>.inl (by rw[hP];exact .inl (eV q));have rX:Recs Evt.cells 5 hh vA I:=SM (n:=I.length) (GA.keep F oO) (au aZ _) oM;by_cases ci:i<I.length
  ·obtain⟨b,o,x,p1,p2,p3,p4⟩:=Rg aZ rX .i64 (i:Int) oM oM;rw[so]at p4;have xm:=Of p4;have eh:=sX x xm [R.next] hh S3 F;have bL:=eh.on;have lx{h'}(f:Fr [] hh h'):aH h' b o 5=some x.cells:=by
    obtain⟨b',o',x',q1,q2,q3,q4⟩:=Rg aZ (QI rX f) .i64 (i:Int) oM oM;rw[p1]at q1;cases q1;rw[so,p4]at q4;cases q4;exact q3
   simp only[evs,seval,g5,g4,rX.len,eq_true (oM:(i:Int)<I.length),p1,p3];refine ae (BH w eh) ?_;rintro _ h7 ⟨D,e,rfl,e0,eo⟩;have bo:=Qx F D w6 (fun z q=>.inl q) iS;have ao:=D.get oo;by_cases ce:e=0
   ·obtain⟨h8,a1,ab,bc⟩:=av D.wf x.cells;have n8:=hnx a1
    have n7:=D.next;have ah:=D.then ab;have bm:=ab.get ao;simp only[evs,seval,eff,eq_true ce,g5,g4,g3,lv ao,p1,lx D,Dd,aZ x,<-a1];refine RB (bytes:=72) (n:=1) ab.wf (G.fr ah) (RM bc rfl) oM oM bL oM (by rw[au aZ];omega) ?_;intro u' h9 G9 e9 F9;have u2:=G9.one;have nu:R.next∉vb u:=fun q=>by have:=G.vb _ q;omega
    simp only[evs,seval,eff,g3];refine ac (c':=scC c u') F9.wf (F9.own _ _ nu bm) (by rw[aq u2];rfl) (by rw[aq u2];simp only[af,ag,u2];rfl) (by rw[aq u2];rfl) ?_;rintro ct bE bt cm;have n9:=F9.next;simp(disch:=omega) only[evs,seval,DF,fwrap_i64,g5,lv ao,lv bm,lx D];have cc:=Qx (Qx bo ab w6 (fun z q=>.inl q) iS:Fr [R.next] h6 h8) F9 w6 (fun z q=>.inl q) (fun z q=>.inr (G.vb z q));refine rqn ⟨I.length-(i+1),oM,Qx cc bt w6 (fun z q=>.inl q) (fun z q=>.inl q),i+1,u',Ys++[x],iS,iX,iX,(eG g2),iX,oM,bE,by rw[QV,RN];exact G9.keep bt oO,by simp;omega,fun y my=>?_,rfl⟩;rcases Qp.1 my with my|my
    ·exact hY y my
    ·simp at my;subst my;exact⟨xm,eo ce⟩
   ·simp(disch:=omega) only[evs,seval,fwrap_i64,eq_false ce,g5];refine rqn ⟨I.length-(i+1),oM,bo,i+1,u,Ys,iS,iX,iX,(eG g2),iX,oM,ao,G.fr D,oM,hY,rfl⟩
  ·simp only[evs,seval,g5,g4,rX.len,eq_false (oM:¬(i:Int)<I.length)];have ak{h'}{c':Cfg}{v}(o:Own h' R.next (scC c' v)):=o.l1 3;have cx:=F6.next;have a6:=bi.then F6;have bN:=Ru wf (bh.then F6) F (fun z q=>by simp at q;omega);have lP{h'}(f:Fr [R.next,kb] hh h'):=(f.own _ _ oO (F.own _ _ oO (a6.get ob))).l1 6;have lF{h'}(f:Fr [R.next,kb] hh h'):=(f.own _ _ oO (F.own _ _ oO (a6.get ob))).l1 7;have bz:=F.own _ _ (eV bv) (F6.get (ad.get cd.o));have KZ:∀q∈c.Ks,∀Z h',(∀z∈Z,z=kb\/z=R.next\/z=h1.next)->Fr Z hh h'->KndH h' q:=fun q mq Z h' hZ f=>by
    have t1:Fr (R.next::Z) R h':=Qx (Qx (ad.then F6) F w3 iS (fun z q=>.inl q):Fr [R.next] R hh) f w3 (fun z q=>.inl (by simp at q;simp[q])) (fun z q=>.inl iX);exact cd.s _ h' (fun z m=>by
     obtain⟨m,lz⟩:=SJ.1 m;have lz:=of_decide_eq_true lz;rcases Qy.1 m with rfl|m
     ·omega
     ·rcases hZ z m with rfl|rfl|rfl
      ·exact .inr rfl
      ·omega
      ·exact .inl oM) (Fr.lt w3 t1) q mq
   refine aw (fun z env hm=>Fr [R.next,kb] hh hm/\Fr [] h hm/\∃(j:Nat)(U:List Knd),env.get 6=some (ZZ j)/\env.get 1=some (.ptr h.next 0)/\env.get 2=some (.ptr h1.next 0)/\env.get 3=some (.ptr R.next 0)/\j<=3/\Own hm R.next (scC c u)/\Own hm kb (U.flatMap Knd.cells)/\U.length=3/\
    (∀q∈U,∀Z h',(∀z∈Z,z=kb\/z=R.next\/z=h1.next)->Fr Z hm h'->KndH h' q)/\(∀(j:Nat)(q0 q:Knd),c.Ks[j]? =some q0->U[j]? =some q->JC q0 q)/\z=3-j) 3 oM ?_ ?_
   ·exact⟨Qx (Qw (S:=[]) w) (Qw (S:=[]) w) w iS iS,bN,0,c.Ks,iS,iX,(eG g2),iX,oM,oo,bz,k3,KZ,fun j q0 q a b=>by rw[a]at b;cases b;exact⟨rfl,rfl,.inl rfl⟩,rfl⟩
   ·clear g5 g4 g1 g2 g3;rintro z env hm ⟨FM,aj,j,U,g6,g1,g2,g3,hj,om,a5,nK,kh,rel,rfl⟩;have wm:=FM.wf;have nm:=FM.next;have rK:Recs Knd.cells 9 hm c.vK U:=by rw[cd.v];exact jU aW a5 nK
    have aF:=rK.len;have aA:=TC rP aj;have kS:∀(i:Nat),i<3->aP (.ixs 9) [c.vK,ZZ (i:Int)]=some (.ptr kb (i*9)):=fun i hi=>by
     rw[cd.v,bO 9 kb 0 3 3 .i64 (i:Int) oM oM];simp
    by_cases c1:j<Ps.length/\j<3
    ·obtain⟨c1,c2⟩:=c1;obtain⟨b,o,p,p1,p2,p3,p4⟩:=ARecs.ix CH aA .i64 (j:Int) oM oM;rw[so]at p4;have ph:=(b6 p (Of p4)).fr aj;simp only[evs,seval,eff,g6,g1,lP FM,aA.len,eq_true (oM:(j:Int)<Ps.length),g3,ak om,aF,eq_true (oM:(j:Int)<(U.length:Int)),p1,p3];refine ae (Hr wm ph) ?_;rintro _ h7 ⟨D,tg,vS,vQ,sl,sub,rfl,bB,st,pb,vl,nd,_⟩;have bn:=D.get om;obtain⟨q,eq⟩:∃q,U[j]? =some q:=⟨_,Qq oM⟩;obtain⟨q',a7⟩:∃q':Knd,q'=⟨1,tg,[],sl,[],vS,vQ,sub,q.base,q.sticky,q.pool⟩:=⟨_,rfl⟩;simp only[evs,eff,kS j c2];refine ac (c':=(U.set j q').flatMap Knd.cells) D.wf (D.get a5) rfl bB (by
      have:=aS aW (y:=q') (o:=0) (vs:=[ZY 1,.str tg,.str [],vS,.str [],vQ]) U j q eq (by rw[a7];rfl);rw[RG]at this;exact this) ?_
     rintro h8 o8 F8 n8;have ah:=Qx D F8 wm iS (fun z q=>.inl q);simp(disch:=omega) only[evs,seval,DF,fwrap_i64,g6,ak om,ak bn,lP FM,p3];refine rqn ⟨3-(j+1),oM,Qx FM ah w (fun z q=>.inl q) (fun z q=>.inl (by simp at q;simp[q])),(aj.then D).fresh F8 wf oM,j+1,U.set j q',iS,iX,(eG g2),iX,oM,F8.own _ _ oO bn,o8,by simp[nK],fun y my Z h' hZ f=>?_,fun i q0 y a b=>?_,rfl⟩
     ·have f2:Fr (kb::Z) hm h':=Qx ah f wm (fun z q=>.inl (by simp at q;simp[q])) (fun z q=>.inl iX);have f7:Fr (kb::Z) h7 h':=Qx F8 f D.wf (fun z q=>.inl (by simp at q;simp[q])) (fun z q=>.inl iX);rcases Ra my with my|rfl
      ·exact kh y my (kb::Z) h' (fun z m=>by
        rcases Qy.1 m with rfl|m
        ·exact .inl rfl
        ·exact hZ z m) f2
      ·rw[a7];exact st (kb::Z) h' (fun z m=>by
        have:=F.next;rcases Qy.1 m with rfl|m
        ·omega
        ·rcases hZ z m with rfl|rfl|rfl<;>omega) f7
     ·rw[Ui]at b;by_cases ji:j=i
      ·subst ji;rw[if_pos rfl,if_pos oM]at b;cases b;obtain⟨r1,r2,_⟩:=rel j q0 q a eq;rw[a7];exact⟨r1,r2,.inr ⟨rfl,rfl,pb,vl,nd⟩⟩
      ·rw[if_neg ji]at b;exact rel i q0 y a b
    ·have q7:=aV .u8 fl 7 oM (y:=7) rfl;have m7:fl%7<7:=QR _ oM;generalize fl%7=D at q7 m7;have G':=G.keep FM oO;by_cases cr:j<Ps.length
     case' pos=>
      simp only[evs,seval,g6,g1,lP FM,aA.len,eq_true (oM:(j:Int)<Ps.length),g3,ak om,aF,eq_false (oM:¬(j:Int)<(U.length:Int)),lF FM,q7]
     case' neg=>
      simp only[evs,seval,g6,g1,lP FM,aA.len,eq_false (oM:¬(j:Int)<Ps.length),g3,lF FM,q7]
     all_goals
      obtain⟨cz,J⟩:∃cz:Cfg,cz={c with Ks:=U,flaw:=D}:=⟨_,rfl⟩;have a8:scC cz u=c.cells.take 6++[ZY (D:Int),u]:=by rw[J];rfl
      refine ac (c':=scC cz u) wm om rfl rfl (by rw[a8];rfl) ?_;rintro hn on FN nN;have ln:aH hn R.next 0 8=some (scC cz u):=by rw[on.ld,J];rfl
      have bT:az (scC cz u)=true:=by rw[a8];simp only[Cfg.cells,SU,List.take_zero,Rb,Ri,af,ag,kv,u1];rfl
      simp only[evs,seval,g3,g2,ln];have bP:=aj.fresh FN wf oM;have ca:=FN.own _ _ oO (FM.own _ _ oO (F.own _ _ oO (a6.get a9)));refine ac (c':=scC cz u) FN.wf ca rfl bT (by rw[a8];rfl) ?_;rintro hq oq FQ nq;have lq:aH hq h1.next 0 8=some (scC cz u):=by rw[oq.ld,J];rfl
      simp only[evs,seval,g2,lq];have ax:Fr [R.next,h1.next] hm hq:=Qx FN FQ wm (fun z q=>.inl (by simp at q;simp[q])) (fun z q=>.inl (by simp at q;simp[q]));have b7:=Qx (Qx F FM w6 (fun z q=>.inl (by simp at q;simp[q])) (fun z q=>.inl (by simp at q;rcases q with rfl|rfl<;>simp)):Fr [R.next,kb,h1.next] h6 hm) ax w6 (fun z q=>.inl q) (fun z q=>.inl (by simp at q;rcases q with rfl|rfl<;>simp))
      have bY:=ax.own _ _ oO a5;refine⟨bP.fresh FQ wf oM,c,cz,u,Ys,rfl,by rcases G' with⟨rfl,_⟩|⟨_,_,rfl,_⟩<;>simp,⟨by rw[J];show Recs _ _ _ c.vK U;rw[cd.v];exact jU aW bY nK,by rw[J];exact fun q mq=>kh q mq _ hq iS ax,by rw[J];exact nK,SM (n:=Ys.length) (G'.keep ax oO) (au aZ _) oM,fun y my=>sX y (hY y my).1 _ hq (fun z q=>.inl (by rw[hP];simp at q;exact q)) b7,fun y my=>(hY y my).2,oM⟩,by rw[J];exact m7,by rw[J],by rw[J],by rw[J],by rw[J],by rw[J],cd.r,cd.cap,cd.le,cd.vw,cd.ov,cd.ar,cd.bp,by rw[J];exact rel⟩
end
open Go.Ev.St
theorem PT.walk_vl:∀(t:PT)(lv l c:Nat),t.vl lv→l+lv≤7→c+t.nd≤64→t.walk l c=(c+t.nd,true)
 |.nil,_,_,_,_,_,_=>rfl
 |.cons k tg ky sl tx va vc sub nx,lv,l,c,⟨p,q,r,s⟩,hl,h=>by
  simp only[PT.nd]at h;have e:PT.node k tg ky sl tx sub sub.walk l c=(c+1+sub.nd,true):=by
   unfold PT.node;rw[if_neg (by rw[q];simp;omega),PT.walk_vl sub (lv-1) (l+1) (c+1) r oM oM]
  simp only[PT.walk,e,seval];rw[PT.walk_vl nx lv l _ s hl oM];simp only[PT.nd];congr 1;omega
theorem IK{ky:Str}{sl:List Slo}{sub:PT}(p:cB 1 tg ky sl tx sub.len=true)(q:sub.vl 3)(h:sub.nd<=60):PT.count 1 tg ky sl tx sub≠0:=by
 have e:PT.node 1 tg ky sl tx sub sub.walk 1 0=(1+sub.nd,true):=by
  unfold PT.node;rw[if_neg (by rw[p];simp),PT.walk_vl sub 3 2 (0+1) q oM oM]
 unfold PT.count;rw[if_pos ⟨rfl,by rw[e]⟩,e];show 1+sub.nd≠0;omega
theorem Ka{Z q:Knd}(r:JC Z q)(k:okK Z=true):okK q=true:=by
 obtain⟨J,_,rfl|⟨I,R,U,D,h5⟩⟩:=r
 ·exact k
 ·simp only[okK,be,decide_eq_true_eq]at k|-;rw[J,I,R];exact⟨k.1,IK U D oM⟩
section
variable {h : Heap}
theorem D8{x:Evt}(w:WF h)(a:EvtH h x N)(ok:EvOK x):ay go 53 [.agg x.cells] h fun u h'=>u=.bool true/\Fr [] h h':=by
 have on:=a.on;have lN:=a.rn.len;obtain⟨k1,k7⟩:=ok.k;have kt:=ok.to;have kk:=ok.key;have kn:=ok.n5;obtain⟨k,to,key,vN,Ns,vT,Tl⟩:=x;simp only at k1 k7 kt kk kn lN on;unfold Evt.cells;simp only;have ab:az [ZY (k:Int),ZZ to,ZX (key:Int),vN,vT]=true:=on;obtain⟨h1,U,I,Z⟩:=av w [ZY (k:Int),ZZ to,ZX (key:Int),vN,vT];have l0:=Z.l1 0;have l1:=Z.l1 1;have l2:=Z.l1 2;have l3:=Z.l1 3;have D:∀p:Prop,p=True\/p=False:=fun p=>by grind
 have R:=D (to=0);have J:=D ((key:Int)=0);have n0:=D ((Ns.length:Int)=0);have nt:to=0\/k=1\/k=2\/k=4\/k=7:=oM
 have nk:(key:Int)=0\/k=3:=oM
 have nn:(Ns.length:Int)=0\/k=5:=oM
 clear kt kk kn;rcases(by omega:k=1\/k=2\/k=3\/k=4\/k=5\/k=6\/k=7)with q|q|q|q|q|q|q;all_goals rcases D ((k:Int)=1)with e1|e1
 all_goals try (exfalso;simp only[eq_iff_iff,iff_true,iff_false]at e1;omega)
 all_goals rcases D ((k:Int)=2)with e2|e2
 all_goals try (exfalso;simp only[eq_iff_iff,iff_true,iff_false]at e2;omega)
 all_goals rcases D ((k:Int)=3)with e3|e3
 all_goals try (exfalso;simp only[eq_iff_iff,iff_true,iff_false]at e3;omega)
 all_goals rcases D ((k:Int)=4)with e4|e4
 all_goals try (exfalso;simp only[eq_iff_iff,iff_true,iff_false]at e4;omega)
 all_goals rcases D ((k:Int)=5)with e5|e5
 all_goals try (exfalso;simp only[eq_iff_iff,iff_true,iff_false]at e5;omega)
 all_goals rcases D ((k:Int)=7)with e7|e7
 all_goals try (exfalso;simp only[eq_iff_iff,iff_true,iff_false]at e7;omega)
 all_goals rcases R with R|R
 all_goals try (exfalso;simp only[eq_iff_iff,iff_true,iff_false]at R;omega)
 all_goals rcases J with J|J
 all_goals try (exfalso;simp only[eq_iff_iff,iff_true,iff_false]at J;omega)
 all_goals rcases n0 with n0|n0
 all_goals try (exfalso;simp only[eq_iff_iff,iff_true,iff_false]at n0;omega)
 all_goals
  refine aa ?_;simp only[evs,seval,<-U,l0,l1,l2,l3,lN,e1,e2,e3,e4,e5,e7,R,J,n0];exact I
theorem BI{x:Evt}(w:WF h)(TT:Tq h)(a:EvtH h x N)(ok:EvOK x):ay go 20 [.agg x.cells] h fun u h'=>u=ZZ 0/\Fr [] h h':=by
 have on:=a.on;obtain⟨k1,k7⟩:=ok.k;obtain⟨h1,I,U,Z⟩:=av w x.cells;have D:=a.fr U;have l0:=Z.l1 0;have l5:=Z.la 5
 have L3{h'}(f:Fr [] h1 h'):=(f.get Z).l1 3;have L4{h'}(f:Fr [] h1 h'):=(f.get Z).l1 4;have nN:=a.n;have nT:=a.t.n;refine aa ?_;simp[evs,<-I,l0,l5,eq_false (oM:¬(x.k:Int)<1),eq_false (oM:¬7<(x.k:Int))];refine aN (D8 U.wf D ok) fun h2 J=>?_;have ab:=U.then J;have R:=D.fr J;have T2:Tq h2:=ab.pl 2 bS iS TT;simp[evs,L3 J,L4 J,R.rn.len,R.t.r.len,eq_false (oM:¬(32:Int)<x.Ns.length),eq_false (oM:¬(256:Int)<x.Tl.length)];refine aN (Ec J.wf T2 R.rn R.hx ok.n ok.ok ok.s) fun h3 F3=>?_;have ad:=J.then F3;have T3:Tq h3:=F3.pl 2 bS iS T2;simp[evs,L4 ad];refine aN (Eb F3.wf T3 (R.fr F3).t ok.t.2) fun h4 F4=>?_;simp[evs];exact(ab.then F3).then F4
theorem ScrH.fr{Xs:List Evt}(a:ScrH h c vE Xs)(f:Fr [] h h'):ScrH h' c vE Xs:=⟨QI a.ks f,fun q m=>(a.kh q m).fr f,a.k3,QI a.ev f,fun x m=>(a.eh x m).fr f,a.eo,a.n⟩
theorem ScrH.on{Xs:List Evt}(a:ScrH h c vE Xs):az (scC c vE)=true:=by
 have Z:=RI a.ks;have U:=RI a.ev;simp only[scC,Cfg.cells,Rb,Ri,af,ag,Z,U];rfl
theorem kU{Xs:List Evt}(w:WF h)(TT:Tq h)(a:ScrH h c vE Xs)(cf:cfB c=true):ay go 6 [.agg (scC c vE)] h fun u h'=>u=ZZ 0/\Fr [] h h':=by
 have on:=a.on;have nX:=a.n;obtain⟨h1,D,Z,U⟩:=av w (scC c vE);have a1:=a.fr Z;have l7:aH h1 h.next 0 7=some c.cells:=by rw[U.ld];rfl
 have LE{h'}(f:Fr [] h1 h'):=(f.get U).l1 7;refine aa ?_;simp[evs,<-D,l7];refine ae (BW Z.wf ⟨a1.ks,a1.kh,by have:=a.k3;omega⟩) ?_;rintro _ h2 ⟨rfl,F2⟩;rw[if_pos cf];have a2:=a1.fr F2;simp[evs,LE F2,a2.ev.len,eq_false (oM:¬(1024:Int)<Xs.length)];refine aw (fun z env hh=>Fr [] h hh/\∃(i:Nat),env.get 20=some (ZZ i)/\env.get 19=some (ZZ Xs.length)/\env.get 18=some vE/\i<=Xs.length/\z=Xs.length-i) Xs.length oM ?_ ?_
 ·exact⟨Z.then F2,0,iS,iS,iS,oM,rfl⟩
 ·rintro z env hh ⟨F,i,J,ab,aj,hi,rfl⟩;have wh:=F.wf;by_cases ci:i<Xs.length
  ·obtain⟨b,o,x,p1,p2,p3,p4⟩:=(QI a.ev F).ix aZ .i64 (i:Int) oM oM;rw[so]at p4;have xm:=Of p4;have xh:=(a.eh x xm).fr F;have xo:=xh.on;obtain⟨h3,ad,R,ah⟩:=av wh [ZY 0,ZZ 0,ZX 0,.nils,.nils];simp[evs,J,ab,aj,eq_true (oM:(i:Int)<Xs.length),p1,p3,<-ad];refine ac R.wf ah rfl xo rfl ?_;rintro h4 o4 F4 n4;have I:=R.fresh F4 wh (pi _);have l5:=o4.la 5
   simp[evs,l5];refine aN (BI F4.wf ((F.then I).pl 2 bS iS TT) (xh.fr I) (a.eo x xm)) fun h5 F5=>?_;simp(disch:=omega)[evs,fwrap_i64,J];refine rqn ⟨Xs.length-(i+1),oM,F.then (I.then F5),i+1,iS,iX,iX,oM,rfl⟩
  ·simp[evs,J,ab,eq_false (oM:¬(i:Int)<Xs.length)];exact F
end
theorem NB{c0:Cfg}(f:c.flaw<7)(e1:c.view=c0.view)(e2:c.over=c0.over)(e3:c.least=c0.least)(e4:c.cap=c0.cap)(e5:c.arena=c0.arena)(r:RK c0.Ks)(d1:c0.cap=12)(d2:1<=c0.least/\c0.least<=6)(d3:1<=c0.view/\c0.view<=200)(d4:0<=c0.over/\c0.over<=3)
 (d5:1<=c0.arena/\c0.arena<=65536) (d6:∀q∈c0.Ks,6<=q.base/\0<=q.pool/\q.pool<=16) (k3:c.Ks.length=3) (rel:∀(j:Nat)(Z q:Knd),c0.Ks[j]? =some Z->c.Ks[j]? =some q->JC Z q):cfB c=true:=by
 obtain⟨rk,r3,_⟩:=r;have all:∀q∈c.Ks,∃Z∈c0.Ks,JC Z q:=fun q m=>by
  obtain⟨j,hj⟩:=List.getElem?_of_mem m;have jl:=(QD.1 hj).1;have e0:c0.Ks[j]? =some (c0.Ks[j]' oM):=Qq oM;exact⟨_,Of e0,rel j _ q e0 hj⟩
 have I:okR c.Ks c.cap=true:=by
  simp only[okR,be,decide_eq_true_eq,QM]at rk|-;refine⟨oM,oM,oM,oM,fun q m=>?_⟩;obtain⟨Z,R,U⟩:=all q m;exact Ka U (rk.2.2.2.2 Z R)
 have D:c.Ks.all okP=true:=QM.2 fun q m=>by
  obtain⟨Z,R,U⟩:=all q m;have:=d6 Z R;have:=U.2.1;simp[okP];omega
 have J:c.Ks.all (okL c.least)=true:=QM.2 fun q m=>by
  obtain⟨Z,R,U⟩:=all q m;have:=d6 Z R;have:=U.1;simp[okL];omega
 simp only[cfB,iT,I,D,J,be,decide_eq_true_eq,and_true,true_and];omega
open Go.Ev.St
theorem Ja{bytes m:Nat}{x:V}{c U:List V}(w:WF h)(o:Own h b c)(R:c.length=n*e)(s:Sl h e x m U)(hm:m≠0)(hB:B<=h.next)(Z:(2*(n+m)+1024) *bytes<=281474976710656){K:V->Heap->Prop}
 (k:∀v' h',Gs h' B e v' (c++U)->vb v'=[h.next]->Fr [] h h'->K v' h'):OQ (dK h e bytes (.slice b 0 n n) x) K:=by
 unfold dK;rw[s.srcLen];simp only[];rw[dJ hm,cond_false,s.srcCells];simp only[];rw[jG oM,cond_false,o.ld,cg,aU _ _ oM,Qs oM];simp only[kF];rw[(RW ..).mpr Z,cond_true];refine(cD _ _ _).2 (k _ _ (.inr ⟨h.next,n+m,rfl,by rw[Qv,R,s.1,Sw],oM,hB,Ro w _⟩) rfl (QW w _))
theorem NC{z:Str}(s:Sl h 1 v n (z.map c8))(R:v≠.nils)(U:v≠.sliceE):nV h v=some (.str z):=by
 obtain⟨I,s⟩:=s;simp at I;cases v with
 |slice b o l k=>
  obtain⟨rfl,_,c,oc,J,Z⟩:=s;exact yD oc (by rw[Sj]at Z;exact Z.symm) oM
 |sliceU b o l k=>
  obtain⟨rfl,rfl,c,oc,J,Z⟩:=s;have:aH h b o l=some (z.map c8):=by rw[oc.ld,bA,aU _ _ oO,Z,Sj]
  simp only[nV,this,tV,QG]
 |nils=>exact absurd rfl R
 |sliceE=>exact absurd rfl U
 |_=>exact s.elim
theorem I3(m:Nat)(h:m<10):[ZY (48+(m:Int))]=[UInt8.ofNat (48+m)].map c8:=by
 simp only[QU,TR,c8,UInt8.toNat_ofNat'];rw[RR oM];rfl
theorem Af(v:Nat):dec v=(if v/10=0 then[]else dec (v/10))++[UInt8.ofNat (48+v%10)]:=by
 by_cases c:v<10
 ·rw[kD c,if_pos oM,RR c];rfl
 ·rw[pH c,if_neg oM]
section
variable {h : Heap}
theorem wy(w:WF h)(hn:n<18446744073709551616):ay go 123 [ZX (n:Int)] h fun u h'=>u=.str (dec n)/\Fr [] h h':=by
 have r1:=xr n 10 10 rfl oM;have q1:=xw n 10 10 rfl oM hn;have m1:n%10<10:=QR _ oM;have f1:aB .u64 (48+((n%10:Nat):Int))=48+((n%10:Nat):Int):=Rj _ oM oM;have f2:aB .u8 (48+((n%10:Nat):Int))=48+((n%10:Nat):Int):=Go.Ev.fwrap_u8 _ oM oM;obtain⟨h1,U,I,D⟩:=av w [ZY (48+((n%10:Nat):Int))];refine aa ?_;simp only[evs,seval,r1,f1,f2,<-U,q1];have o1:=D;rw[I3 _ m1]at o1;refine aw (fun k env hh=>Fr [] h hh/\∃(v:Nat)(s:V)(z:Str),env.get 0=some (ZX (v:Int))/\env.get 3=some s/\Sl hh 1 s z.length (z.map c8)/\s≠.nils/\s≠.sliceE/\v<10^k/\v<=n/\0<z.length/\z.length+k<=21/\dec n=(if v=0 then[]else dec v)++z) 20 oM ?_ ?_
 ·exact⟨I,n/10,_,[UInt8.ofNat (48+n%10)],iS,iS,RM o1 rfl,iS,iS,oM,oM,iS,iS,Af n⟩
 ·rintro k env hh ⟨F,v,s,z,g0,g3,S,hz,hE,hv,vn,z0,zl,e⟩;by_cases c:0<v
  ·obtain⟨k,rfl⟩:∃j,k=j+1:=⟨k-1,by cases k with|zero=>simp at hv;omega|succ k=>simp⟩;have ab:v<18446744073709551616:=oM
   have r1:=xr v 10 10 rfl oM;have q1:=xw v 10 10 rfl oM ab;have m1:v%10<10:=QR _ oM;have f1:aB .u64 (48+((v%10:Nat):Int))=48+((v%10:Nat):Int):=Rj _ oM oM;have f2:aB .u8 (48+((v%10:Nat):Int))=48+((v%10:Nat):Int):=Go.Ev.fwrap_u8 _ oM oM;obtain⟨h2,R,Z,J⟩:=av F.wf [ZY (48+((v%10:Nat):Int))];simp only[evs,seval,g0,g3,eq_true (oM:(0:Int)<(v:Int)),r1,f1,f2,<-R];refine Ja (B:=0) Z.wf J rfl (S.fr Z) oM oM oM ?_;intro u h3 G3 e3 F3;have ad:=Z.then F3;simp only[evs,seval,g0,q1];have ez:[ZY (48+((v%10:Nat):Int))]++z.map c8=(UInt8.ofNat (48+v%10)::z).map c8:=by rw[I3 _ m1];rfl
   rw[ez]at G3;have un:u≠.nils/\u≠.sliceE:=by
    rcases G3 with⟨_,q⟩|⟨b,_,rfl,_⟩
    ·simp at q
    ·grind
   refine rqn ⟨k,oM,F.then ad,v/10,u,UInt8.ofNat (48+v%10)::z,iS,iS,SM G3 iS oM,un.1,un.2,by rw[TK]at hv;omega,oM,iS,by simp;omega,?_⟩;rw[e,if_neg oM,Af v];simp
  ·have v0:v=0:=oM
   simp only[evs,seval,g0,g3,eq_false (oM:¬(0:Int)<(v:Int)),xD,nI,NC S hz hE];rw[e,if_pos v0];exact⟨rfl,F⟩
end
open Go.Ev.St
theorem NO(z:Str)(i:Nat)(b:UInt8)(e:z[i]? =some b):aP .ixstr [.str z,ZZ (i:Int)]=some (ZY (b.toNat:Int)):=by
 show(z[i]?).map (fun b=>ZY (b.toNat:Int))=_;rw[e];rfl
section
variable {h : Heap} {vT : V} {Tl : List (Nat × Int)}
theorem EJ(w:WF h)(k:p.1<18446744073709551616)(z:1<=p.2/\p.2<=64):ay go 60 [.agg (htC p)] h fun u h'=>u=.str (htL p)/\Fr [] h h':=by
 obtain⟨D,R,Z,U⟩:=av w (htC p);have e1:halloc h [ZX (p.1:Int),ZZ p.2]=D:=R.symm;have L0{h'}(f:Fr [] D h'):=(f.get U).l1 0;have L1{h'}(f:Fr [] D h'):=(f.get U).l1 1;have rr:=Qw (S:=[]) Z.wf;unfold htC;refine aa ?_;simp only[evs,seval,eff,e1,L0 rr];refine aN (wy Z.wf k) fun h2 J=>?_;have k1:=aT k;obtain⟨n,hn⟩:∃n:Nat,p.2=n:=⟨p.2.toNat,oM⟩;have f1:aB .u64 p.2=(n:Int):=by rw[hn];exact Rj _ oM oM
 simp only[evs,seval,eff,L1 J,f1,aI (dec p.1) [32] oO];refine aN (wy (n:=n) J.wf oM) fun h3 F3=>?_;have I:=J.then F3;have k2:=aT (n:=n) oM;simp only[evs,seval,DF,eff,L0 rr,L1 rr,L1 J,aI (dec p.1++[32]) (dec n) oO,aI (dec p.1++[32]++dec n) [10] oO];exact⟨by rw[htL,hn,dG,if_neg oM];rfl,Z.then I⟩
theorem jw(w:WF h)(a:TZ h vT Tl):ay go 27 [vT] h fun u h'=>u=.str (Tl.flatMap htL)/\Fr [] h h':=by
 have hl:=a.n;refine aa ?_;simp only[evs];refine aw (fun z env J=>Fr [] h J/\∃(i:Nat),env.get 4=some (ZZ i)/\env.get 3=some (.str ((Tl.take i).flatMap htL))/\env.get 0=some vT/\i<=Tl.length/\z=Tl.length-i) Tl.length oM ?_ ?_
 ·exact⟨Qw w,0,iS,iS,iS,oM,rfl⟩
 ·rintro z env J ⟨F,i,g4,g3,g0,hi,rfl⟩;have R:=a.fr F;by_cases ci:i<Tl.length
  ·obtain⟨b,o,x,p1,p2,p3,U⟩:=R.r.ix dM .i64 (i:Int) oM oM;rw[so]at U;have Z:=Of U;have tl:=qK a i;have xl:=ya (a.k x Z) (a.z x Z);simp[evs,g4,g3,g0,R.r.len,eq_true (oM:(i:Int)<Tl.length),p1,p3];refine aN (EJ F.wf (a.k x Z) (a.z x Z)) fun D I=>?_;simp(disch:=omega)[evs,fwrap_i64,g4,aI ((Tl.take i).flatMap htL) (htL x) oM];refine rqn ⟨Tl.length-(i+1),oM,F.then I,i+1,iS,?_,iX,oM,rfl⟩;rw[bD U];simp
  ·simp[evs,g4,g3,g0,R.r.len,eq_false (oM:¬(i:Int)<Tl.length)];rw[Qs oM];exact⟨rfl,F⟩
theorem Br{s:Str}(w:WF h)(hs:s.length<=1048576):ay go 26 [.str s] h fun u h'=>Fr [] h h'/\∃cs,Gs h' h.next 1 u cs/\cs.length=s.count 10:=by
 refine aa ?_;simp only[evs];refine aw (fun z env D=>Fr [] h D/\∃(i j:Nat)(u:V)(cs:List V),env.get 5=some (ZZ i)/\env.get 4=some (ZZ j)/\env.get 3=some u/\env.get 0=some (.str s)/\j<=i/\i<=s.length/\Gs D h.next 1 u cs/\cs.length=(s.take i).count 10/\z=s.length-i) s.length oM ?_ ?_
 ·exact⟨Qw w,0,0,.nils,[],iS,iS,iS,iS,oM,oM,.inl ⟨rfl,rfl⟩,iS,rfl⟩
 ·rintro z env D ⟨F,i,j,u,cs,I,g4,g3,g0,hj,hi,G,J,rfl⟩;have wh:=F.wf;by_cases ci:i<s.length
  ·have e:=Qq ci;generalize(s[i]'ci)=b at e;have ix:=NO s i b e;have tk:s.take (i+1)=s.take i++[b]:=by rw[QS,e];rfl
   have cl:=TM (a:=(10:UInt8)) (l:=s.take i);rw[QN]at cl;by_cases cb:b=10
   ·subst cb;have sl:=rM s .i64 .i64 (j:Int) (i:Int) j i rfl rfl hj oM;have u1:=G.one;obtain⟨h2,U,Z,R⟩:=av wh [.str ((s.drop j).take (i-j))];simp only[evs,seval,I,g4,g3,g0,aG,eq_true (oM:(i:Int)<s.length),ix,(iR:(((10:UInt8).toNat:Nat):Int)=10),sl,<-U];refine RB (bytes:=16) (n:=1) Z.wf (G.fr Z) (RM R rfl) oM oM rfl (by have:=F.next;have:=Z.next;omega) oM ?_;intro u' h3 G3 e3 F3;simp(disch:=omega) only[evs,seval,fwrap_i64,I];refine rqn ⟨s.length-(i+1),oM,Ru w (F.then Z) F3 G.vb,i+1,i+1,u',_,iS,iS,iS,iX,oM,oM,G3,by rw[tk,List.count_append,Qv,J];rfl,rfl⟩
   ·have nb:¬((b.toNat:Nat):Int)=10:=fun q=>cb (UInt8.toNat_inj.1 (by show b.toNat=10;omega));simp(disch:=omega) only[evs,seval,fwrap_i64,I,g0,aG,eq_true (oM:(i:Int)<s.length),ix,eq_false nb];refine rqn ⟨s.length-(i+1),oM,F,i+1,j,u,cs,iS,iX,iX,iX,oM,oM,G,by rw[tk,List.count_append,J,List.count_singleton];simp[cb],rfl⟩
  ·simp only[evs,seval,I,g3,g0,aG,eq_false (oM:¬(i:Int)<s.length)];rw[Qs oM]at J;exact⟨F,cs,G,J⟩
abbrev wdC:List V:=[.str [],.str [115,99,114,111,108,108,116,111],.str [115,99,114,111,108,108,98,121],.str [114,101,118,101,97,108],.str [114,101,115,105,122,101],.str [98,97,116,99,104],.str [109,101,97,115,117,114,101,100],.str [116,114,105,109]]
theorem AL(w:WF h):ay go 24 [] h fun u h'=>u=.slice h.next 0 8 8/\Own h' h.next wdC/\Fr [] h h':=by
 obtain⟨J,Z,R,U⟩:=av w wdC;refine aa ?_;simp[evs,<-Z];exact⟨U,R⟩
end
open Go.Ev.St
def oV(s:Slo):Str:=[115,108,111,116,32]++s.1++[32]++dec s.2.1++(if s.2.1=0 then[32]++s.2.2 else[])++[10]
def hdT(k:Nat)(tg ky:Str):Str:=if k=1 then(if ky=[]then[101,108,101,109,101,110,116,32]++tg++[32,45,10]else[101,108,101,109,101,110,116,32]++tg++[32]++ky++[10])else[101,97,99,104,32]++tg++[10]
def ndT(k:Nat)(tg ky:Str)(sl:List Slo)(tx s:Str):Str:=
 if k=2 then[119,111,114,100,115,32]++tx++[10]else if k=3 then[102,105,101,108,100,10]else if k=4 then[110,117,109,98,101,114,10]else hdT k tg ky++sl.flatMap oV++s++[101,110,100,10]
def PT.txt:PT->Str
 |.nil=>[]
 |.cons k tg ky sl tx _ _ sub nx=>ndT k tg ky sl tx sub.txt++nx.txt
theorem O3{f:α->Str}{L:List α}{i:Nat}{x:α}(e:L[i]? =some x):((L.take i).flatMap f).length+(f x).length<=(L.flatMap f).length:=by
 have Z:L.flatMap f=(L.take i).flatMap f++(f x++(L.drop (i+1)).flatMap f):=by
  conv=>lhs;rw[<-RH i L,aX e]
  simp
 rw[Z];simp only[Qv];omega
theorem lnX{a:Str}(h:a.length=n:=by (try simp only[QB,Rf]);exact rfl):a.length=n:=h
theorem sbx(a b:Str){m n:Nat}(hm:a.length=m:=by exact lnX)(hn:b.length=n:=by exact lnX)(h:m+n<9223372036854775808:=by omega):∃c,c=a++b/\c.length=m+n/\aP (.sb .add) [.str a,.str b]=some (.str c):=⟨_,rfl,by rw[Qv,hm,hn],aI a b (by omega)⟩
def PT.vS:PT->Prop
 |.nil=>True
 |.cons _ _ _ sl _ _ _ sub nx=>(∀s∈sl,s.2.1<256)/\sub.vS/\nx.vS
def PxE(k:Nat)(tg ky:Str)(sl:List Slo)(tx:Str)(vs vp:V)(sub:PT):Prop:=∀(h:Heap),WF h->PH h (.cons k tg ky sl tx vs vp sub .nil)->(ndT k tg ky sl tx sub.txt).length<=4611686018427387904->
 (∀s∈sl,s.2.1<256)->sub.vS->ay go 23 [.agg [ZY (k:Int),.str tg,.str ky,vs,.str tx,vp]] h fun u h'=>u=.str (ndT k tg ky sl tx sub.txt)/\Fr [] h h'
def PxA:PT->Prop
 |.nil=>True
 |.cons k tg ky sl tx vs vp sub nx=>PxE k tg ky sl tx vs vp sub/\PxA nx
theorem PxA.at':∀{t:PT}(i:Nat),PxA t->PxA (t.at' i)
 |.nil,0,_=>trivial
 |.nil,_+1,_=>trivial
 |.cons _ _ _ _ _ _ _ _ _,0,a=>a
 |.cons _ _ _ _ _ _ _ _ _,i+1,⟨_,g⟩=>PxA.at' i g
theorem PT.vS_at:∀{t:PT}(i:Nat),t.vS->(t.at' i).vS
 |.nil,0,_=>trivial
 |.nil,_+1,_=>trivial
 |.cons _ _ _ _ _ _ _ _ _,0,a=>a
 |.cons _ _ _ _ _ _ _ _ _,i+1,⟨_,_,g⟩=>PT.vS_at i g
theorem vt{ky:Str}{sl:List Slo}{vs vp:V}{sub:PT}(A:PxA sub):PxE k tg ky sl tx vs vp sub:=by
 intro h w ⟨hk,rs,aA,sp,ax,ph,_⟩ hl hf hv;obtain⟨I,U,Z,R⟩:=av w [ZY (k:Int),.str tg,.str ky,vs,.str tx,vp];have l0:=R.l1 0;have l1:=R.l1 1;have l2:=R.l1 2;have l3:=R.l1 3;have l4:=R.l1 4;have L5{h'}(f:Fr [] I h'):=(f.get R).l1 5;by_cases k2:k=2
 ·rw[ndT,if_pos k2]at hl|-;simp only[Qv,QB,Rf]at hl;obtain⟨A1,e1,m1,a1⟩:=sbx [119,111,114,100,115,32] tx;obtain⟨A2,e2,m2,a2⟩:=sbx A1 [10];refine aa ?_;simp only[evs,seval,<-U,l0,eq_true (oM:(k:Int)=2),l4,a1,a2];exact⟨by rw[e2,e1];rfl,Z⟩
 by_cases k3:k=3
 ·rw[ndT,if_neg k2,if_pos k3];refine aa ?_;simp only[evs,seval,<-U,l0,eq_false (oM:¬(k:Int)=2),eq_true (oM:(k:Int)=3)];exact Z
 by_cases k4:k=4
 ·rw[ndT,if_neg k2,if_neg k3,if_pos k4];refine aa ?_;simp only[evs,seval,<-U,l0,eq_false (oM:¬(k:Int)=2),eq_false (oM:¬(k:Int)=3),eq_true (oM:(k:Int)=4)];exact Z
 rw[ndT,if_neg k2,if_neg k3,if_neg k4]at hl|-;obtain⟨H,hH⟩:∃H,H=hdT k tg ky:=⟨_,rfl⟩;rw[<-hH]at hl|-;simp only[Qv,QB,Rf]at hl;have ak:tg.length<=H.length:=by rw[hH,hdT];(repeat' split)<;>simp only[Qv,QB,Rf]<;>omega
 have n2:=eq_false (oM:¬(k:Int)=2);have n3:=eq_false (oM:¬(k:Int)=3);have n4:=eq_false (oM:¬(k:Int)=4);obtain⟨A1,e1,m1,a1⟩:=sbx [101,97,99,104,32] tg;obtain⟨A2,e2,m2,a2⟩:=sbx A1 [10];by_cases k1:k=1
 case' neg=>
  have e:A2=H:=by rw[hH,hdT,if_neg k1,e2,e1]
  rw[e]at a2;refine aa ?_;simp only[evs,seval,<-U,l0,n2,n3,n4,l1,a1,a2,eq_false (oM:¬(k:Int)=1)]
 case' pos=>
  have y1:=eq_true (oM:(k:Int)=1);obtain⟨B1,f1,p1,b1⟩:=sbx [101,108,101,109,101,110,116,32] tg;obtain⟨B3,f3,p3,b3⟩:=sbx B1 [32];by_cases ke:ky=[]
  case' pos=>
   obtain⟨B2,f2,p2,b2⟩:=sbx B1 [32,45,10];have e:B2=H:=by rw[hH,hdT,if_pos k1,if_pos ke,f2,f1]
   rw[e]at b2;obtain⟨B4,f4,p4,b4⟩:=sbx B3 [];obtain⟨B5,f5,p5,b5⟩:=sbx B4 [10];have l2:ai I h.next 2=some (.str []):=by grind
   refine aa ?_;simp only[evs,seval,<-U,l0,n2,n3,n4,l1,l2,a1,a2,y1,b1,b2,b3,b4,b5,aQ,(iR:(([]:Str)==[])=true)]
  case' neg=>
   have ao:tg.length+ky.length<=H.length:=by rw[hH,hdT,if_pos k1,if_neg ke];simp only[Qv,QB,Rf];omega
   obtain⟨B4,f4,p4,b4⟩:=sbx B3 ky;obtain⟨B5,f5,p5,b5⟩:=sbx B4 [10];have e:B5=H:=by rw[hH,hdT,if_pos k1,if_neg ke,f5,f4,f3,f1]
   rw[e]at b5;have kb:(ky==([]:Str))=false:=by grind
   refine aa ?_;simp only[evs,seval,<-U,l0,n2,n3,n4,l1,l2,a1,a2,y1,b1,b3,b4,b5,aQ,kb]
 all_goals
  have D:=QI rs Z;refine aw (fun z env hh=>I=hh/\∃(i:Nat),env.get 4=some (ZZ i)/\env.get 3=some (.str (H++(sl.take i).flatMap oV))/\env.get 1=some (.ptr h.next 0)/\i<=sl.length/\z=sl.length-i) sl.length oM ?_ ?_
  ·exact ya2
  ·rintro z env _ ⟨rfl,i,g4,g3,g1,hi,rfl⟩;by_cases ci:i<sl.length
   ·obtain⟨b,o,s,q1,q2,_,q4⟩:=D.ix bV .i64 (i:Int) oM oM;rw[so]at q4;have s0:ai I b o=some (.str s.1):=q2 0 oM;have s1:ai I b (o+1)=some (ZY (s.2.1:Int)):=q2 1 oM;have s2:ai I b (o+2)=some (.str s.2.2):=q2 2 oM;have sf:=hf s (Of q4);have fl:=O3 (f:=oV) q4;have fw:aB .u64 (s.2.1:Int)=(s.2.1:Int):=Rj _ oM oM;obtain⟨O,hO⟩:∃O,O=H++(sl.take i).flatMap oV:=⟨_,rfl⟩;have Ol:=congrArg List.length hO;rw[Qv]at Ol;rw[<-hO]at g3;have sT:(oV s).length=5+s.1.length+1+(dec s.2.1).length+(if s.2.1=0 then 1+s.2.2.length else 0)+1:=by
     unfold oV;split<;>simp only[Qv,QB,Rf]<;>omega
    have dl:=aT (n:=s.2.1) oM;obtain⟨C1,u1,v1,c1⟩:=sbx O [115,108,111,116,32];obtain⟨C2,u2,v2,c2⟩:=sbx C1 s.1;obtain⟨C3,u3,v3,c3⟩:=sbx C2 [32];obtain⟨C4,u4,v4,c4⟩:=sbx C3 (dec s.2.1);simp only[evs,seval,eff,g4,g3,g1,l3,D.len,eq_true (oM:(i:Int)<sl.length),q1,s0,s1,fw,c1,c2,c3];refine dm (dU (s.2.1+1) s.2.1 oM oM) ?_;by_cases cz:s.2.1=0
    case' pos=>
     rw[if_pos cz]at sT;obtain⟨C5,u5,v5,c5⟩:=sbx C4 [32];obtain⟨C6,u6,v6,c6⟩:=sbx C5 s.2.2;obtain⟨C7,u7,v7,c7⟩:=sbx C6 [10];simp(disch:=omega) only[evs,seval,DF,eff,fwrap_i64,g4,g1,l3,q1,s0,s1,s2,c4,c5,c6,c7,eq_true (oM:(s.2.1:Int)=0)]
    case' neg=>
     obtain⟨C7,u7,v7,c7⟩:=sbx C4 [10];simp(disch:=omega) only[evs,seval,DF,eff,fwrap_i64,g4,g1,l3,q1,s0,s1,c4,c7,eq_false (oM:¬(s.2.1:Int)=0)]
    all_goals
     refine rqn ⟨sl.length-(i+1),oM,rfl,i+1,iS,?_,iX,oM,rfl⟩;have e:H++(sl.take (i+1)).flatMap oV=C7:=by
      rw[bD q4,<-QE,<-hO,oV];simp only[*,seval,QE,Rb,Ri,Rq]
     rw[e];simp
   ·rw[Qs oM]at g3;simp only[evs,seval,g4,g1,l3,D.len,eq_false (oM:¬(i:Int)<sl.length)];refine aw (fun z env hh=>Fr [] I hh/\∃(j:Nat)(S:Str),env.get 5=some (ZZ j)/\env.get 3=some (.str S)/\env.get 1=some (.ptr h.next 0)/\j<=sub.len/\S++(sub.at' j).txt=H++sl.flatMap oV++sub.txt/\z=sub.len-j) sub.len oM ?_ ?_
    ·exact⟨Qw Z.wf,0,H++sl.flatMap oV,iS,iX,iX,oM,by cases sub<;>rfl,rfl⟩
    ·clear g4 g3 g1;rintro z env hh ⟨F,j,S,g5,g3,g1,hj,eS,rfl⟩;have ab:=(sp.fr Z).fr F;have F0:=Z.then F;have el:=congrArg List.length eS;simp only[Qv]at el;by_cases cj:j<sub.len
     ·obtain⟨kc,aj,ad,slc,ah,aF,aE,sb,nx,e1,e2,e3,e4,e5,e6⟩:=sub.split j cj;have Ai:=A.at' j;have J:=ph.at' j;have vi:=PT.vS_at j hv;rw[e1]at Ai J vi eS el;simp only[PT.txt,Qv]at eS el;obtain⟨b',o',p1,p2⟩:=ab.ix6 cj e2;have q6:=p2.2.2.2.2.2.2;simp only[evs,seval,g5,g3,g1,L5 F,ab.len,eq_true (oM:(j:Int)<sub.len),p1,q6];refine aN (Ai.1 hh F.wf (PH.fr F0 ⟨J.1,J.2.1,J.2.2.1,J.2.2.2.1,J.2.2.2.2.1,J.2.2.2.2.2.1,trivial⟩) oM vi.1 vi.2.1) fun h3 F3=>?_;obtain⟨S2,z1,z2,z3⟩:=sbx S (ndT kc aj ad slc ah sb.txt);simp(disch:=omega) only[evs,seval,fwrap_i64,g5,z3];refine rqn ⟨sub.len-(j+1),oM,F.then F3,j+1,S2,iS,iS,iX,oM,by rw[e3,z1,QE];exact eS,rfl⟩
     ·rw[Uh _ _ oM]at eS;simp only[PT.txt,Rq]at eS;obtain⟨S2,z1,z2,z3⟩:=sbx S [101,110,100,10];simp only[evs,seval,g5,g3,g1,L5 F,ab.len,eq_false (oM:¬(j:Int)<sub.len),z3];exact⟨by rw[z1,eS],F0⟩
theorem pxa:∀t:PT,PxA t
 |.nil=>trivial
 |.cons _ _ _ _ _ _ _ sub nx=>⟨vt (pxa sub),pxa nx⟩
open Go.Ev.St
def zO(c:Cfg):Str:=[99,111,110,102,105,103,32]++dG c.view++[32]++dG c.over++[32]++dG c.least++[32]++dG c.cap++[32]++dG c.arena++[32]++dec c.flaw++[10]
def stW(b:Bool):Str:=if b then[115,116,105,99,107,121]else[112,108,97,105,110]
def kdT(q:Knd):Str:=[107,105,110,100,32]++dG q.base++[32]++dG q.pool++[32]++stW q.sticky++[10]++ndT q.k q.tg q.ky q.sl q.tx q.sub.txt
def wdS:List Str:=[[],[115,99,114,111,108,108,116,111],[115,99,114,111,108,108,98,121],[114,101,118,101,97,108],[114,101,115,105,122,101],[98,97,116,99,104],[109,101,97,115,117,114,101,100],[116,114,105,109]]
def evT(x:Evt):Str:=wdS.getD x.k []++(if x.k=6 then[10]else if x.k=3 then[32]++dec x.key++[10]else if x.k=5 then[32]++dec ((x.Ns.flatMap ntT).count 10)++[10]++x.Ns.flatMap ntT else[32]++dG x.to++[10])++
 (if x.Tl.length=0 then[]else[104,101,105,103,104,116,115,32]++dec x.Tl.length++[10]++x.Tl.flatMap htL)
def t42(c:Cfg)(Xs:List Evt):Str:=zO c++c.Ks.flatMap kdT++Xs.flatMap evT
theorem Df{x:Evt}(a:EvtH h x N)(ok:EvOK x):(evT x).length<=1100000:=by
 have J:=ok.s;have R:(x.Tl.flatMap htL).length<=43*x.Tl.length:=by
  have:=qK a.t x.Tl.length;rwa[Sr]at this
 have Z:=a.t.n;have I:=aT a.key;have h5:=bW a.to;have h6:=TM (a:=(10:UInt8)) (l:=x.Ns.flatMap ntT);have U:=aT (n:=(x.Ns.flatMap ntT).count 10) oM;have h8:=aT (n:=x.Tl.length) oM;have h9:(wdS.getD x.k []).length<=8:=by
  obtain⟨D,k7⟩:=ok.k;exact yaC
 unfold evT
 (repeat' split)<;>simp only[Qv,QB,Rf]<;>omega
theorem Lh(cf:cfB c=true):i64 c.view/\i64 c.over/\i64 c.least/\i64 c.cap/\i64 c.arena/\c.flaw<256/\∀q∈c.Ks,i64 q.base/\i64 q.pool:=by
 simp only[cfB,iT,okR,be,decide_eq_true_eq,QM]at cf;obtain⟨J,v2,o1,o2,l1,l2,f,⟨⟨_,_,c1,c2,ok⟩,R,I,op⟩,ol⟩:=cf;refine⟨⟨oM,oM⟩,⟨oM,oM⟩,⟨oM,oM⟩,⟨oM,oM⟩,⟨oM,oM⟩,oM,fun q m=>?_⟩;have U:=ok q m;have Z:=op q m;simp only[okK,okB,okP,be,decide_eq_true_eq]at U Z;exact⟨⟨oM,oM⟩,⟨oM,oM⟩⟩
theorem Kr{q:Knd}(Z:i64 q.base)(U:i64 q.pool)(R:(ndT q.k q.tg q.ky q.sl q.tx q.sub.txt).length<=1000000):(kdT q).length<=1000100:=by
 have:=bW Z;have:=bW U;unfold kdT stW;split<;>simp only[Qv,QB,Rf]<;>omega
theorem Da{α:Type}{f:α→Str}{B:Nat}:∀(L:List α)(i:Nat),(∀x∈L,(f x).length≤B)→((L.take i).flatMap f).length≤B*L.length
 |[],_,_=>by simp
 |x::L,0,_=>by simp
 |x::L,i+1,h=>by
  have:=Da L i fun y m=>h y (List.mem_cons_of_mem _ m);have:=h x (List.mem_cons_self ..);simp only[List.take_succ_cons,List.flatMap_cons,List.length_append,List.length_cons,Nat.mul_succ];omega
theorem E5{o m:Nat}(hm:m<=n)(e:aH h b o n=some cs):aH h b o m=some (cs.take m):=by
 simp only[aH]at e|-;cases q:dt h b with
 |none=>rw[q]at e;cases e
 |some c=>
  rw[q]at e;simp only at e|-;by_cases Z:n<=(fQ c o).length
  ·rw[aU _ _ Z]at e;rw[aU _ _ oM];cases e;rw[Tc,Rt hm]
  ·exfalso;have:∀(n:Nat)(l:List V),l.length<n->dL n l=none:=fun n=>by
    induction n with
    |zero=>intro l Z;omega
    |succ n ih=>
     intro l Z;cases l with
     |nil=>rfl
     |cons y l=>rw[fF,ih l (eV Z)];rfl
   rw[this n _ oM]at e;cases e
section
variable {h : Heap}
set_option maxHeartbeats 2000000 in
theorem uR{c:Cfg}{vE:V}{Xs:List Evt}(w:WF h)(a:ScrH h c vE Xs)(cf:cfB c=true)(hk:∀q∈c.Ks,(ndT q.k q.tg q.ky q.sl q.tx q.sub.txt).length≤1000000∧(∀s∈q.sl,s.2.1<256)∧q.sub.vS):
 ay go 7 [.agg (scC c vE)] h fun u h'=>u=.str (t42 c Xs)∧Fr [] h h':=by
 obtain⟨cv,co,cl,cc,ca,cfl,ck⟩:=Lh cf;have on:=a.on;have nX:=a.n;have k3:=a.k3;have cfw:aB .u64 (c.flaw:Int)=(c.flaw:Int):=Go.Ev.fwrap_u64 _ oM oM;have onc:az c.cells=true:=by
  have k1:c.vK.one=true:=Sl.one a.ks;simp only[Cfg.cells,af,ag,k1];rfl
 obtain⟨h1,e_h1,F_h1,o_h1⟩:=av w (scC c vE);obtain⟨h2,e_h2,F_h2,o_h2⟩:=av F_h1.wf [.int .i64 0,.int .i64 0,.int .i64 0,.nils,.int .i64 0,.int .i64 0,.int .u8 0];have l7:aH h1 h.next 0 7=some c.cells:=by rw[o_h1.ld];rfl
 have n1:=F_h1.next;have n1':=hnx e_h1
 refine aa ?_;simp only[evs,seval,←e_h1,l7,←e_h2];refine ac (c':=c.cells) F_h2.wf o_h2 rfl onc rfl ?_;rintro h3 o3 F3 n3;have F13:Fr [] h1 h3:=F_h2.fresh F3 F_h1.wf (Nat.le_refl _);have F03:=F_h1.then F13;have o1:=F13.get o_h1;have l0:=o3.l1 0;have l1:=o3.l1 1;have l2:=o3.l1 2;have l4:=o3.l1 4;have l5:=o3.l1 5;have l6:=o3.l1 6;have i0:=bW cv;have i1:=bW co;have i2:=bW cl;have i4:=bW cc;have i5:=bW ca;have i6:=aT (n:=c.flaw) oM;obtain⟨A0,d0,m0,a0⟩:=sbx [99,111,110,102,105,103,32] (dG c.view);obtain⟨A1,d1,m1,a1⟩:=sbx A0 [32];obtain⟨A2,d2,m2,a2⟩:=sbx A1 (dG c.over);obtain⟨A3,d3,m3,a3⟩:=sbx A2 [32];obtain⟨A4,d4,m4,a4⟩:=sbx A3 (dG c.least);obtain⟨A5,d5,m5,a5⟩:=sbx A4 [32];obtain⟨A6,d6,m6,a6⟩:=sbx A5 (dG c.cap);obtain⟨A7,d7,m7,a7⟩:=sbx A6 [32];obtain⟨A8,d8,m8,a8⟩:=sbx A7 (dG c.arena);obtain⟨A9,d9,m9,a9⟩:=sbx A8 [32];obtain⟨B0,d10,m10,a10⟩:=sbx A9 (dec c.flaw);obtain⟨B1,d11,m11,a11⟩:=sbx B0 [10];have eH:B1=zO c:=by rw[zO,d11,d10,d9,d8,d7,d6,d5,d4,d3,d2,d1,d0]
 simp only[evs,seval,eff,l0];refine dm (fR cv) ?_;simp only[evs,seval,eff,l1,a0,a1];refine dm (fR co) ?_;simp only[evs,seval,eff,l2,a2,a3];refine dm (fR cl) ?_;simp only[evs,seval,eff,l4,a4,a5];refine dm (fR cc) ?_;simp only[evs,seval,eff,l5,a6,a7];refine dm (fR ca) ?_;simp only[evs,seval,eff,l6,cfw,a8,a9];refine dm (dU (c.flaw+1) c.flaw oM oM) ?_;simp only[evs,seval,DF,eff,l0,l1,l2,l4,l5,l6,a10,a11];rw[eH];have Hl:(zO c).length≤200:=by rw[←eH];omega
 clear eH d0 d1 d2 d3 d4 d5 d6 d7 d8 d9 d10 d11 a0 a1 a2 a3 a4 a5 a6 a7 a8 a9 a10 a11 m0 m1 m2 m3 m4 m5 m6 m7 m8 m9 m10 m11;have w3:=F3.wf;have KB:∀i,((c.Ks.take i).flatMap kdT).length≤1000100*c.Ks.length:=fun i=>Da c.Ks i fun q m=>Kr (ck q m).1 (ck q m).2 (hk q m).1;rw[k3]at KB;refine aw (fun z env hh=>Fr [] h3 hh∧∃(i:Nat),env.get 5=some (.int .i64 i)∧env.get 4=some (.str (zO c++(c.Ks.take i).flatMap kdT))∧env.get 3=some (.ptr h1.next 0)∧env.get 1=some (.ptr h.next 0)∧i≤c.Ks.length∧z=c.Ks.length-i) c.Ks.length oM ?_ ?_
 ·exact⟨Fr.refl w3,0,iS,iS,iS,iS,oM,rfl⟩
 ·rintro z env hh ⟨F,i,g5,g4,g3,g1,hi,rfl⟩;have wh:=F.wf;have L3{h'}(f:Fr [] hh h'):=((F.then f).get o3).l1 3;have rr:=Fr.refl (S:=[]) wh;have rk:=Recs.fr a.ks (F03.then F);have kb:=KB i;by_cases ci:i<c.Ks.length
  ·obtain⟨b,o,q,p1,p2,p3,p4⟩:=rk.ix aW .i64 (i:Int) oM oM;rw[Int.toNat_natCast]at p4;have qm:=List.mem_of_getElem? p4;have q6:ai hh b (o+6)=some (.int .i64 q.base):=p2 6 oM;have q7:ai hh b (o+7)=some (.bool q.sticky):=p2 7 oM;have q8:ai hh b (o+8)=some (.int .i64 q.pool):=p2 8 oM;have q60:aH hh b o 6=some [.int .u8 (q.k:Int),.str q.tg,.str q.ky,q.vs,.str q.tx,q.vp]:=by
    have:=rk.ix aW .i64 (i:Int) oM oM;obtain⟨b',o',y,z1,z2,z3,z4⟩:=this;rw[p1]at z1;cases z1;rw[Int.toNat_natCast,p4]at z4;cases z4;exact E5 (n:=9) oM z3
   obtain⟨hl,hs,hv⟩:=hk q qm;obtain⟨ib,ip⟩:=ck q qm;have x1:=bW ib;have x2:=bW ip;obtain⟨O,hO⟩:∃O,O=zO c++(c.Ks.take i).flatMap kdT:=⟨_,rfl⟩;have Ol:=congrArg List.length hO;rw[List.length_append]at Ol;rw[←hO]at g4;have sl7:(stW q.sticky).length≤6:=by cases q.sticky<;>decide
   obtain⟨A0,d0,m0,a0⟩:=sbx O [107,105,110,100,32];obtain⟨A1,d1,m1,a1⟩:=sbx A0 (dG q.base);obtain⟨A2,d2,m2,a2⟩:=sbx A1 [32];obtain⟨A3,d3,m3,a3⟩:=sbx A2 (dG q.pool);obtain⟨A4,d4,m4,a4⟩:=sbx A3 [32];obtain⟨A5,d5,m5,a5⟩:=sbx A4 (stW q.sticky);obtain⟨A6,d6,m6,a6⟩:=sbx A5 [10];obtain⟨A7,d7,m7,a7⟩:=sbx A6 (ndT q.k q.tg q.ky q.sl q.tx q.sub.txt);have eK:A7=zO c++(c.Ks.take (i+1)).flatMap kdT:=by
    rw[bD p4,←List.append_assoc,←hO,d7,d6,d5,d4,d3,d2,d1,d0,kdT];simp only[List.append_assoc]
   have kh:=(a.kh q qm).fr (F03.then F);have F0h:=F03.then F;cases st:q.sticky
   all_goals
    rw[st]at q7 a5;simp only[stW,↓reduceIte,Bool.false_eq_true]at a5;simp only[evs,seval,eff,g5,g4,g3,L3 rr,rk.len,eq_true (oM:(i:Int)<c.Ks.length),p1,q7,q6,a0];refine dm (fR ib) ?_;simp only[evs,seval,eff,g5,g3,L3 rr,p1,q8,a1,a2];refine dm (fR ip) ?_;simp only[evs,seval,eff,g5,g3,L3 rr,p1,q60,a3,a4,a5,a6];refine aN (vt (pxa q.sub) hh wh kh oM hs hv) fun h4 F4=>?_;simp(disch:=omega) only[evs,seval,DF,eff,fwrap_i64,g5,L3 rr,q6,q8,q60,a7];refine rqn ⟨c.Ks.length-(i+1),oM,F.then F4,i+1,iS,by rw[←eK];simp,iX,iX,oM,rfl⟩
  ·rw[List.take_of_length_le oM]at g4 kb;simp only[evs,seval,g5,g3,L3 rr,rk.len,eq_false (oM:¬(i:Int)<c.Ks.length)];clear g5 g3;obtain⟨O0,hO0⟩:∃O0,O0=zO c++c.Ks.flatMap kdT:=⟨_,rfl⟩;have Ol0:=congrArg List.length hO0;rw[List.length_append]at Ol0;rw[←hO0]at g4;have EB:∀i,((Xs.take i).flatMap evT).length≤1100000*Xs.length:=fun i=>Da Xs i fun x m=>Df (a.eh x m) (a.eo x m);refine aw (fun z env hm=>Fr [] hh hm∧∃(i:Nat),env.get 7=some (.int .i64 i)∧env.get 4=some (.str (O0++(Xs.take i).flatMap evT))∧env.get 1=some (.ptr h.next 0)∧i≤Xs.length∧z=Xs.length-i) Xs.length oM ?_ ?_
   ·exact⟨rr,0,iS,iX,iX,oM,rfl⟩
   ·clear g4 g1;rintro z env hm ⟨Fm,i,g7,g4,g1,hi,rfl⟩;have wm:=Fm.wf;have F0m:=(F03.then F).then Fm;have am:=a.fr F0m;have F1m:=(F13.then F).then Fm;have LE{h'}(f:Fr [] hm h'):=((F1m.then f).get o_h1).l1 7;have eb:=EB i;by_cases ci:i<Xs.length
    ·obtain⟨b,o,x,p1,p2,p3,p4⟩:=am.ev.ix aZ .i64 (i:Int) oM oM;rw[Int.toNat_natCast]at p4;have xm:=List.mem_of_getElem? p4;have xh:=am.eh x xm;have xo:=am.eo x xm;have on5:=xh.on;have xl:=Df xh xo;obtain⟨k1,k7⟩:=xo.k;have nT:=xh.t.n;have rm:=Fr.refl (S:=[]) wm;obtain⟨h4,e_h4,F_h4,o_h4⟩:=av wm [.int .u8 0,.int .i64 0,.int .u64 0,.nils,.nils];simp only[evs,seval,g7,g1,LE rm,am.ev.len,eq_true (oM:(i:Int)<Xs.length),p1,p3,←e_h4];refine ac (c':=x.cells) F_h4.wf o_h4 rfl on5 rfl ?_;rintro h5 o5 F5 n5;have Fm5:Fr [] hm h5:=F_h4.fresh F5 wm (Nat.le_refl _);have x0{h'}(f:Fr [] h5 h'):=(f.get o5).l1 0;have x1{h'}(f:Fr [] h5 h'):=(f.get o5).l1 1;have x2{h'}(f:Fr [] h5 h'):=(f.get o5).l1 2;have x3{h'}(f:Fr [] h5 h'):=(f.get o5).l1 3;have x4{h'}(f:Fr [] h5 h'):=(f.get o5).l1 4;have r5:=Fr.refl (S:=[]) F5.wf;obtain⟨O,hO⟩:∃O,O=O0++(Xs.take i).flatMap evT:=⟨_,rfl⟩;have Ol:=congrArg List.length hO;rw[List.length_append]at Ol;rw[←hO]at g4;have Ob:O.length≤30000000:=oM
     simp only[evs,seval,eff,g4];refine ae (AL F5.wf) ?_;rintro _ h6 ⟨rfl,ow,F6⟩;have ixw:=bO 1 h5.next 0 8 8 .u8 (x.k:Int) oM oM;simp only[Int.toNat_natCast,Nat.zero_add,Nat.mul_one]at ixw;obtain⟨W,hW⟩:∃W,W=wdS.getD x.k []:=⟨_,rfl⟩;have lw:ai h6 h5.next x.k=some (.str W):=by
      rw[ow.ld1,hW];rcases(by omega:x.k=1∨x.k=2∨x.k=3∨x.k=4∨x.k=5∨x.k=6∨x.k=7)with q|q|q|q|q|q|q<;>rw[q]<;>rfl
     have Wl:W.length≤8:=by
      rw[hW];rcases(by omega:x.k=1∨x.k=2∨x.k=3∨x.k=4∨x.k=5∨x.k=6∨x.k=7)with q|q|q|q|q|q|q<;>rw[q]<;>decide
     obtain⟨C0,c0,l0',s0⟩:=sbx O W;have w6:=F6.wf;have xh6:=(xh.fr Fm5).fr F6;have Fm6:=Fm5.then F6;have xkl:=aT xh.key;have xtl:=bW xh.to;have xs:=xo.s;have xc:=List.count_le_length (a:=(10:UInt8)) (l:=x.Ns.flatMap ntT);have xcl:=aT (n:=(x.Ns.flatMap ntT).count 10) oM;have xTl:=aT (n:=x.Tl.length) oM;have xtb:(x.Tl.flatMap htL).length≤43*x.Tl.length:=by
      have:=qK xh.t x.Tl.length;rwa[List.take_length]at this
     have fT:aB .u64 (x.Tl.length:Int)=(x.Tl.length:Int):=Go.Ev.fwrap_u64 _ oM oM;have fC:aB .u64 (((x.Ns.flatMap ntT).count 10:Nat):Int)=(((x.Ns.flatMap ntT).count 10:Nat):Int):=Go.Ev.fwrap_u64 _ oM oM;have tk:=bD (f:=evT) p4;simp only[evs,seval,DF,eff,x0 r5,x0 F6,ixw,lw,s0];by_cases k6:x.k=6
     ·obtain⟨C,c1,l1',s1⟩:=sbx C0 [10];simp only[evs,seval,eq_true (oM:(x.k:Int)=6),s1];have FX:=F6;have xhX:=xh6;by_cases cT:x.Tl.length=0
      ·simp(disch:=omega) only[evs,seval,fwrap_i64,x4 FX,xhX.t.r.len,eq_false (oM:¬(0:Int)<(x.Tl.length:Int)),g7];refine rqn ⟨Xs.length-(i+1),oM,Fm.then (Fm5.then FX),i+1,iS,?_,iX,oM,rfl⟩;have e:O0++(Xs.take (i+1)).flatMap evT=C:=by
        rw[tk,←List.append_assoc,←hO,evT,←hW,if_pos cT];simp only[*,↓reduceIte,Nat.reduceEqDiff,List.append_assoc,List.append_nil]
       rw[e];simp
      ·obtain⟨D0,t0,y0,z0⟩:=sbx C [104,101,105,103,104,116,115,32];obtain⟨D1,t1,y1,z1⟩:=sbx D0 (dec x.Tl.length);obtain⟨D2,t2,y2,z2⟩:=sbx D1 [10];obtain⟨D3,t3,y3,z3⟩:=sbx D2 (x.Tl.flatMap htL);simp only[evs,seval,eff,x4 FX,xhX.t.r.len,eq_true (oM:(0:Int)<(x.Tl.length:Int)),fT,z0];refine dm (dU (x.Tl.length+1) x.Tl.length oM oM) ?_;simp only[evs,seval,eff,x4 FX,z1,z2];refine aN (jw FX.wf xhX.t) fun h9 F9=>?_;simp(disch:=omega) only[evs,seval,DF,eff,fwrap_i64,x4 FX,z3,g7];refine rqn ⟨Xs.length-(i+1),oM,Fm.then (Fm5.then (FX.then F9)),i+1,iS,?_,iX,oM,rfl⟩;have e:O0++(Xs.take (i+1)).flatMap evT=D3:=by
        rw[tk,←List.append_assoc,←hO,evT,←hW,if_neg cT];simp only[*,↓reduceIte,Nat.reduceEqDiff,List.append_assoc]
       rw[e];simp
     by_cases k3':x.k=3
     ·obtain⟨C1,c1,l1',s1⟩:=sbx C0 [32];obtain⟨C2,c2,l2',s2⟩:=sbx C1 (dec x.key);obtain⟨C,c3,l3',s3⟩:=sbx C2 [10];simp only[evs,seval,eq_false (oM:¬(x.k:Int)=6),eq_true (oM:(x.k:Int)=3),s1,x2 F6];refine dm (dU (x.key+1) x.key oM xh.key) ?_;simp only[evs,seval,s2,s3];have FX:=F6;have xhX:=xh6;by_cases cT:x.Tl.length=0
      ·simp(disch:=omega) only[evs,seval,fwrap_i64,x4 FX,xhX.t.r.len,eq_false (oM:¬(0:Int)<(x.Tl.length:Int)),g7];refine rqn ⟨Xs.length-(i+1),oM,Fm.then (Fm5.then FX),i+1,iS,?_,iX,oM,rfl⟩;have e:O0++(Xs.take (i+1)).flatMap evT=C:=by
        rw[tk,←List.append_assoc,←hO,evT,←hW,if_pos cT];simp only[*,↓reduceIte,Nat.reduceEqDiff,List.append_assoc,List.append_nil]
       rw[e];simp
      ·obtain⟨D0,t0,y0,z0⟩:=sbx C [104,101,105,103,104,116,115,32];obtain⟨D1,t1,y1,z1⟩:=sbx D0 (dec x.Tl.length);obtain⟨D2,t2,y2,z2⟩:=sbx D1 [10];obtain⟨D3,t3,y3,z3⟩:=sbx D2 (x.Tl.flatMap htL);simp only[evs,seval,eff,x4 FX,xhX.t.r.len,eq_true (oM:(0:Int)<(x.Tl.length:Int)),fT,z0];refine dm (dU (x.Tl.length+1) x.Tl.length oM oM) ?_;simp only[evs,seval,eff,x4 FX,z1,z2];refine aN (jw FX.wf xhX.t) fun h9 F9=>?_;simp(disch:=omega) only[evs,seval,DF,eff,fwrap_i64,x4 FX,z3,g7];refine rqn ⟨Xs.length-(i+1),oM,Fm.then (Fm5.then (FX.then F9)),i+1,iS,?_,iX,oM,rfl⟩;have e:O0++(Xs.take (i+1)).flatMap evT=D3:=by
        rw[tk,←List.append_assoc,←hO,evT,←hW,if_neg cT];simp only[*,↓reduceIte,Nat.reduceEqDiff,List.append_assoc]
       rw[e];simp
     by_cases k5:x.k=5
     ·simp only[evs,seval,eq_false (oM:¬(x.k:Int)=6),eq_false (oM:¬(x.k:Int)=3),eq_true (oM:(x.k:Int)=5),x3 F6];refine ae (uS w6 xh6.rn xh6.hx (by have:=xh6.n;omega)) ?_;rintro _ h7 ⟨F7,s,e,rfl,e0,ei,es⟩;have ez:e=0:=ei.2 ⟨xo.n,xo.ok,xo.s⟩;have est:=es ez;subst est;obtain⟨C1,c1,l1',s1⟩:=sbx C0 [32];obtain⟨C2,c2,l2',s2⟩:=sbx C1 (dec ((x.Ns.flatMap ntT).count 10));obtain⟨C3,c3,l3',s3⟩:=sbx C2 [10];obtain⟨C,c4,l4',s4⟩:=sbx C3 (x.Ns.flatMap ntT);simp only[evs,seval,s1];refine ae (Br F7.wf xs) ?_;rintro ul h8 ⟨F8,lcs,Gl,nl⟩;have ll:aP .lenS [ul]=some (.int .i64 (((x.Ns.flatMap ntT).count 10:Nat):Int)):=by
       rw[←nl];exact(Gs.sl (n:=lcs.length) Gl iS oM).len
      simp only[evs,ll,fC];refine dm (dU ((x.Ns.flatMap ntT).count 10+1) ((x.Ns.flatMap ntT).count 10) oM oM) ?_;simp only[evs,seval,s2,s3,s4];have F68:=F6.then (F7.then F8);have xh8:=(xh6.fr F7).fr F8;have FX:=F68;have xhX:=xh8;by_cases cT:x.Tl.length=0
      ·simp(disch:=omega) only[evs,seval,fwrap_i64,x4 FX,xhX.t.r.len,eq_false (oM:¬(0:Int)<(x.Tl.length:Int)),g7];refine rqn ⟨Xs.length-(i+1),oM,Fm.then (Fm5.then FX),i+1,iS,?_,iX,oM,rfl⟩;have e:O0++(Xs.take (i+1)).flatMap evT=C:=by
        rw[tk,←List.append_assoc,←hO,evT,←hW,if_pos cT];simp only[*,↓reduceIte,Nat.reduceEqDiff,List.append_assoc,List.append_nil]
       rw[e];simp
      ·obtain⟨D0,t0,y0,z0⟩:=sbx C [104,101,105,103,104,116,115,32];obtain⟨D1,t1,y1,z1⟩:=sbx D0 (dec x.Tl.length);obtain⟨D2,t2,y2,z2⟩:=sbx D1 [10];obtain⟨D3,t3,y3,z3⟩:=sbx D2 (x.Tl.flatMap htL);simp only[evs,seval,eff,x4 FX,xhX.t.r.len,eq_true (oM:(0:Int)<(x.Tl.length:Int)),fT,z0];refine dm (dU (x.Tl.length+1) x.Tl.length oM oM) ?_;simp only[evs,seval,eff,x4 FX,z1,z2];refine aN (jw FX.wf xhX.t) fun h9 F9=>?_;simp(disch:=omega) only[evs,seval,DF,eff,fwrap_i64,x4 FX,z3,g7];refine rqn ⟨Xs.length-(i+1),oM,Fm.then (Fm5.then (FX.then F9)),i+1,iS,?_,iX,oM,rfl⟩;have e:O0++(Xs.take (i+1)).flatMap evT=D3:=by
        rw[tk,←List.append_assoc,←hO,evT,←hW,if_neg cT];simp only[*,↓reduceIte,Nat.reduceEqDiff,List.append_assoc]
       rw[e];simp
     obtain⟨C1,c1,l1',s1⟩:=sbx C0 [32];obtain⟨C2,c2,l2',s2⟩:=sbx C1 (dG x.to);obtain⟨C,c3,l3',s3⟩:=sbx C2 [10];simp only[evs,seval,eq_false (oM:¬(x.k:Int)=6),eq_false (oM:¬(x.k:Int)=3),eq_false (oM:¬(x.k:Int)=5),s1,x1 F6];refine dm (fR xh.to) ?_;simp only[evs,seval,s2,s3];have FX:=F6;have xhX:=xh6;by_cases cT:x.Tl.length=0
     ·simp(disch:=omega) only[evs,seval,fwrap_i64,x4 FX,xhX.t.r.len,eq_false (oM:¬(0:Int)<(x.Tl.length:Int)),g7];refine rqn ⟨Xs.length-(i+1),oM,Fm.then (Fm5.then FX),i+1,iS,?_,iX,oM,rfl⟩;have e:O0++(Xs.take (i+1)).flatMap evT=C:=by
       rw[tk,←List.append_assoc,←hO,evT,←hW,if_pos cT];simp only[*,↓reduceIte,Nat.reduceEqDiff,List.append_assoc,List.append_nil]
      rw[e];simp
     ·obtain⟨D0,t0,y0,z0⟩:=sbx C [104,101,105,103,104,116,115,32];obtain⟨D1,t1,y1,z1⟩:=sbx D0 (dec x.Tl.length);obtain⟨D2,t2,y2,z2⟩:=sbx D1 [10];obtain⟨D3,t3,y3,z3⟩:=sbx D2 (x.Tl.flatMap htL);simp only[evs,seval,eff,x4 FX,xhX.t.r.len,eq_true (oM:(0:Int)<(x.Tl.length:Int)),fT,z0];refine dm (dU (x.Tl.length+1) x.Tl.length oM oM) ?_;simp only[evs,seval,eff,x4 FX,z1,z2];refine aN (jw FX.wf xhX.t) fun h9 F9=>?_;simp(disch:=omega) only[evs,seval,DF,eff,fwrap_i64,x4 FX,z3,g7];refine rqn ⟨Xs.length-(i+1),oM,Fm.then (Fm5.then (FX.then F9)),i+1,iS,?_,iX,oM,rfl⟩;have e:O0++(Xs.take (i+1)).flatMap evT=D3:=by
       rw[tk,←List.append_assoc,←hO,evT,←hW,if_neg cT];simp only[*,↓reduceIte,Nat.reduceEqDiff,List.append_assoc]
      rw[e];simp
    ·rw[List.take_of_length_le oM]at g4;simp only[evs,seval,g7,g4,g1,LE (Fr.refl wm),am.ev.len,eq_false (oM:¬(i:Int)<Xs.length)];exact⟨by rw[t42,hO0],F0m⟩
end
open Go.Ev.St
theorem xI{z:Str}(h:okT z=true):z.length<=64:=by
 simp only[okT,be,decide_eq_true_eq]at h;exact h.1
theorem zd:∀(l:List Slo)(p:Option Str),dd p l=true→∀s∈l,s.1.length≤16∧s.2.1≤3∧s.2.2.length≤64
 |[],_,_,s,m=>by simp at m
 |x::r,p,h,s,m=>by
  rw[jS,Bool.and_eq_true]at h;rcases List.mem_cons.1 m with rfl|m
  ·have h1:=h.1;simp only[fU,Bool.and_eq_true,decide_eq_true_eq]at h1;exact⟨(gG h1.1).2,h1.2.1,xI h1.2.2.1⟩
  ·exact zd r _ h.2 s m
theorem iJ {k : Nat} {tg ky : Str} {sl : List Slo} {tx : Str} {n : Nat} (h : cB k tg ky sl tx n = true) : tg.length ≤ 16 ∧ ky.length ≤ 16 ∧ tx.length ≤ 64 ∧ sl.length ≤ 8 ∧ ∀ s ∈ sl, s.1.length ≤ 16 ∧ s.2.1 ≤ 3 ∧ s.2.2.length ≤ 64 := by
  have sb : bU sl = true → sl.length ≤ 8 ∧ ∀ s ∈ sl, s.1.length ≤ 16 ∧ s.2.1 ≤ 3 ∧ s.2.2.length ≤ 64 := fun h => by
    simp only [bU, Bool.and_eq_true, decide_eq_true_eq] at h
    exact ⟨h.1, zd sl none h.2⟩
  have s0 : sl.length = 0 → sl.length ≤ 8 ∧ ∀ s ∈ sl, s.1.length ≤ 16 ∧ s.2.1 ≤ 3 ∧ s.2.2.length ≤ 64 := fun h => by grind
  unfold cB at h
  split at h
  · simp only [Bool.and_eq_true, Bool.or_eq_true, decide_eq_true_eq, beq_iff_eq] at h
    obtain ⟨h1, h2, h3, h4, h5⟩ := h
    exact ⟨(gG h3).2, by rcases h1 with h1 | h1 <;> first | (rw [h1]; simp) | exact (gG h1).2, by rw [h5]; simp, sb h4⟩
  split at h
  · simp only [Bool.and_eq_true, decide_eq_true_eq, beq_iff_eq] at h
    obtain ⟨h1, h2, h3, h4, h5⟩ := h
    exact ⟨(gG h1).2, by rw [h3]; simp, by rw [h4]; simp, sb h2⟩
  split at h
  · simp only [Bool.and_eq_true, decide_eq_true_eq, beq_iff_eq] at h
    obtain ⟨h1, h2, h3, h4, h5⟩ := h
    exact ⟨by rw [h2]; simp, by rw [h3]; simp, xI h1, s0 h4⟩
  split at h
  · grind
  · cases h
theorem GW{s:Slo}(h:s.1.length<=16/\s.2.1<=3/\s.2.2.length<=64):(oV s).length<=108:=by
 have:=aT (n:=s.2.1) oM;unfold oV;split<;>simp only[Qv,QB,Rf]<;>omega
theorem CP{ky:Str}{sl:List Slo}{S:Str}(h:cB k tg ky sl tx n=true):(ndT k tg ky sl tx S).length<=1000+S.length:=by
 obtain⟨J,R,U,D,Z⟩:=iJ h;have:=Da (f:=oV) (B:=108) sl sl.length fun s m=>GW (Z s m);rw[Sr]at this;have I:(hdT k tg ky).length<=60:=by
  unfold hdT
  (repeat' split)<;>simp only[Qv,QB,Rf]<;>omega
 unfold ndT
 (repeat' split)<;>simp only[Qv,QB,Rf]<;>omega
theorem PT.node_true{ky:Str}{sl:List Slo}{sub:PT}{l c:Nat}(h:PT.node k tg ky sl tx sub sub.walk l c=(n,true)):cB k tg ky sl tx sub.len=true/\sub.walk (l+1) (c+1)=(n,true):=by
 unfold PT.node at h;split at h
 ·simp at h
 ·grind
theorem PT.walk_true:∀(t:PT)(l c n:Nat),t.walk l c=(n,true)→t.vS∧t.txt.length+1000*c≤1000*n
 |.nil,l,c,n,h=>by
  simp only[PT.walk,Prod.mk.injEq]at h;exact⟨trivial,by simp[PT.txt];omega⟩
 |.cons k tg ky sl tx va vc sub nx,l,c,n,h=>by
  simp only[PT.walk]at h;split at h
  ·rename_i q;obtain⟨r,hr⟩:∃r,r=(PT.node k tg ky sl tx sub sub.walk l c).1:=⟨_,rfl⟩;have e:PT.node k tg ky sl tx sub sub.walk l c=(r,true):=by rw[hr,←q]
   rw[←hr]at h;obtain⟨p,s⟩:=PT.node_true e;have h1:=PT.walk_true sub (l+1) (c+1) r s;have h2:=PT.walk_true nx l r n h;have h3:=CP (S:=sub.txt) p;have h4:=(iJ p).2.2.2.2;exact⟨⟨fun x m=>by have:=(h4 x m).2.1;omega,h1.1,h2.1⟩,by simp only[PT.txt,List.length_append];omega⟩
  ·grind
theorem J9{q:Knd}(k:okK q=true):(ndT q.k q.tg q.ky q.sl q.tx q.sub.txt).length<=1000000/\(∀s∈q.sl,s.2.1<256)/\q.sub.vS:=by
 simp only[okK,be,decide_eq_true_eq]at k;have c:=k.2;unfold PT.count at c;split at c
 ·rename_i h;obtain⟨r,R⟩:∃r,r=(PT.node q.k q.tg q.ky q.sl q.tx q.sub q.sub.walk 1 0).1:=⟨_,rfl⟩;have e:PT.node q.k q.tg q.ky q.sl q.tx q.sub q.sub.walk 1 0=(r,true):=by rw[R,<-h.2]
  have l:=(PT.node_le q.k q.tg q.ky q.sl q.tx q.sub 1 0 oM).1;rw[e]at l;simp only at l;obtain⟨p,s⟩:=PT.node_true e;have Z:=PT.walk_true q.sub 2 1 r s;have J:=CP (S:=q.sub.txt) p;have U:=(iJ p).2.2.2.2;exact⟨oM,fun x m=>by have:=(U x m).2.1;omega,Z.1⟩
 ·exact absurd rfl c
theorem I0(cf:cfB c=true):∀q∈c.Ks,(ndT q.k q.tg q.ky q.sl q.tx q.sub.txt).length<=1000000/\(∀s∈q.sl,s.2.1<256)/\q.sub.vS:=fun q m=>by
 simp only[cfB,iT,okR,be,decide_eq_true_eq,QM]at cf;obtain⟨_,_,_,_,_,_,_,⟨⟨_,_,_,_,ok⟩,_⟩,_⟩:=cf;exact J9 (ok q m)
open Go.Ev.St
def Itm.er(y:Itm):Itm:=⟨y.key,y.type,y.text,y.marks,.nils⟩
def Nt.er(x:Nt):Nt:=⟨⟨x.n.k,x.n.a,x.n.c,x.n.t,x.n.Y.map Itm.er⟩,.nils⟩
def Evt.er(x:Evt):Evt:=⟨x.k,x.to,x.key,.nils,x.Ns.map Nt.er,.nils,x.Tl⟩
def PT.er:PT->PT
 |.nil=>.nil
 |.cons k tg ky sl tx _ _ sub nx=>.cons k tg ky sl tx .nils .nils sub.er nx.er
def Knd.er(q:Knd):Knd:=⟨q.k,q.tg,q.ky,q.sl,q.tx,.nils,.nils,q.sub.er,q.base,q.sticky,q.pool⟩
theorem PT.er_same:∀{a b:PT},PT.same a b↔a.er=b.er
 |.nil,.nil=>⟨fun _=>rfl,fun _=>trivial⟩
 |.nil,.cons .. =>⟨fun h=>h.elim,fun h=>by cases h⟩
 |.cons ..,.nil=>⟨fun h=>h.elim,fun h=>by cases h⟩
 |.cons k tg ky sl tx va vc sub nx,.cons k' tg' ky' sl' tx' va' vc' sub' nx'=>by
  constructor
  ·rintro⟨rfl,rfl,rfl,rfl,rfl,h1,h2⟩;simp only[PT.er,PT.er_same.1 h1,PT.er_same.1 h2]
  ·intro h;simp only[PT.er,PT.cons.injEq,true_and]at h;obtain⟨rfl,rfl,rfl,rfl,rfl,h1,h2⟩:=h;exact⟨rfl,rfl,rfl,rfl,rfl,PT.er_same.2 h1,PT.er_same.2 h2⟩
theorem Knd.er_same{q p:Knd}:q.same p↔q.er=p.er:=by
 constructor
 ·rintro⟨J,R,Z,I,h5,h6,U,D,h9⟩;simp only[Knd.er,J,R,Z,I,h5,h6,U,D,PT.er_same.1 h9]
 ·intro h;simp only[Knd.er,Knd.mk.injEq,true_and]at h;obtain⟨J,R,Z,I,h5,h9,h6,U,D⟩:=h;exact⟨J,R,Z,I,h5,h6,U,D,PT.er_same.2 h9⟩
theorem uZ:∀{a b:List Knd},fW a b↔a.map Knd.er=b.map Knd.er
 |[],[]=>by simp[fW]
 |[],_::_=>by simp[fW]
 |_::_,[]=>by simp[fW]
 |q::a,p::b=>by simp only[fW,Knd.er_same,uZ,QU,QC]
theorem Nq(y:Itm):itL y.er=itL y:=rfl
theorem M9(y:Itm)(n:Nat):okI y.er n=okI y n:=rfl
theorem O4(Y:List Itm):(Y.map Itm.er).flatMap itL=Y.flatMap itL:=by
 induction Y with
 |nil=>rfl
 |cons y Y ih=>simp only[QU,QT,ih,Nq]
theorem HF(x:Nt):nv4 x.er.n=nv4 x.n:=by simp[nv4,Nt.er]
theorem Nb(x:Nt):ntL x.er.n=ntL x.n:=by simp only[ntL,HF];rfl
theorem Na(x:Nt):ntT x.er=ntT x:=by
 simp only[ntT,Nb];congr 1;exact O4 _
theorem CL{x:Nt}:Bi x.er.n↔Bi x.n:=by
 simp only[Bi,Ke,HF];exact Sm
theorem zJ{Y:List Itm}:vL (Y.map Itm.er)↔vL Y:=by
 simp only[vL,List.length_map];refine and_congr_right fun _=>⟨fun h y m=>(M9 y 8).symm.trans (h y.er (List.mem_map_of_mem m)),fun h y m=>?_⟩;obtain⟨z,mz,rfl⟩:=Tn.1 m;exact h z mz
theorem zv{Ns:List Nt}:mN (Ns.map Nt.er)↔mN Ns:=by
 simp only[mN];constructor
 ·intro h x m;have:=h _ (List.mem_map_of_mem m);exact⟨CL.1 this.1,zJ.1 this.2⟩
 ·intro h x m;obtain⟨z,mz,rfl⟩:=Tn.1 m;exact⟨CL.2 (h z mz).1,zJ.2 (h z mz).2⟩
theorem HG(Ns:List Nt):(Ns.map Nt.er).flatMap ntT=Ns.flatMap ntT:=by
 induction Ns with
 |nil=>rfl
 |cons y Y ih=>simp only[QU,QT,ih,Na]
theorem DV{x:Evt}:EvOK x.er↔EvOK x:=by
 constructor
 ·rintro⟨a,b,c,d,e,f,g,t⟩;simp only[Evt.er,List.length_map]at a b c d e f g t;exact⟨a,b,c,d,e,zv.1 f,by rwa[HG]at g,t⟩
 ·rintro⟨a,b,c,d,e,f,g,t⟩;exact⟨a,b,c,by simpa[Evt.er]using d,by simpa[Evt.er]using e,zv.2 f,by simp only[Evt.er];rwa[HG],t⟩
theorem DW{x y:Evt}(e:x.er=y.er)(h:EvOK y):EvOK x:=DV.1 (e▸DV.2 h)
theorem Pb{d:Cfg}(v:c.view=d.view)(o:c.over=d.over)(l:c.least=d.least)(p:c.cap=d.cap)(a:c.arena=d.arena)(f:c.flaw=d.flaw)(k:c.Ks.map Knd.er=d.Ks.map Knd.er)(h:cfB d=true):cfB c=true:=by
 have s:=uZ.2 k;have R:=AS s c.cap;have Z:c.Ks.all okP=d.Ks.all okP:=by
  have:∀L:List Knd,L.all okP=(L.map Knd.er).all okP:=fun L=>by rw[List.all_map];rfl
  rw[this c.Ks,this d.Ks,k]
 have U:c.Ks.all (okL c.least)=d.Ks.all (okL c.least):=by
  have:∀L:List Knd,L.all (okL c.least)=(L.map Knd.er).all (okL c.least):=fun L=>by rw[List.all_map];rfl
  rw[this c.Ks,this d.Ks,k]
 unfold cfB iT at h|-;rw[R,Z,U,v,o,l,p,a,f];exact h
def StI(lo hi:Nat)(h:Heap)(φ:Heap->Prop):Prop:=∀(X:List Nat)(h2:Heap),(∀y∈X,y<lo\/hi<=y)->Fr X h h2->φ h2
theorem StI.fr{X:List Nat}(a:StI lo hi h φ)(w:WF h)(f:Fr X h h')(hX:∀y∈X,y<lo\/hi<=y):StI lo hi h' φ:=fun Y h2 hY g=>
 a (X++Y) h2 (fun y m=>(Qp.1 m).elim (hX y) (hY y)) (Qx f g w (fun z m=>.inl iX) (fun z m=>.inl iX))
theorem StI.at(a:StI lo hi h φ)(w:WF h):φ h:=a [] h iS (Qw w)
theorem StI.wk{lo':Nat}(a:StI lo hi h φ)(h1:lo'<=lo)(h2:hi<=hi'):StI lo' hi' h φ:=fun X h3 hX f=>a X h3 (fun y m=>(hX y m).imp (fun q=>by omega) fun q=>by omega) f
theorem StI.mk'(w:WF h)(a:∀(X:List Nat)(h2:Heap),(∀y∈X,y<lo)->Fr X h h2->φ h2):StI lo h.next h φ:=fun X h2 hX f=>
 a _ h2 (fun y m=>by
  obtain⟨m1,m2⟩:=SJ.1 m;have m2:=of_decide_eq_true m2;rcases hX y m1 with q|q
  ·exact q
  ·omega) (Fr.lt w f)
def Cq(e lo hi:Nat)(h:Heap)(v:V)(n:Nat)(cs:List V):Prop:=cs.length=n*e/\((n=0/\(v=.nils\/∃b,lo<=b/\b<hi/\v=.slice b 0 0 0/\Own h b []))\/∃b,lo<=b/\b<hi/\v=.slice b 0 n n/\Own h b cs)
theorem Cq.sl(g:Cq e lo hi h v n cs):Sl h e v n cs:=by
 obtain⟨Z,⟨rfl,rfl|⟨b,_,_,rfl,o⟩⟩|⟨b,_,_,rfl,o⟩⟩:=g
 ·exact⟨Z,rfl⟩
 ·have:cs=[]:=Rx.1 oM;subst this;exact⟨Z,rfl,pi _,[],o,iS,iS⟩
 ·exact⟨Z,rfl,pi _,cs,o,oM,by rw[TA,Qs oM]⟩
theorem Cq.fr{X:List Nat}(g:Cq e lo hi h v n cs)(f:Fr X h h')(hx:∀x∈X,x<lo\/hi<=x):Cq e lo hi h' v n cs:=by
 obtain⟨hl,⟨rfl,rfl|⟨b,Z,U,rfl,o⟩⟩|⟨b,Z,U,rfl,o⟩⟩:=g
 ·exact yV
 ·exact⟨hl,.inl ⟨rfl,.inr ⟨b,Z,U,rfl,f.own _ _ (fun m=>by have:=hx _ m;omega) o⟩⟩⟩
 ·exact⟨hl,.inr ⟨b,Z,U,rfl,f.own _ _ (fun m=>by have:=hx _ m;omega) o⟩⟩
theorem Cq.one(g:Cq e lo hi h v n cs):v.one=true:=g.sl.one
theorem Cq.nE(g:Cq e lo hi h v n cs):v≠.sliceE:=by
 obtain⟨R,⟨rfl,rfl|⟨b,Z,U,rfl,o⟩⟩|⟨b,Z,U,rfl,o⟩⟩:=g<;>simp
theorem Cq.wk{lo':Nat}(g:Cq e lo hi h v n cs)(J:lo'<=lo)(R:hi<=hi'):Cq e lo' hi' h v n cs:=by
 obtain⟨hl,⟨rfl,rfl|⟨b,U,Z,rfl,o⟩⟩|⟨b,U,Z,rfl,o⟩⟩:=g
 ·exact yV
 ·exact⟨hl,.inl ⟨rfl,.inr ⟨b,oM,oM,rfl,o⟩⟩⟩
 ·exact⟨hl,.inr ⟨b,oM,oM,rfl,o⟩⟩
def CNt(lo hi:Nat)(h:Heap)(x:Nt):Prop:=∃mid,lo<=mid/\mid<=hi/\Cq 4 lo mid h x.v x.n.Y.length (x.n.Y.flatMap Itm.cells)/\StI mid hi h fun h=>∀y∈x.n.Y,ItmH h y
def CNz(hi:Nat)(h:Heap):Nat->List Nt->Prop
 |lo,[]=>lo<=hi
 |lo,x::r=>∃m,m<=hi/\CNt lo m h x/\CNz hi h m r
def CEv(lo hi:Nat)(h:Heap)(x:Evt):Prop:=∃m1 m2,lo<=m1/\m1<=m2/\m2<=hi/\Cq 2 lo m1 h x.vT x.Tl.length (x.Tl.flatMap htC)/\Cq 5 m1 m2 h x.vN x.Ns.length (x.Ns.flatMap Nt.cells)/\CNz hi h m2 x.Ns
def CEs(hi:Nat)(h:Heap):Nat->List Evt->Prop
 |lo,[]=>lo<=hi
 |lo,x::r=>∃m,m<=hi/\CEv lo m h x/\CEs hi h m r
def CKn(lo hi:Nat)(h:Heap)(q:Knd):Prop:=∃m1 m2,lo<=m1/\m1<=m2/\m2<=hi/\Cq 3 lo m1 h q.vs q.sl.length (q.sl.flatMap fE)/\Cq 6 m1 m2 h q.vp q.sub.len q.sub.cells/\(q.k<256/\q.sl.length<=4096/\q.sub.len<=4096)/\StI m2 hi h fun h=>PH h q.sub
def CKs(hi:Nat)(h:Heap):Nat->List Knd->Prop
 |lo,[]=>lo<=hi
 |lo,x::r=>∃m,m<=hi/\CKn lo m h x/\CKs hi h m r
section
variable {h h' : Heap} {lo hi : Nat} {X : List Nat}
theorem CNt.le{x:Nt}(a:CNt lo hi h x):lo<=hi:=by obtain⟨m,Z,U,_⟩:=a;omega
theorem CNt.fr{x:Nt}(a:CNt lo hi h x)(w:WF h)(f:Fr X h h')(hX:∀y∈X,y<lo\/hi<=y):CNt lo hi h' x:=by
 obtain⟨m,Z,U,c,s⟩:=a;exact⟨m,Z,U,c.fr f fun y q=>(hX y q).imp id fun q=>by omega,s.fr w f fun y q=>(hX y q).imp (fun q=>by omega) id⟩
theorem CNz.le:∀{L:List Nt}{lo:Nat},CNz hi h lo L->lo<=hi
 |[],_,a=>a
 |_::_,_,⟨_,_,a,b⟩=>QY a.le b.le
theorem CNz.fr(w:WF h)(f:Fr X h h'):∀{L:List Nt}{lo:Nat},CNz hi h lo L->(∀y∈X,y<lo\/hi<=y)->CNz hi h' lo L
 |[],_,a,_=>a
 |_::_,_,⟨m,hm,a,b⟩,hX=>⟨m,hm,a.fr w f fun y q=>(hX y q).imp id fun q=>by omega,CNz.fr w f b fun y q=>(hX y q).imp (fun q=>QH q a.le) id⟩
theorem CNz.snoc{x:Nt}(c:CNt hi hi' h x):∀{L:List Nt}{lo:Nat},CNz hi h lo L->CNz hi' h lo (L++[x])
 |[],lo,a=>⟨hi',pi _,by
  obtain⟨m,h1,h2,c,s⟩:=c;have a:lo<=hi:=a;exact⟨m,oM,h2,c.wk a (pi _),s⟩,pi _⟩
 |_::_,_,⟨m,hm,a,b⟩=>⟨m,QY hm c.le,a,CNz.snoc c b⟩
theorem CEv.le{x:Evt}(a:CEv lo hi h x):lo<=hi:=by obtain⟨m1,m2,R,U,Z,_⟩:=a;omega
theorem CEv.fr{x:Evt}(a:CEv lo hi h x)(w:WF h)(f:Fr X h h')(hX:∀y∈X,y<lo\/hi<=y):CEv lo hi h' x:=by
 obtain⟨m1,m2,R,U,Z,c,d,s⟩:=a;exact⟨m1,m2,R,U,Z,c.fr f fun y q=>(hX y q).imp id fun q=>by omega,d.fr f fun y q=>(hX y q).imp (fun q=>by omega) fun q=>by omega,CNz.fr w f s fun y q=>(hX y q).imp (fun q=>by omega) id⟩
theorem CEs.le:∀{L:List Evt}{lo:Nat},CEs hi h lo L->lo<=hi
 |[],_,a=>a
 |_::_,_,⟨_,_,a,b⟩=>QY a.le b.le
theorem CEs.fr(w:WF h)(f:Fr X h h'):∀{L:List Evt}{lo:Nat},CEs hi h lo L->(∀y∈X,y<lo\/hi<=y)->CEs hi h' lo L
 |[],_,a,_=>a
 |_::_,_,⟨m,hm,a,b⟩,hX=>⟨m,hm,a.fr w f fun y q=>(hX y q).imp id fun q=>by omega,CEs.fr w f b fun y q=>(hX y q).imp (fun q=>QH q a.le) id⟩
theorem CEs.snoc{x:Evt}(c:CEv hi hi' h x):∀{L:List Evt}{lo:Nat},CEs hi h lo L->CEs hi' h lo (L++[x])
 |[],lo,a=>⟨hi',pi _,by
  obtain⟨m1,m2,h1,h2,h3,c,d,s⟩:=c;have a:lo<=hi:=a;exact⟨m1,m2,oM,h2,h3,c.wk a (pi _),d,s⟩,pi _⟩
 |_::_,_,⟨m,hm,a,b⟩=>⟨m,QY hm c.le,a,CEs.snoc c b⟩
theorem CKn.le{q:Knd}(a:CKn lo hi h q):lo<=hi:=by obtain⟨m1,m2,R,U,Z,_⟩:=a;omega
theorem CKn.fr{q:Knd}(a:CKn lo hi h q)(w:WF h)(f:Fr X h h')(hX:∀y∈X,y<lo\/hi<=y):CKn lo hi h' q:=by
 obtain⟨m1,m2,R,U,Z,c,d,n,s⟩:=a;exact⟨m1,m2,R,U,Z,c.fr f fun y q=>(hX y q).imp id fun q=>by omega,d.fr f fun y q=>(hX y q).imp (fun q=>by omega) fun q=>by omega,n,s.fr w f fun y q=>(hX y q).imp (fun q=>by omega) id⟩
theorem CKs.le:∀{L:List Knd}{lo:Nat},CKs hi h lo L->lo<=hi
 |[],_,a=>a
 |_::_,_,⟨_,_,a,b⟩=>QY a.le b.le
theorem CKs.fr(w:WF h)(f:Fr X h h'):∀{L:List Knd}{lo:Nat},CKs hi h lo L->(∀y∈X,y<lo\/hi<=y)->CKs hi h' lo L
 |[],_,a,_=>a
 |_::_,_,⟨m,hm,a,b⟩,hX=>⟨m,hm,a.fr w f fun y q=>(hX y q).imp id fun q=>by omega,CKs.fr w f b fun y q=>(hX y q).imp (fun q=>QH q a.le) id⟩
theorem CKs.snoc{q:Knd}(c:CKn hi hi' h q):∀{L:List Knd}{lo:Nat},CKs hi h lo L->CKs hi' h lo (L++[q])
 |[],lo,a=>⟨hi',pi _,by
  obtain⟨m1,m2,h1,h2,h3,c,d,s⟩:=c;have a:lo<=hi:=a;exact⟨m1,m2,oM,h2,h3,c.wk a (pi _),d,s⟩,pi _⟩
 |_::_,_,⟨m,hm,a,b⟩=>⟨m,QY hm c.le,a,CKs.snoc c b⟩
end
open Go.Ev.St
def clF(e:Nat):IFn:=⟨1,.seq (.ops [⟨none,.p .mv [.c .nils],some 2⟩]) (.seq (.ops [zp .lenS [.v 0],zp .lenS [.v 0],zp (.sl none e false true true) [.v 0,.l 1,.l 0],⟨none,.p .mv [.l 0],some 2⟩]) .ret),[.t 2]⟩
theorem qv{f:Nat}(hf:F.get f=some (clF e)){h:Heap}{v:V}{n:Nat}{cs:List V}(U:Nat.blt 0 e=true)(w:WF h)(g:Gn e h N v n cs):ay go f [v] h fun u h'=>Cq e N h.next h u n cs/\h=h':=by
 have q:∀y n,n<=y->aO n y false true true [ZZ (n:Int),ZZ (n:Int)]=some (0,n,some n):=fun y n hy=>by
  simp only[aO,aY .i64 (n:Int) y oM oM,aY .i64 (n:Int) n oM oM,QX,QG,so]
 obtain⟨hl,⟨rfl,rfl|⟨b,Z,rfl,o⟩⟩|⟨b,Z,rfl,o⟩⟩:=g
 ·have x:aP (.sl none e false true true) [.nils,ZZ 0,ZZ 0]=some .nils:=rfl;refine aa (hf:=hf) ?_;simp only[evs,↓reduceIte,Nat.reduceEqDiff,x];exact yV
 ·have x:aP (.sl none e false true true) [.slice b 0 0 0,ZZ ((0:Nat):Int),ZZ ((0:Nat):Int)]=some (.slice b 0 0 0):=by
   simp only[aP,dW,q 0 0 (pi _),QG,Option.getD_some,SN,RG];rfl
  refine aa (hf:=hf) ?_;simp only[evs,↓reduceIte,Nat.reduceEqDiff,x];exact⟨hl,.inl ⟨rfl,.inr ⟨b,Z,o.lt w,rfl,o⟩⟩⟩
 ·have x:aP (.sl none e false true true) [.sliceU b 0 n e,ZZ ((n:Nat):Int),ZZ ((n:Nat):Int)]=some (.slice b 0 n n):=by
   simp only[aP,dW,iw (rfl:e=e),U,Sb,cond_true,q n n (pi _),QX];cases Nat.beq n 0<;>simp
  refine aa (hf:=hf) ?_;simp only[evs,↓reduceIte,Nat.reduceEqDiff,x];exact⟨hl,.inr ⟨b,Z,o.lt w,rfl,o⟩⟩
end Go.Ev.Lay
