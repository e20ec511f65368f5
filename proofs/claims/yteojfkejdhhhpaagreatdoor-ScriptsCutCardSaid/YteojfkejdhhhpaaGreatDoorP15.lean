/- An evaluator of the program, and contracts over it: ShE to EvPq. -/
import Derived.RecoverIn
import Derived.Test.YteojfkejdhhhpaaGreatDoorP03
import Derived.Test.YteojfkejdhhhpaaGreatDoorP14
set_option linter.unusedSimpArgs false
set_option linter.unusedVariables false
set_option linter.constructorNameAsVariable false
set_option linter.unnecessarySimpa false
set_option maxRecDepth 4000
noncomputable section
namespace Go.Ev.Lay
variable{h:Heap}{c d:Cfg}{Xs Ys:List Evt}
open Go.Ev.St
section
variable {h : Heap} {lo hi bc b : Nat} {c : Cfg} {vE : V} {Xs : List Evt}
theorem IU:CG 13:=by
 intro h lo hi bc b c vE Xs w B hb hr;have r:=gw hb hr 13;have l7:=B.l7;obtain⟨k1,k2,k3,q1,q2,q3,q4,gk,ck,ge,ce⟩:=B.cp;have bl:=B.l;have nX:=B.a.n;have R:=B.a.ev.len;obtain⟨Ys,hYs⟩:∃Ys,Xs=Ys:=⟨_,rfl⟩;cases Ys with
 |nil=>
  have:(Xs.length:Int)=0:=by rw[hYs];rfl
  refine aa ?_;simp only[evs,seval,l7,R,r,eq_true this];exact yag
 |cons x rs=>
  have xm:x∈Xs:=by rw[hYs];simp
  have D:=B.a.eh x xm;have nz:¬(Xs.length:Int)=0:=by grind
  obtain⟨gl,⟨z,_⟩|⟨bE,b1,b2,ev,oE⟩⟩:=ge
  ·omega
  rw[hYs]at ce;obtain⟨m,hm,cx,cr⟩:=ce;obtain⟨m1,m2,h1,h2,h3,cT,cN,cS⟩:=cx;have zr:=cr.le;have ix:aP (.ixs 5) [vE,ZZ 0]=some (.ptr bE 0):=by rw[ev,bO 5 bE 0 _ _ .i64 0 oM oM];rfl
  have l4:ai h bE 4=some x.vT:=by rw[oE.ld1,hYs];rfl
  have tl:=cT.sl.len;obtain⟨Ts,U⟩:∃Ts,x.Tl=Ts:=⟨_,rfl⟩;cases Ts with
  |nil=>
   have:(x.Tl.length:Int)=0:=by rw[U];rfl
   refine aa ?_;simp only[evs,seval,l7,R,r,eq_false nz,ix,l4,tl,eq_true this];exact yag
  |cons p ts=>
   have nt:¬(x.Tl.length:Int)=0:=by grind
   have pz:=D.t.z p (by rw[U];simp);obtain⟨cl,⟨z,_⟩|⟨I,b3,b4,J,oT⟩⟩:=cT
   ·omega
   have ab:aP (.ixs 2) [x.vT,ZZ 0]=some (.ptr I 0):=by rw[J,bO 2 I 0 _ _ .i64 0 oM oM];rfl
   have lz:ai h I 1=some (ZZ p.2):=by rw[oT.ld1,U];rfl
   have fw:aB .i64 (p.2+1)=p.2+1:=Sn _ oM oM;obtain⟨x',hx'⟩:∃x':Evt,x'=⟨x.k,x.to,x.key,x.vN,x.Ns,x.vT,(p.1,p.2+1)::ts⟩:=⟨_,rfl⟩;refine aa ?_;simp only[evs,seval,l7,R,r,eq_false nz,ix,l4,tl,eq_false nt,ab,lz,fw];refine ac w oT rfl rfl (by rw[U];exact aS dM (y:=(p.1,p.2+1)) (o:=1) (vs:=[ZZ (p.2+1)]) (p::ts) 0 p rfl rfl) ?_;rintro h' o' F n';simp only[evs,seval];have Z:∀z∈[I],k3<=z/\z<m1:=fun z m=>by simp at m;omega
   have wF:=F.wf;have er:=CEs.keep (h0:=h) w cr (fun y my=>B.a.eh y (by rw[hYs];exact QO _ my)) F fun z m=>.inl (by have:=Z z m;omega);have ex:EvM h' x':=by
    rw[hx'];refine⟨(cN.fr F fun z m=>.inl (Z z m).2).sl,CNz.nt wF (CNz.fr w F cS fun z m=>.inl (by have:=Z z m;omega)) rfl D.hx,by show x.Ns.length<=_;have:=D.n;omega,?_,?_⟩
    ·show Recs htC 2 h' x.vT ((p.1,p.2+1)::ts);rw[J];exact jU dM o' (by rw[U];rfl)
    ·show((p.1,p.2+1)::ts).length<=_;have:=D.t.n;rw[U]at this;simp at this|-;omega
   refine⟨[I],fun z m=>.inr (by have:=Z z m;omega),F,.inr ⟨rfl,c,vE,x'::rs,F.own _ _ oO B.o,⟨(gk.fr F fun z m=>.inr (by have:=Z z m;omega)).sl,CKs.keep w ck F fun z m=>.inr (by have:=Z z m;omega),by have:=B.a.k3;omega,?_,?_,by have:=nX;rw[hYs]at this;simp at this|-;omega⟩,fun e=>?_⟩⟩
   ·exact y0
   ·grind
   ·have ee:=e.e;rw[hYs]at ee;simp only[QU,QC,and_true]at ee;have:=congrArg (fun z=>z.Tl) ee;rw[hx']at this;simp only[Evt.er,U,QC,and_true]at this;have:=congrArg Prod.snd this;simp at this;omega
theorem IT:CG 14:=by
 intro h lo hi bc b c vE Xs w B hb hr;have r:=gw hb hr 14;have l7:=B.l7;obtain⟨k1,k2,k3,q1,q2,q3,q4,gk,ck,ge,ce⟩:=B.cp;have bl:=B.l;have nX:=B.a.n;have J:=B.a.ev.len;obtain⟨Ys,hYs⟩:∃Ys,Xs=Ys:=⟨_,rfl⟩;cases Ys with
 |nil=>
  have:(Xs.length:Int)=0:=by rw[hYs];rfl
  refine aa ?_;simp only[evs,seval,l7,J,r,eq_true this];exact yag
 |cons x rs=>
  have xm:x∈Xs:=by rw[hYs];simp
  have xh:=B.a.eh x xm;have xo:=B.a.eo x xm;have nz:¬(Xs.length:Int)=0:=by grind
  obtain⟨gl,⟨z,_⟩|⟨bE,b1,b2,ev,oE⟩⟩:=ge
  ·omega
  rw[hYs]at ce;obtain⟨m,hm,cx,cr⟩:=ce;obtain⟨m1,m2,h1,h2,h3,cT,cN,cS⟩:=cx;have zr:=cr.le;have ix:aP (.ixs 5) [vE,ZZ 0]=some (.ptr bE 0):=by rw[ev,bO 5 bE 0 _ _ .i64 0 oM oM];rfl
  have l3:ai h bE 3=some x.vN:=by rw[oE.ld1,hYs];rfl
  have nl:=cN.sl.len;obtain⟨Ms,U⟩:∃Ms,x.Ns=Ms:=⟨_,rfl⟩;cases Ms with
  |nil=>
   have:(x.Ns.length:Int)=0:=by rw[U];rfl
   refine aa ?_;simp only[evs,seval,l7,J,r,eq_false nz,ix,l3,nl,eq_true this];exact yag
  |cons y ms=>
   have ym:y∈x.Ns:=by rw[U];simp
   have yh:=xh.hx y ym;have yo:=xo.ok y ym;have nn:¬(x.Ns.length:Int)=0:=by grind
   obtain⟨cl,⟨z,_⟩|⟨bN,b3,b4,ab,oN⟩⟩:=cN
   ·omega
   have ah:aP (.ixs 5) [x.vN,ZZ 0]=some (.ptr bN 0):=by rw[ab,bO 5 bN 0 _ _ .i64 0 oM oM];rfl
   have l4:ai h bN 4=some y.v:=by rw[oN.ld1,U];rfl
   rw[U]at cS;obtain⟨m',ax,cy,aj⟩:=cS;obtain⟨mid,g1,g2,cI,sI⟩:=cy;have zs:=aj.le;have il:=cI.sl.len;obtain⟨Is,R⟩:∃Is,y.n.Y=Is:=⟨_,rfl⟩;cases Is with
   |nil=>
    have:(y.n.Y.length:Int)=0:=by rw[R];rfl
    refine aa ?_;simp only[evs,seval,l7,J,r,eq_false nz,ix,l3,nl,eq_false nn,ah,l4,il,eq_true this];exact yag
   |cons t ts=>
    have ni:¬(y.n.Y.length:Int)=0:=by grind
    have tm:t∈y.n.Y:=by rw[R];simp
    have tk:=yo.2.2 t tm;have tl:t.text.length<=64:=by
     simp only[okI,be,decide_eq_true_eq]at tk;exact xI tk.2.2.1
    obtain⟨ao,⟨z,_⟩|⟨bI,b5,b6,ad,oI⟩⟩:=cI
    ·omega
    have ak:aP (.ixs 4) [y.v,ZZ 0]=some (.ptr bI 0):=by rw[ad,bO 4 bI 0 _ _ .i64 0 oM oM];rfl
    have lt:ai h bI 2=some (.str t.text):=by rw[oI.ld1,R];rfl
    have fw:=aI t.text [120] oO;obtain⟨t',I⟩:∃t':Itm,t'=⟨t.key,t.type,t.text++[120],t.marks,t.vm⟩:=⟨_,rfl⟩;obtain⟨y',D⟩:∃y':Nt,y'=⟨⟨y.n.k,y.n.a,y.n.c,y.n.t,t'::ts⟩,y.v⟩:=⟨_,rfl⟩;obtain⟨x',hx'⟩:∃x':Evt,x'=⟨x.k,x.to,x.key,x.vN,y'::ms,x.vT,x.Tl⟩:=⟨_,rfl⟩;refine aa ?_;simp only[evs,seval,eff,l7,J,r,eq_false nz,ix,l3,nl,eq_false nn,ah,l4,il,eq_false ni,ak,lt,fw];refine ac (c':=(t'::ts).flatMap Itm.cells) w oI rfl rfl (by rw[R,I];rfl) ?_;rintro h' o' F n';simp only[evs,seval,DF,l7,l3,l4,lt];have Z:∀z∈[bI],m2<=z/\z<mid:=fun z m=>by simp at m;omega
    have wF:=F.wf;have er:=CEs.keep (h0:=h) w cr (fun y my=>B.a.eh y (by rw[hYs];exact QO _ my)) F fun z m=>.inl (by have:=Z z m;omega);have em:=CNz.nt wF (CNz.fr w F aj fun z m=>.inl (by have:=Z z m;omega)) rfl fun z mz=>xh.hx z (by rw[U];exact QO _ mz);have ei:=(sI.fr w F fun z m=>.inl (Z z m).2).at wF;have ey:NtH h' y':=by
     rw[D];refine⟨yh.k,yh.a,yh.c,yh.t,?_,?_,?_,yh.v⟩
     ·show Recs Itm.cells 4 h' y.v (t'::ts);rw[ad];exact jU b8 o' (by rw[R];rfl)
     ·intro z mz;rcases Qy.1 mz with rfl|mz
      ·have q:=ei t tm;rw[I];exact⟨q.k,q.t,q.m,q.n,by simp;omega⟩
      ·grind
     ·show(t'::ts).length<=_;have:=yh.n;rw[R]at this;simp at this|-;omega
    have ex:EvM h' x':=by
     rw[hx'];refine⟨?_,?_,?_,(cT.fr F fun z m=>.inr (by have:=Z z m;omega)).sl,by show x.Tl.length<=_;have:=xh.t.n;omega⟩
     ·show Recs Nt.cells 5 h' x.vN (y'::ms);rw[ab];refine jU fJ ?_ (by rw[U];rfl);have:(y'::ms).flatMap Nt.cells=x.Ns.flatMap Nt.cells:=by rw[U,D];rfl
      rw[this];exact F.own _ _ oO oN
     ·grind
     ·show(y'::ms).length<=_;have:=xh.n;rw[U]at this;simp at this|-;omega
    refine⟨[bI],fun z m=>.inr (by have:=Z z m;omega),F,.inr ⟨rfl,c,vE,x'::rs,F.own _ _ oO B.o,⟨(gk.fr F fun z m=>.inr (by have:=Z z m;omega)).sl,CKs.keep w ck F fun z m=>.inr (by have:=Z z m;omega),by have:=B.a.k3;omega,?_,?_,by have:=nX;rw[hYs]at this;simp at this|-;omega⟩,fun e=>?_⟩⟩
    ·exact y0
    ·grind
    ·have ee:=e.e;rw[hYs]at ee;simp only[QU,QC,and_true]at ee;have:=congrArg (fun z=>z.Ns) ee;rw[hx']at this;simp only[Evt.er,U,QU,QC,and_true]at this;have:=congrArg (fun z=>z.n.Y) this;rw[D]at this;simp only[Nt.er,R,QU,QC,and_true]at this;have:=congrArg (fun z=>z.text) this;rw[I]at this;simp[Itm.er]at this
theorem Ar(w:WF h)(B:CpB lo hi bc h c vE Xs)(Z:b<256):ay go 14 [.ptr bc 0,ZY (b:Int)] h (Chg lo bc h c Xs):=by
 have U:=QR b (oM:0<16);rcases(by omega:b%16=0\/b%16=1\/b%16=2\/b%16=3\/b%16=4\/b%16=5\/b%16=6\/b%16=7\/b%16=8\/b%16=9\/b%16=10\/b%16=11\/b%16=12\/b%16=13\/b%16=14\/b%16=15)with q|q|q|q|q|q|q|q|q|q|q|q|q|q|q|q
 ·exact Lg w B Z q
 ·exact Lf w B Z q
 ·exact Ld w B Z q
 ·exact Lc w B Z q
 ·exact Lb w B Z q
 ·exact La w B Z q
 ·exact K9 w B Z q
 ·exact K8 w B Z q
 ·exact K7 w B Z q
 ·exact K6 w B Z q
 ·exact IY w B Z q
 ·exact IW w B Z q
 ·exact IV w B Z q
 ·exact IU w B Z q
 ·exact IT w B Z q
 ·exact IR w B Z q
end
open Go.Ev.St
theorem Tv.tq(t:Tv h):Tq h:=⟨t.t,t.tf⟩
theorem Tv.fr{h':Heap}{S:List Nat}(t:Tv h)(f:Fr S h h')(h0:0∉S)(Z:2∉S):Tv h':=by
 have a:=f.pl 2 bS Z ⟨t.t,t.tf⟩;have b:=f.pl 0 pZ h0 ⟨t.k,t.kf⟩;exact⟨a.1,a.2,b.1,b.2⟩
theorem zD(t:Tv h):ay go 9 [] h fun u h'=>u=.bool true/\h=h':=
 ⟨.bool true,h,O7 Kd rfl (by unfold lov;rw[if_pos ⟨rfl,rfl,t⟩]),rfl,rfl⟩
theorem Cq.cap{e lo Z:Nat}{v:V}{n:Nat}{cs:List V}(g:Cq e lo Z h v n cs):aP .capS [v]=some (ZZ n):=by
 obtain⟨_,⟨rfl,rfl|⟨b,_,_,rfl,_⟩⟩|⟨b,_,_,rfl,_⟩⟩:=g<;>rfl
theorem ScE.refl:ScE c Xs c Xs:=⟨rfl,rfl,rfl,rfl,rfl,rfl,rfl,rfl⟩
theorem ScE.symm(a:ScE c Xs d Ys):ScE d Ys c Xs:=⟨a.v.symm,a.o.symm,a.l.symm,a.p.symm,a.a.symm,a.f.symm,a.k.symm,a.e.symm⟩
theorem ScE.trans{e:Cfg}{Zs:List Evt}(a:ScE c Xs d Ys)(b:ScE d Ys e Zs):ScE c Xs e Zs:=⟨a.v.trans b.v,a.o.trans b.o,a.l.trans b.l,a.p.trans b.p,a.a.trans b.a,a.f.trans b.f,a.k.trans b.k,a.e.trans b.e⟩
theorem ScE.cf(a:ScE c Xs d Ys)(h:cfB d=true):cfB c=true:=Pb a.v a.o a.l a.p a.a a.f a.k h
def PC(h0:Heap)(c:Cfg)(Rs:List Evt)(bad:Prop)(u:V)(h':Heap):Prop:=Fr [] h0 h'/\∃(ca:Cfg)(va:V)(Xa:List Evt)(e:Int),u=.tup [.agg (scC ca va),ZZ e]/\ScM h' ca va Xa/\
 (bad/\e=4/\ScE ca Xa As []\/¬bad/\e=0/\CpS h0.next h' ca va Xa/\ScE ca Xa c Rs/\ScrH h' ca va Xa/\cfB ca=true/\aP .capS [va]=some (ZZ Xa.length))
section
variable {h : Heap} {c : Cfg} {vE : V} {Xs : List Evt} {n : Int}
theorem ScrH.take{k:Nat}(a:ScrH h c vE Xs)(Z:vE≠.sliceE)(U:k<=Xs.length):∃v,ScrH h c v (Xs.take k):=by
 obtain⟨v,_,s⟩:=Ub a.ev oM Z .i64 (k:Int) oM oM;rw[so]at s;exact⟨v,a.upto U s⟩
theorem Dj(w:WF h)(R:Tq h)(a:ScrH h c vE Xs)(cf:cfB c=true)(Z:vE≠.sliceE):ay go 12 [.agg (scC c vE),ZZ n] h (PC h c (Xs.take n.toNat) (n<0\/(Xs.length:Int)<n)):=by
 refine ae (IJ w R a cf Z) ?_;rintro u h' ⟨F,⟨b,rfl⟩|⟨⟨g1,g2⟩,ca,va,Xa,rfl,cp,ce⟩⟩
 ·exact⟨F,As,.nils,[],4,rfl,ScM.zero,.inl ⟨b,rfl,ScE.refl⟩⟩
 ·obtain⟨v,U⟩:=a.take Z (k:=n.toNat) oM;have sc:=cp.scr F.wf ce U;exact yaf
theorem yM(w:WF h)(U:Tq h)(a:ScrH h c vE Xs)(cf:cfB c=true)(hE:vE≠.sliceE):ay go 13 [.agg (scC c vE),ZZ n] h (PC h c (Xs.take n.toNat++Xs.drop (n.toNat+1)) (n<0\/(Xs.length:Int)<=n)):=by
 refine ae (wV w U a cf hE) ?_;rintro u h' ⟨F,⟨b,rfl⟩|⟨⟨g1,g2⟩,ca,va,Xa,rfl,cp,ce⟩⟩
 ·exact⟨F,As,.nils,[],4,rfl,ScM.zero,.inl ⟨b,rfl,ScE.refl⟩⟩
 ·have sc:ScrH h' ca va Xa:=by
   obtain⟨k1,k2,k3,_,_,_,_,D,ck,ge,Z⟩:=cp;have R:=er_len ce.k;have J:=er_len ce.e;have mem:∀x∈Xs.take n.toNat++Xs.drop (n.toNat+1),x∈Xs:=fun x m=>(Qp.1 m).elim QP Sf;refine⟨D.sl,ck.kh F.wf,by rw[R];exact a.k3,ge.sl,CEs.ev F.wf Z ce.e fun x m=>a.eh x (mem x m),fun x m=>?_,?_⟩
   ·obtain⟨y,I,ey⟩:=ye ce.e x m;exact DW ey (a.eo y (mem y I))
   ·rw[J,Qv,QN,Sq];have:=a.n;omega
  exact yaf
end
theorem g4x : F.get 4 = some fn4x := rfl
open Go.Ev.St
section
variable {h0 hh : Heap} {env : T V} {c : Cfg} {vE : V} {Xs : List Evt} {b7 wh : Nat}
set_option maxHeartbeats 2000000 in
theorem HO(w0:WF h0)(T0:Tv h0)(F:Fr [] h0 hh)(o7:Own hh b7 (scC c vE))(sc:ScrH hh c vE Xs)(cf:cfB c=true)(hE:vE≠.sliceE)(g2:env.get 2=some (ZY (wh:Int)))(g7:env.get 7=some (.ptr b7 0))(g8:env.get 8=some (.str (t42 c Xs)))(hw:wh<256):
 W go lwC env hh (jo [.t 6] fun u h'=>u=.bool true/\Fr [] h0 h'):=by
 have TV{h'}(f:Fr [] h0 h'):=T0.fr f iS iS;have L8{h'}(f:Fr [] hh h'):=(f.get o7).la 8
 have L7{h'}(f:Fr [] hh h'):=(f.get o7).l1 7;have ww:=F.wf;have rr:=Qw (S:=[]) ww;have nX:=sc.n;simp only[evs,lwC,g7,L8 rr,L7 rr,sc.ev.len];refine ae (Dj (n:=(Xs.length:Int)) ww (TV F).tq sc cf hE) ?_;rintro u h1 ⟨F1,ca,va,Xa,ea,rfl,ma,⟨bad,_⟩|⟨_,rfl,cp,ce,sa,ao,_⟩⟩
 ·omega
 rw[so,Qs (pi _)]at ce;have on:=sa.on;have w1:=F1.wf;have n1:=F1.next;obtain⟨h2,U,R,ab⟩:=av w1 S8;have n2:=hnx U
 simp[evs,<-U];refine ac (c':=scC ca va) R.wf ab rfl on rfl ?_;rintro h3 o3 F3 n3;have J:=R.fresh F3 w1 (pi _);have I:=F1.then J;have aE{h'}(f:Fr [] h3 h'):=(f.get o3).la 8
 have r3:=Qw (S:=[]) F3.wf;simp[evs,g7,aE r3,L8 I];refine ae (fH F3.wf (sa.fr J).m (sc.fr I).m) ?_;rintro u h4 ⟨F4,r,rfl,er⟩;have rt:=er.2 ce;subst rt;have aj:=J.then F4;have ad:=I.then F4;simp[evs,g2];have B:CpB hh.next h1.next h1.next h4 ca va Xa:=⟨F4.get o3,.inr (pi _),CpX.fr w1 cp aj iS,sa.fr aj,ao⟩;refine ae (Ar F4.wf B hw) ?_;rintro u h5 ⟨S,hS,F5,rfl|⟨rfl,d,vF,Ys,oD,mD,ne⟩⟩
 ·have Z:=Ru ww ad F5 fun z m=>(hS z m).elim (fun q=>by omega) id;simp[evs];refine dm (zD (TV (F.then Z))) ?_;simp[evs];exact F.then Z
 ·have Z:=Ru ww ad F5 fun z m=>(hS z m).elim (fun q=>by omega) id;have s5:=sc.fr Z;have l5{h'}(f:Fr [] h5 h'):=(f.get oD).la 8
  have r5:=Qw (S:=[]) F5.wf;simp[evs,g7,l5 r5,L8 Z];refine ae (fH F5.wf mD s5.m) ?_;rintro u h6 ⟨F6,r,rfl,aA⟩;have ak:=Z.then F6;have rf:r=false:=by
   cases r with
   |false=>rfl
   |true=>exact absurd ((aA.1 rfl).trans ce.symm) ne
  subst rf;simp[evs,g7,l5 F6,L8 ak];refine ae (fH F6.wf (s5.fr F6).m (mD.fr F6)) ?_;rintro u h7 ⟨F7,r,rfl,ax⟩;have D:=ak.then F7;have rf:r=false:=by
   cases r with
   |false=>rfl
   |true=>exact absurd ((ax.1 rfl).symm.trans ce.symm) ne
  subst rf;simp[evs,g7,L8 D];refine aN (uR F7.wf (sc.fr D) cf (I0 cf)) fun h8 F8=>?_;have ah:=D.then F8;simp[evs,g8,aQ,show(t42 c Xs==t42 c Xs)=true from beq_self_eq_true _];refine dm (zD (TV (F.then ah))) ?_;simp[evs];exact F.then ah
end
open Go.Ev.St
section
variable {h0 hh : Heap} {env : T V} {c cb : Cfg} {vE vb' : V} {Xs Xb : List Evt} {b7 b4 b11 wh lb : Nat} {n0 n1 eb : Int}
set_option maxHeartbeats 2000000 in
theorem Nk(w0:WF h0)(T0:Tv h0)(F:Fr [] h0 hh)(o7:Own hh b7 (scC c vE))(o4:Own hh b4 [.int .i64 n0,.int .i64 n1])(o11:Own hh b11 (scC cb vb'))(sc:ScrH hh c vE Xs)(mb:ScM hh cb vb' Xb)(cf:cfB c=true)(hE:vE≠.sliceE)(i1:i64 n1)
 (rb:(n1<0∨(Xs.length:Int)≤n1)∧eb=4∧ScE cb Xb As []∨¬(n1<0∨(Xs.length:Int)≤n1)∧eb=0∧ScE cb Xb c (Xs.take n1.toNat++Xs.drop (n1.toNat+1))∧ScrH hh cb vb' Xb∧cfB cb=true)
 (g2:env.get 2=some (.int .u8 (wh:Int))) (g4:env.get 4=some (.ptr b4 0)) (g7:env.get 7=some (.ptr b7 0)) (g8:env.get 8=some (.str (t42 c Xs))) (g11:env.get 11=some (.ptr b11 0)) (g12:env.get 12=some (.int .i64 eb)) (hw:wh<256):
 W go lwB env hh (jo [.t 6] fun u h'=>u=.bool true∧Fr [] h0 h'):=by
 have TV{h'}(f:Fr [] h0 h'):=T0.fr f iS iS;have L7{h'}(f:Fr [] hh h'):=(f.get o7).l1 7;have LC{h'}(f:Fr [] hh h'):aH h' b7 0 7=some c.cells:=by rw[(f.get o7).ld];rfl
 have LN{h'}(f:Fr [] hh h'):=(f.get o4).l1 1;have LB{h'}(f:Fr [] hh h'):=(f.get o11).la 8
 have ixa1:aP (.ixa 2 1) [.ptr b4 0,.int .i64 1]=some (.ptr b4 1):=by rw[iC _ _ _ _ _ _ oM oM];rfl
 have ww:=F.wf;have rr:=Fr.refl (S:=[]) ww;have nX:=sc.n;have elen:=sc.ev.len;rcases rb with⟨bad,rfl,er⟩|⟨ok,rfl,er,sb,cfb⟩
 ·have go11:∀{K:V→Heap→Prop},(∀h1,Fr [] hh h1→K (.bool true) h1)→OQ (go 11 [.agg (scC cb vb'),.agg S8] hh) K:=fun{K} hK=>by
   refine ae (fH ww mb (ScM.zero (h:=hh))) ?_;rintro u h1 ⟨F1,r,rfl,e⟩;have:=e.2 er;subst this;exact hK h1 F1
  by_cases c0:n1<0
  case' pos=>
   simp[evs,lwB,g4,g11,g12,ixa1,LN rr,eq_true c0,LB rr]
  case' neg=>
   have c1:(Xs.length:Int)≤n1:=oM
   simp[evs,lwB,g4,g7,g11,g12,ixa1,LN rr,eq_false c0,L7 rr,elen,eq_true c1,LB rr]
  all_goals
   refine go11 ?_;intro h1 F1;simp[evs];exact HO w0 T0 (F.then F1) (F1.get o7) (sc.fr F1) cf hE iX iX iX hw
 ·obtain⟨i,rfl⟩:∃i:Nat,n1=i:=⟨n1.toNat,oM⟩;rw[Int.toNat_natCast]at er;have hi:i<Xs.length:=oM
  obtain⟨v1,ev1,sv1⟩:=Sl.upto sc.ev oM hE .i64 (i:Int) oM oM;rw[Int.toNat_natCast]at sv1;have onE:∀L:List Evt,(∀x∈L,x∈Xs)→az (L.flatMap Evt.cells)=true:=fun L=>by
   induction L with
   |nil=>intro _;rfl
   |cons x L ih=>
    intro hL;rw[List.flatMap_cons,bQ,ih fun y m=>hL y (List.mem_cons_of_mem _ m),(sc.eh x (hL x (List.mem_cons_self ..))).on];rfl
  have tk:(Xs.flatMap Evt.cells).take (i*5)=(Xs.take i).flatMap Evt.cells:=by
   conv=>lhs;rw[←List.take_append_drop i Xs,List.flatMap_append]
   have l:((Xs.take i).flatMap Evt.cells).length=i*5:=by rw[au aZ,List.length_take,Nat.min_eq_left oM]
   rw[←l,List.take_left]
  rw[tk]at sv1;simp[evs,eff,lwB,g4,g7,ixa1,LN rr,eq_false (oM:¬(i:Int)<0),L7 rr,elen,eq_false (oM:¬(Xs.length:Int)≤(i:Int)),ev1];refine Gs.append (B:=hh.next) (bytes:=72) (cs:=[]) ww (.inl ⟨rfl,rfl⟩) sv1 oM (onE _ fun x m=>List.mem_of_mem_take m) (Nat.le_refl _) oO ?_;intro u1 h1 G1 F1;have F1:Fr [] hh h1:=F1;rw[List.nil_append]at G1;obtain⟨v2,ev2,sv2⟩:=Sl.from' (sc.fr F1).ev oM hE .i64 ((i:Int)+1) oM oM;rw[(oM:((i:Int)+1).toNat=i+1)]at sv2;rw[dE aZ]at sv2;have w1:=F1.wf;have n1':=F1.next;simp(disch:=omega)[evs,eff,fwrap_i64,g7,g4,L7 F1,LN F1,ixa1,ev2];refine Gs.append (B:=hh.next) (bytes:=72) w1 G1 sv2 oM (onE _ fun x m=>List.mem_of_mem_drop m) n1' (by rw[au aZ,List.length_take];omega) ?_;intro u2 h2 G2 F2;have F02:=Fr.new ww F1 F2 G1.vb;rw[←List.flatMap_append]at G2;have rl:(Xs.take i++Xs.drop (i+1)).length=i+(Xs.length-(i+1)):=by rw[List.length_append,List.length_take,List.length_drop,Nat.min_eq_left oM]
  have sR:Sl h2 5 u2 (i+(Xs.length-(i+1))) ((Xs.flatMap Evt.cells).take (i*5)++(Xs.flatMap Evt.cells).drop ((i+1) *5)):=by
   rw[←zS Xs i hi,←rl];exact Gs.sl G2 (au aZ _) oM
  have sL:=(sc.fr F02).less hi sR;have u21:=G2.one;have w2:=F02.wf;have bld:aP (.build [.int .i64 0,.int .i64 0,.int .i64 0,.nils,.int .i64 0,.int .i64 0,.int .u8 0,.nils] [(0,7),(7,1)]) [.agg c.cells,u2]=some (.agg (scC c u2)):=by
   have c2:=aq u21;simp only[og,qX,kV,c2];rfl
  simp[evs,DF,eff,g7,g12,g11,L7 rr,L7 F1,LN rr,LN F1,LB F02,LC F02,bld];refine ae (fH w2 (mb.fr F02) sL.m) ?_;rintro u h3 ⟨F3,r,rfl,e⟩;have rt:=e.2 er;subst rt;have F03:=F02.then F3;simp[evs,g11,LB F03];refine aN (kU F3.wf (TV (F.then F03)).tq (sb.fr F03) cfb) fun h4 F4=>?_;have F04:=F03.then F4;simp[evs];exact HO w0 T0 (F.then F04) (F04.get o7) (sc.fr F04) cf hE iX iX iX hw
end
open Go.Ev.St
section
variable {h : Heap} {vB vP : V} {Bs : List B6} {Ps : List P14} {b0 b1 b2 b3 b4 fl wh : Nat} {n0 n1 : Int}
set_option maxHeartbeats 4000000 in
theorem uD(wf:WF h)(T0:Tv h)(hb:b0<256/\b1<256/\b2<256/\b3<256/\b4<256)(rB:ARecs B6.cells 6 h vB Bs)(oB:∀b∈Bs,b.ok)(nB:Bs.length<281474976710656)(rP:ARecs P14.cells 3 h vP Ps)(cm:∀p∈Ps,P14H h p)(ch:fl<256)(nP:Ps.length<281474976710656)(hw:wh<256)(i0:i64 n0)(i1:i64 n1):
 ay go 4 [.agg (c5 b0 b1 b2 b3 b4++[vB,vP,ZY (fl:Int)]),.agg [ZZ n0,ZZ n1],ZY (wh:Int)] h fun u h'=>u=.bool true/\Fr [] h h':=by
 have cy:=Ug rB;have cu:=Ug rP;have t2:=(Pl.own (show Pl h 2 bS from⟨T0.t,T0.tf⟩)).lt wf;have t0:0<h.next:=oM
 obtain⟨SC,cx⟩:∃SC:List V,SC=c5 b0 b1 b2 b3 b4++[vB,vP,ZY (fl:Int)]:=⟨_,rfl⟩;obtain⟨h1,ak,ao,bi⟩:=av wf (c5 b0 b1 b2 b3 b4++[vB,vP,ZY (fl:Int)]);obtain⟨h2,aj,aE,U⟩:=av ao.wf [ZZ n0,ZZ n1];have cq:=hnx ak
 have cz:=hnx aj
 have I:=ao.then aE;have e1:halloc h [ZY (b0:Int),ZY (b1:Int),ZY (b2:Int),ZY (b3:Int),ZY (b4:Int),vB,vP,ZY (fl:Int)]=h1:=ak.symm;have l8:=(aE.get bi).la 8
 have cA:=U;refine aa ?_ g4x rfl;simp[evs,e1,<-aj,l8];refine ae (GT I.wf hb (TC rB I) oB nB (TC rP I) (fun p m=>(cm p m).fr I) ch nP) ?_;rintro _ h3 ⟨F3,c0,c,vE,Xs,rfl,hE,sc,bT,d1,d2,d3,d4,d5,rk,d6,d7,d8,d9,bm,bn,rel⟩;have cf:=NB bT d1 d2 d3 d4 d5 rk d6 d7 d8 d9 bm bn sc.k3 rel;clear d1 d2 d3 d4 d5 rk d6 d7 d8 d9 bm bn rel;have bL:=I.then F3;have w3:=F3.wf;have on:=sc.on;obtain⟨h4,bt,aF,a5⟩:=av w3 S8;simp[evs,<-bt];refine ac (c':=scC c vE) aF.wf a5 rfl on rfl ?_;rintro h5 o5 F5 n5;have D:=aF.fresh F5 w3 (pi _);have R:=bL.then D;have w5:=F5.wf;have s5:=sc.fr D;have ct:=R.next;have TV{h'}(f:Fr [] h h'):=T0.fr f iS iS;have ab{h'}(f:Fr [] h5 h'):=(f.get (D.get (F3.get U))).l1 0;have bN{h'}(f:Fr [] h5 h'):=(f.get (D.get (F3.get U))).l1 1;have L8{h'}(f:Fr [] h5 h'):=(f.get o5).la 8
 have L7{h'}(f:Fr [] h5 h'):=(f.get o5).l1 7;have LC{h'}(f:Fr [] h5 h'):aH h' h3.next 0 7=some c.cells:=by rw[(f.get o5).ld];rfl
 have r5:=Qw (S:=[]) w5;have H7:aP (.ixa 2 1) [.ptr h1.next 0,ZZ 0]=some (.ptr h1.next 0):=by rw[iC _ _ _ _ _ _ oM oM];rfl
 have br:aP (.ixa 2 1) [.ptr h1.next 0,ZZ 1]=some (.ptr h1.next 1):=by rw[iC _ _ _ _ _ _ oM oM];rfl
 have tx:=I0 cf;simp[evs,L8 r5];refine aN (uR w5 s5 cf tx) fun h6 F6=>?_;have bu:=R.then F6;obtain⟨TX,bw⟩:∃TX,TX=t42 c Xs:=⟨_,rfl⟩;rw[<-bw];simp[evs,L8 F6,H7,ab F6];refine ae (Dj (n:=n0) bu.wf (TV bu).tq (s5.fr F6) cf hE) ?_;rintro u h7 ⟨F7,ca,va,Xa,ea,rfl,ma,ra⟩;have a3:=F6.then F7;have bo:=R.then a3;have bP:=ma.on.1;obtain⟨h8,bh,ax,a4⟩:=av bo.wf S8;simp[evs,<-bh];refine ac (c':=scC ca va) ax.wf a4 rfl bP rfl ?_;rintro h9 o9 F9 n9;have a0:=ax.fresh F9 bo.wf (pi _);have ad:=a3.then a0;have bf:=R.then ad;simp[evs,L8 ad,br,bN ad];refine ae (yM (n:=n1) bf.wf (TV bf).tq (s5.fr ad) cf hE) ?_;rintro u hA ⟨FA,cb,vb,Xb,eb,rfl,mb,rb⟩;have a9:=ad.then FA;have a6:=R.then a9;have a7:=mb.on.1;obtain⟨hB,bc,aR,bB⟩:=av a6.wf S8;simp[evs,<-bc];refine ac (c':=scC cb vb) aR.wf bB rfl a7 rfl ?_;rintro hC oC FC nC;have ah:=aR.fresh FC a6.wf (pi _);have Z:=a9.then ah;have bg:=R.then Z;have a1:=FA.then ah;have bY:=(ma.fr a0);have bK:=bY.fr a1;have cj:=mb.fr ah;have a8:=a1.get o9;have ci:(n1<0\/(Xs.length:Int)<=n1)/\eb=4/\ScE cb Xb As []\/¬(n1<0\/(Xs.length:Int)<=n1)/\eb=0/\ScE cb Xb c (Xs.take n1.toNat++Xs.drop (n1.toNat+1))/\ScrH hC cb vb Xb/\cfB cb=true:=by
  rcases rb with⟨a,b,d⟩|⟨a,b,_,d,e,f,_⟩
  ·exact .inl ⟨a,b,d⟩
  ·exact .inr ⟨a,b,d,e.fr ah,f⟩
 have TW:∀{hh}{env:T V},Fr [] hC hh->env.get 2=some (ZY (wh:Int))->env.get 4=some (.ptr h1.next 0)->env.get 7=some (.ptr h3.next 0)->env.get 8=some (.str TX)->env.get 11=some (.ptr hA.next 0)->env.get 12=some (ZZ eb)->
  W go lwB env hh (jo [.t 6] fun u h'=>u=.bool true/\Fr [] h h'):=fun{hh env} f g2 g4 g7 g8 g11 g12=>by
  have a2:=Z.then f;refine Nk (n0:=n0) (n1:=n1) (c:=c) (cb:=cb) (Xs:=Xs) (Xb:=Xb) (vE:=vE) (vb':=vb) wf T0 (bg.then f) (a2.get o5) (a2.get (D.get (F3.get U))) (f.get oC) (s5.fr a2) (cj.fr f) cf hE i1 ?_ g2 g4 g7 (by rw[g8,bw]) g11 g12 hw;rcases ci with q|⟨a,b,d,e,g⟩
  ·exact .inl q
  ·exact .inr ⟨a,b,d,e.fr f,g⟩
 have LA{h'}(f:Fr [] hC h'):=(f.get a8).la 8
 have bE{h'}(f:Fr [] hC h'):=(f.get a8).l1 7;have rC:=Qw (S:=[]) FC.wf;have nX:=sc.n;have aA:=sc.ev.len;rcases ra with⟨bad,rfl,er⟩|⟨ok,rfl,cr,er,sa,b7,bI⟩
 ·have bv:∀{K:V->Heap->Prop},(∀h1,Fr [] hC h1->K (.bool true) h1)->OQ (go 11 [.agg (scC ca va),.agg S8] hC) K:=fun{K} hK=>by
   refine ae (fH FC.wf bK (ScM.zero (h:=hC))) ?_;rintro u hx ⟨J,r,rfl,e⟩;have:=e.2 er;subst this;exact hK hx J
  by_cases c0:n0<0
  case' pos=>
   simp[evs,H7,ab Z,eq_true c0,LA rC]
  case' neg=>
   have c1:(Xs.length:Int)<n0:=oM
   simp[evs,H7,ab Z,eq_false c0,L7 Z,aA,eq_true c1,LA rC]
  all_goals
   refine bv ?_;intro hx J;simp[evs];exact TW J iS iS iS iS iS iS
 ·have c0:¬n0<0:=oM
  have c1:¬(Xs.length:Int)<n0:=oM
  have sC:=s5.fr Z;obtain⟨v1,b6,bz⟩:=Ub sC.ev oM hE .i64 n0 oM oM;have s1:=sC.upto (n:=n0.toNat) oM bz;have cn:=bz.one;have cl:=sa.ev.len;have ce:aP (.build [ZZ 0,ZZ 0,ZZ 0,.nils,ZZ 0,ZZ 0,ZY 0,.nils] [(0,7),(7,1)]) [.agg c.cells,v1]=some (.agg (scC c v1)):=by
   have c2:=aq cn;simp only[og,qX,kV,c2];rfl
  simp[evs,eff,H7,ab Z,eq_false c0,L7 Z,aA,eq_false c1,LA rC,LC Z,b6,ce];refine ae (fH FC.wf bK s1.m) ?_;rintro u hx ⟨J,r,rfl,e⟩;have rt:=e.2 er;subst rt;have cc:=sa.fr (a0.then a1);simp[evs,eff,bE J,bI,cl,LA J];refine aN (kU J.wf (TV (bg.then J)).tq (cc.fr J) b7) fun hy Fy=>?_;simp[evs,DF,eff,ab Z,L7 Z,LA rC,LC Z,bE J,LA J];exact TW (J.then Fy) iS iS iS iS iS iS
end
end Go.Ev.Lay
namespace Go.Ev
variable{P:Program}{G:Nat}
variable {K : LG -> Prop}
abbrev xz(x:Value):PanicEntry:={v:=x,recovered:=false}
def NY(m:M)(h:Heap)(w:World)(v:V)(h':Heap):Ending->World->Prop:=fun e w'=>∃x m',e=.panicked [xz x]/\VRel m' v x/\HRel m' h' w'/\Ext m h w m' h' w'
def kG(P:Program)(K:LG->Prop)(G:Nat)(pan:aD):Prop:=∀f vs h v h',pan f vs h=some (v,h')->
 (∃fn,P.funcs[f]? =some fn/\fn.body.isSome=true/\(fn.name== "runtime.NumGoroutine")=false)/\
  ∀m w (args:List Value),VsRel m vs args->HRel m h w->Glob K G m->Calls P f (List.toArray args) w (NY m h w v h')
section
variable {P : Program} {C : Cx} {call pan : aD}
theorem Hx(hp:kG P K C.G pan){m:M}{h h':Heap}{w:World}{σ:Sg}{loc:List V}{env:T V}{a:Act}{o:Oper}{f:Nat}{D:List Opd}{vs:List V}{v:V}
 (hG:Glob K C.G m) (hO:uK C m σ loc env a) (H:HRel m h w) (Z:gA P C σ o (.cf f D)=true) (hx:eF loc env D=some vs) (e:pan f vs h=some (v,h')) {K0:Act->World->Prop} {Q:Exit->Act->World->Prop}
 (hQ:∀x w' m',VRel m' v x->HRel m' h' w'->Ext m h w m' h' w'->Q (.panic [xz x]) a w') {ro:Option Nat}:o.wpIn (FR ro) 0 P a w K0 Q:=by
 unfold gA at Z;simp only[be]at Z;obtain⟨R,Z⟩:=Z;have J:=Oper.semAt_eq ro a.eval o (fun c hcc=>by rw[hcc]at R;cases R);simp only[cM]at Z;split at Z
 ·rename_i f' args ts hy;simp only[be,QJ]at Z;have:=py Z.1.1;subst this;have hv:=bM hO _ _ _ Z.1.2 hx;obtain⟨hf,I⟩:=hp f vs h v h' e;have hr:(execOp a.eval o).run P w=.ok (.enter f (List.toArray (args.toList.map a.eval))) w:=by
   exact yw
  refine⟨fun _ _=>trivial,?_⟩;show o.uponIn (FR ro) 0 P a K0 Q ((o.semAt ro a.eval).run P w);rw[J,hr];have U:CallsIn Fence.wide 0 P f (List.toArray (args.toList.map a.eval)) w (NY m h w v h'):=callsIn_wide.2 (I m w _ hv H hG);refine⟨fun q=>absurd q (by simp[Fence.wide]),CallsIn.mono (F:=FR ro) (n:=0) U ?_⟩;rintro en w' ⟨x,m',rfl,r,H',E'⟩;exact hQ x w' m' r H' E'
 ·cases Z
theorem Hw{m:M}{w:World}{σ:Sg}{loc:List V}{env:T V}{a:Act}{o:Oper}{x:Opd}{t:Nat}{v:V}
 (hO:uK C m σ loc env a) (Z:gA P C σ o (.pn x)=true) (hx:evO loc env x=some (.iface t v)) {K0:Act->World->Prop} {Q:Exit->Act->World->Prop}
 (I:∀y,VRel m (.iface t v) y->Q (.panic [xz y]) a w) {ro:Option Nat}:o.wpIn (FR ro) 0 P a w K0 Q:=by
 unfold gA at Z;simp only[be]at Z;obtain⟨U,Z⟩:=Z;have R:=Oper.semAt_eq ro a.eval o (fun c hcc=>by rw[hcc]at U;cases U);simp only[cM]at Z;split at Z
 ·rename_i y hy;have r:=hO _ _ _ Z hx;obtain⟨u,J,_⟩:=id r;refine⟨fun _ _=>trivial,?_⟩;show o.uponIn (FR ro) 0 P a K0 Q ((o.semAt ro a.eval).run P w);have D:(execOp a.eval o).run P w=.halt (.panic (a.eval y)) w:=by
   simp only[execOp,hy,J,Instr.panic];rfl
  rw[R,D];exact I _ r
 ·cases Z
def MX(pan:aD)(loc:List V)(env:T V)(h:Heap)(s:IStep):Option (V×Heap):=
 match s.gd,s.op with
 |none,.cf f xs=>(match eF loc env xs with
  |some vs=>pan f vs h
  |none=>none)
 |none,.pn x=>(match evO loc env x with
  |some (.iface t v)=>some (.iface t v,h)
  |_=>none)
 |_,_=>none
def OT:IOp->Bool
 |.df _ _=>true
 |_=>false
def Fg(call pan:aD):List IStep->List V->T V->Heap->Option (V×T V×Heap)
 |[],_,_,_=>none
 |s::l,loc,env,h=>bif OT s.op then none else
  match MX pan loc env h s with
  |some (v,h')=>some (v,env,h')
  |none=>match evG loc env s.gd with
   |some true=>(match aM call loc env h s.op with
    |some (v,h)=>Fg call pan l (iN loc v s.dst) (fO env v s.dst) h
    |none=>none)
   |some false=>Fg call pan l (iN loc (.tup []) s.dst) (fO env (.tup []) s.dst) h
   |none=>none
theorem Bb(hp:kG P K C.G pan){m:M}{h h':Heap}{w:World}{σ:Sg}{loc:List V}{env:T V}{a:Act}{o:Oper}{s:IStep}{v:V}{ops:Array Oper}
 (hG:Glob K C.G m) (D:uK C m σ loc env a) (H:HRel m h w) (Z:An C σ ops o.guard s.gd=true) (U:gA P C σ o s.op=true) (e:MX pan loc env h s=some (v,h')) {K0:Act->World->Prop} {Q:Exit->Act->World->Prop}
 (I:∀x w' m',VRel m' v x->HRel m' h' w'->Ext m h w m' h' w'->Q (.panic [xz x]) a w') {ro:Option Nat}:o.guard=none/\o.wpIn (FR ro) 0 P a w K0 Q:=by
 have gn:s.gd=none->o.guard=none:=by
  intro q;rw[q]at Z;unfold An at Z;split at Z
  ·assumption
  ·grind
  ·cases Z
 unfold MX at e;split at e
 ·rename_i f xs J R;rw[R]at U;split at e
  ·rename_i vs hx;exact⟨gn J,Hx hp hG D H U hx e I⟩
  ·cases e
 ·rename_i x J R;rw[R]at U;split at e
  ·rename_i t u hx;cases e;exact⟨gn J,Hw D U hx fun y r=>I y w m r H (Sa _ _ _)⟩
  ·cases e
 ·cases e
theorem Ei(ak:b9 P K C.G call)(hp:kG P K C.G pan){ops:Array Oper}{Q:Exit->Act->World->Prop}{ro:Option Nat}{B:Nat}:
 ∀(os:List Oper)(i:Nat)(U:List IStep)(σ:Sg)(loc:List V)(env:T V)(h:Heap)(m:M)(a:Act)(w:World)(v:V)(R:T V)(h':Heap),
  ops.toList.drop i=os->eQ P C ops os U σ=true->Glob K C.G m->Inv C.G m loc env a σ->ERel C m env a->HRel m h w->DsR C B m w env a.defers->
  Fg call pan U loc env h=some (v,R,h')->
  (∀x a' w' m',VRel m' v x->ERel C m' R a'->HRel m' h' w'->Ext m h w m' h' w'->DsR C B m' w' R a'.defers->Q (.panic [xz x]) a' w')->
  wpOpsIn (FR ro) 0 P ops Q (List.range' i os.length) a w:=by
 intro os;induction os with
 |nil=>
  intro i U σ loc env h m a w v R h' D Z hG hI hE H hD e hQ;cases U with
  |nil=>cases e
  |cons s l=>simp[eQ]at Z
 |cons o os ih=>
  intro i U σ loc env h m a w v R h' D Z hG hI hE H hD e hQ;have a2:ops[i]? =some o:=by
   have:(ops.toList.drop i)[0]? =some o:=by rw[D];rfl
   rw[Rl]at this;simpa using this
  have J:ops.toList.drop (i+1)=os:=by
   rw[<-RC,D];rfl
  simp only[QB,List.range'_succ];rw[wpOpsIn_cons];unfold wpOpIn;rw[a2];simp only[];unfold eQ at Z;split at Z
  ·rename_i p aR;obtain⟨x,hop,a4,a5,ad,ab⟩:=qC hG hI hE aR;have hw:Region.wanted o (yielded ops a.tmps)=true:=by unfold Region.wanted;rw[a4]
   rw[if_pos hw];refine⟨fun _ _=>trivial,?_⟩;show o.uponIn (FR ro) 0 P a _ Q ((o.semAt ro a.eval).run P w);have hr:(o.semAt ro a.eval).run P w=.ok (.value (a.eval x)) w:=by
    exact yaQ
   rw[hr];exact ih (i+1) U (p::σ) loc env h m _ w v R h' J Z hG ad ab H (by rw[dS];exact hD) e hQ
  ·split at Z
   ·cases Z
   ·rename_i s aj;simp only[RO,be]at Z;unfold Fg at e;rcases Z with⟨⟨⟨aF,aE⟩,ah⟩,I⟩|⟨ao,I⟩
    ·cases ax:OT s.op;case true=>rw[ax]at e;cases e
     rw[ax]at e;simp only[cond_false]at e;split at e
     ·rename_i u h2 a3;cases e;obtain⟨q1,q2⟩:=Bb (K0:=wpOpsIn (FR ro) 0 P ops Q (List.range' (i+1) os.length)) (ro:=ro) hp hG (fun o y v h1 h2=>eW hG hI hE h1 h2) H aF aE a3 (fun x w' m' r H' E'=>hQ x a w' m' r (hE.mono E'.le) H' E' (hD.ext E'));have hw:Region.wanted o (yielded ops a.tmps)=true:=by unfold Region.wanted;rw[q1]
      rw[if_pos hw];exact q2
     ·cases hg:evG loc env s.gd with
      |none=>rw[hg]at e;cases e
      |some b=>
       rw[hg]at e;have hw:=qh hG hI hE aF hg;cases b
       ·simp only[]at e;rw[if_neg (by rw[hw];simp)];refine⟨fun _ _=>trivial,?_⟩;obtain⟨ad,ab⟩:=fS (fun _ _ x=>x) hI hE ah (v:=.tup []) (x:=undef) ⟨[],rfl,rfl⟩;exact ih (i+1) aj _ _ _ h m _ w v R h' J I hG ad ab H (by rw[dS];exact hD.congr (mW hE ah _)) e hQ
       ·simp only[]at e;rw[if_pos hw];cases hop:aM call loc env h s.op with
        |none=>rw[hop]at e;cases e
        |some p=>
         obtain⟨u,h1⟩:=p;rw[hop]at e;simp only[]at e;refine mL ak hG (fun o y v h1 h2=>eW hG hI hE h1 h2) H aE hop (fun x w' m' r H' E'=>?_);obtain⟨ad,ab⟩:=fS E'.le hI hE ah r;exact ih (i+1) aj _ _ _ h1 m' _ w' v R h' J I (hG.ext E') ad ab H' (by rw[dS];exact(hD.ext E').congr (mW hE ah _)) e
          (fun x a' a1 a0 h1 h2 h3 h4 h5=>hQ x a' a1 a0 h1 h2 h3 (E'.trans h4) h5)
    ·
     unfold IQ at ao;simp only[be]at ao;obtain⟨_,hop⟩:=ao;split at hop
     ·rename_i x xs aA;rw[aA]at e;cases e
     ·cases hop
end
variable {K : LG -> Prop}
section
variable {P : Program} {C : Cx} {call pan : aD}
def Au(call pan:aD)(fp:Nat):aD:=fun f vs h=>bif Nat.beq f fp then pan f vs h else call f vs h
def mh(fp:Nat):IOp->Bool
 |.cf g _=> !(Nat.beq g fp)
 |.cv _ _=>false
 |_=>true
theorem I2{U:Nat}{o:IOp}(Z:mh U o=true)(loc:List V)(env:T V)(h:Heap):aM (Au call pan U) loc env h o=aM call loc env h o:=by
 cases o<;>first|rfl|cases Z|skip
 rename_i g R;simp only[mh,RA]at Z;simp only[aM,Au,Z,cond_false]
def OU(fp:Nat):IOp->Bool
 |.cf f _=>Nat.beq f fp
 |_=>false
def KV(call pan:aD)(l:List IStep)(late:List Nat)(reads:List (Nat×Nat×Nat))(sets:List (Nat×Nat))(fp i:Nat)(env:T V)(h0:Heap):Option (V×Heap):=
 match l[i]? with
 |some ⟨none,.cf f _,_⟩=>bif Nat.beq f fp&&qQ l i&& !late.contains i&&(l.take i).all (fun s=>mh fp s.op)&&(l.drop (i+1)).all (fun s=>mh fp s.op)then
  (match evD (Au call pan fp) l late reads sets env h0 with
   |.ok .norm _ _=>KU (Au call pan fp) l late reads env h0 i
   |_=>none)else none
 |_=>none
theorem IG(D:b9 P K C.G call)(hp:kG P K C.G pan){ops:Array Oper}{l:List IStep}{U B R:List Nat}{J:List (Nat×Nat×Nat)}{I:List (Nat×Nat)}(hc:FJ P C ops l U B R J I=true)
 {Q:Exit->Act->World->Prop} {env:T V} {h0:Heap} {m0:M} {a0:Act} {w0:World} {v:V} {h':Heap} {id fp i:Nat}
 (hG:Glob K C.G m0) (hE:ERel C m0 env a0) (H0:HRel m0 h0 w0) (e:KV call pan l U J I fp i env h0=some (v,h'))
 (hQ:∀x a' w' m',VRel m' v x->HRel m' h' w'->Ext m0 h0 w0 m' h' w'->a'.defers=a0.defers->Q (.panic [xz x]) a' w') {ro:Option Nat}:(Code.region id ops true).wpIn (FR ro) 0 P Q a0 w0:=by
 unfold KV at e;split at e
 ·rename_i f xs d hs;cases hb:(Nat.beq f fp&&qQ l i&& !U.contains i&&(l.take i).all (fun s=>mh fp s.op)&&(l.drop (i+1)).all (fun s=>mh fp s.op))
  ·rw[hb]at e;cases e
  rw[hb]at e;simp only[cond_true]at e;simp only[be,RA]at hb;obtain⟨⟨⟨⟨b1,b2⟩,b3⟩,b4⟩,b5⟩:=hb;have:=py b1;subst this;split at e
  ·rename_i aA h1 ax;have ad:i<ops.size:=by
    have ab:=hc;unfold FJ at ab;simp only[be]at ab;have:=py ab.1.1.1.1.1;have:=(QD.1 hs).1;omega
   refine qn (ip:=some i) ?_ ?_ hc hG hE H0 ax (fun q=>by cases q)
   ·intro m h h2 w σ loc a o j s u hG hO H E hd hj aj Z ah K0 hK;by_cases c:j=i
    ·subst c;rw[hs]at hj;cases hj;have hl:=ah rfl b2;rw[e]at hl;cases hl;simp only[aM]at Z;split at Z
     ·rename_i vs ak;have ao:pan f vs h=some (v,h'):=by simpa[Au]using Z
      exact Hx hp hG hO H aj ak ao (fun x w' m' r H' E'=>hQ x a w' m' r H' (E.trans E') hd)
     ·cases Z
    ·have hn:mh f s.op=true:=by
      rcases Nat.lt_or_gt_of_ne c with q|q
      ·exact QM.1 b4 s (Of (i:=j) (by rw[Sc,if_pos q];exact hj))
      ·exact QM.1 b5 s (Of (i:=j-(i+1)) (by rw[Rl,(oM:i+1+(j-(i+1))=j)];exact hj))
     rw[I2 hn]at Z;exact mL D hG hO H aj Z (hK.resolve_left (fun q=>c (Sd q).symm))
   ·intro p hp;cases hp;exact⟨ad,b3,_,hs,rfl⟩
  ·cases e
 ·cases e
def evP(call pan:aD)(fp:Nat)(df:Bool):IC->T V->Heap->Option (V×T V×Heap)
 |.ops l,env,h=>Fg call pan l [] env h
 |.seq a b,env,h=>(match evC call a env h with
  |.ok .norm env1 h1=>evP call pan fp df b env1 h1
  |.fail=>evP call pan fp df a env h
  |_=>none)
 |.cond x a b,env,h=>(match evO [] env x with
  |some (.bool t)=>bif t then evP call pan fp df a env h else evP call pan fp df b env h
  |_=>none)
 |.dops l late _ reads sets,env,h=>bif df then none else(match KV call pan l late reads sets fp (l.findIdx fun s=>OU fp s.op) env h with
  |some (v,h')=>some (v,env,h')
  |none=>none)
 |_,_,_=>none
theorem wi(I:b9 P K C.G call)(hp:kG P K C.G pan)(hK:∀g,LOK P C.G g->K g){fp:Nat}{ro:Option Nat}{B:Nat}(a0:C.df=true->ro=none):∀(ic:IC)(c:Code),dH P C ic c=true->
 ∀(Q:Exit->Act->World->Prop) env h m a w v env' h',Cir K C ro B m h w env a->evP call pan fp C.df ic env h=some (v,env',h')->
 (∀x a' w' m',VRel m' v x->HRel m' h' w'->Ext m h w m' h' w'->DsR C B m' w' env' a'.defers->(C.df=true->ERel C m' env' a')->Q (.panic [xz x]) a' w')->c.wpIn (FR ro) 0 P Q a w:=by
 intro ic;induction ic with
 |ops l=>
  intro c J Q env h m a w v env' h' U e hQ;have Z:Fg call pan l [] env h=some (v,env',h'):=e;cases c with
  |region id ops dr=>
   cases dr with
   |true=>simp[dH]at J
   |false=>
    refine wpIn_region ?_;have hs:=Ei I hp (Q:=Q) (ro:=ro) ops.toList 0 l [] [] env h m a w v env' h' iS J U.g (fun t s hs=>by simp[eM]at hs) U.e U.h U.d Z
     (fun x a' w' m' r ao H' E' hd=>hQ x a' w' m' r H' E' hd (fun _=>ao))
    simpa[List.range_eq_range']using hs
  |_=>simp[dH]at J
 |seq x y ihx ihy=>
  intro c J Q env h m a w v env' h' U e hQ;cases c<;>simp[dH]at J;rename_i c1 c2;have Z:(match evC call x env h with
   |.ok .norm D h1=>evP call pan fp C.df y D h1
   |.fail=>evP call pan fp C.df x env h
   |_=>none)=some (v,env',h'):=e
  refine wpIn_seq ?_;split at Z
  ·rename_i D h1 hx;refine jD I hK a0 x c1 J.1 _ env h m a w .norm D h1 U hx (fun a' w' m' aE E'=>?_);exact ihy c2 J.2 Q D h1 m' a' w' v env' h' aE Z (fun z aR aF ak r aA ax=>hQ z aR aF ak r aA (E'.trans ax))
  ·exact ihx c1 J.1 _ env h m a w v env' h' U Z hQ
  ·cases Z
 |cond x y z ihy ihz=>
  intro c J Q env h m a w v env' h' U e hQ;cases c<;>simp[dH]at J;rename_i co c1 c2;have Z:(match evO [] env x with
   |some (.bool t)=>bif t then evP call pan fp C.df y env h else evP call pan fp C.df z env h
   |_=>none)=some (v,env',h'):=e
  split at Z
  ·rename_i t ht;have hr:=eW U.g (σ:=[]) (fun t s hs=>by simp[eM]at hs) U.e J.1.1 ht;simp only[VRel]at hr;refine wpIn_cond (t:=t) hr ?_;cases t
   ·grind
   ·grind
  ·cases Z
 |dops l ah R ad aj=>
  intro c J Q env h m a w v env' h' U e hQ;have Z:(bif C.df then none else(match KV call pan l ah ad aj fp (l.findIdx fun s=>OU fp s.op) env h with
   |some (v,h')=>some (v,env,h')
   |none=>none))=some (v,env',h'):=e
  cases ab:C.df;case true=>rw[ab]at Z;cases Z
  rw[ab]at Z;simp only[cond_false]at Z;cases c with
  |region id ops dr=>
   cases dr with
   |false=>simp[dH]at J
   |true=>
    split at Z
    ·rename_i u h2 hd;cases Z;exact IG I hp J U.g U.e U.h hd (fun x a' w' m' r H' E' a1=>hQ x a' w' m' r H' E' (by rw[a1];exact U.d.ext E') (fun q=>by rw[ab]at q;cases q))
    ·cases Z
  |_=>simp[dH]at J
 |_=>intro c J Q env h m a w v env' h' U e;cases e
end
def Hu(call pan:aD)(f fp:Nat)(fn:IFn):aD:=fun f' vs h=>bif Nat.beq f' f&&Nat.beq vs.length fn.nargs then
 (match evP call pan fp false fn.body (fA vs 0 .e) h with
  |some (v,_,h')=>some (v,h')
  |none=>none)
 else none
theorem xC{call ah:aD}(U:b9 P (LOK P G) G call)(hp:kG P (LOK P G) G ah){f fp:Nat}{fn:IFn}(R:nw P G f fn=true):kG P (LOK P G) G (Hu call ah f fp fn):=by
 intro f' vs h v h' e;unfold Hu at e;cases hb:(Nat.beq f' f&&Nat.beq vs.length fn.nargs)
 ·grind
 rw[hb]at e;simp only[cond_true]at e;simp only[be]at hb;have:=py hb.1;subst this;have aj:=py hb.2;split at e
 ·rename_i v1 ao h1 ad;cases e;unfold nw at R;split at R
  ·rename_i fd ak;split at R
   ·rename_i c Z;simp only[be,RA,QJ]at R;obtain⟨⟨⟨⟨⟨⟨ab,ax⟩,aF⟩,D⟩,J⟩,aR⟩,I⟩:=R;have J:=Qt J;refine⟨⟨fd,ak,by rw[Z];rfl,I⟩,fun m w args hv H hG=>?_⟩;have hC:=kR (P:=P) (G:=G) (fd:=fd) hv H hG ax D J aj false;unfold Dn at ab;split at ab
    ·rename_i b aA;rw[aA]at ad;cases ad
    ·refine callsIn_wide.1 (callsIn_of_wp_marks (n:=0) ak Z trivial ?_);refine wi (C:=⟨G,fn.vars,fd.ntmps,false⟩) U hp (fun _ x=>x) (ro:=none) (B:=w.heap.size) (fun _=>rfl) fn.body c ab _ _ h m _ w v ao h' hC ad (fun x a' w' m' r H' E' hd _=>?_);show LeavesInM Fence.wide 0 P fd a'.tmps (NY m h w v h') a'.defers (.panicking [xz x]) w';refine gJ iS (pi _) a'.defers [] m' h' w' (hd.2 rfl) H' E' (fun aE w2 q H2 E2=>?_);rcases q with⟨rfl,_⟩|⟨_,_,_,_,_,q,_⟩
     ·exact⟨x,m',rfl,r,H2,E2⟩
     ·cases q
   ·cases R
  ·cases R
 ·cases e
section
variable {P : Program} {F : Fence} {n : Nat}
def ue(F:Fence)(n:Nat)(P:Program)(fn:Func)(c₀:Frame)(cs:List Frame)(R:Ending->FrameMode->World->Prop):Exit->Act->List Frame->World->Prop
 |.normal,a,cs',w|.ret,a,cs',w=>∃u',cs'={c₀ with mode:=u'}::cs/\LeavesInM F n P fn a.tmps (fun e w=>R e u' w) a.defers .returning w
 |_,_,_,_=>False
theorem i7{f:FuncId}{fn:Func}{c:Code}{args:Array Value}{u:FrameMode}{w:World}{R:Ending->FrameMode->World->Prop}
 (hf:P.funcs[f]? =some fn) (hb:fn.body=some c) (hF:F.fn f)
 (h:∀(Z:Frame)(cs:List Frame),Z.mode=u->
  c.wpSIn F n P (ue F n P fn Z cs R) {tmps:=args++Array.replicate (fn.ntmps-args.size) undef,defers:=[]} (Z::cs) w):
 CallsDIn F n P f args u w R:=by
 refine⟨hF,fun Z cs hu U=>?_⟩;let b:Frame:={(default:Frame)with fn:=f,kind:=.deferred,roundOf:=none};have D:Frame.enter P f args .deferred=
  b.atR {tmps:=args++Array.replicate (fn.ntmps-args.size) undef,defers:=[]} [.code c]:=by
  simp[Frame.enter,Frame.atR,hf,hb,b]
 obtain⟨e,a',ao,w',hl,I,J⟩:=h Z cs hu b [] rfl rfl hF U;rw[<-D]at J;cases e with
 |normal=>
  obtain⟨u',rfl,I⟩:=I;obtain⟨e',ab,fr',hR,hs,ad,hk,ah⟩:=pY a'.defers .returning w' {b.atR a' []with mode:=.returning} ({Z with mode:=u'}::cs) rfl rfl rfl hf hF U I;exact⟨e',u',ab,fr',hR,ComesIn.of_steps (StepsIn.trans J (.one (fenced_calm (fr:=b.atR a' []) hF U rfl) (stepR_end rfl))) hs,hk,ad,ah⟩
 |ret=>
  obtain⟨u',rfl,I⟩:=I;obtain⟨ak,aj⟩:=J.1 rfl;obtain⟨e',ab,fr',hR,hs,ad,hk,ah⟩:=pY a'.defers .returning w' {b.atR a' ak with mode:=.returning} ({Z with mode:=u'}::cs) rfl rfl rfl hf hF U I;exact⟨e',u',ab,fr',hR,ComesIn.of_steps aj hs,hk,ad,ah⟩
 |panic chain=>exact I.elim
 |exit id=>exact I.elim
 |goto l=>exact I.elim
 |outgrown=>exact I.elim
end
def Mh(o:Oper)(t:Nat):Bool:=
 (match du o.op .recover with|some (args,_)=>Nat.beq args.size 0|none=>false)&&(match o.guard with|none=>true|some _=>false)&&(match o.dst with|some d=>Nat.beq d t|none=>false)
def tH(P:Program)(G:Nat)(f t:Nat)(fn:IFn):Bool:=
 match P.funcs[f]?,fn.body with
 |some fd,.seq _ b=>(match fd.body with
  |some (.seq (.region _ ops false) c)=>(match ops.toList with|[o]=>Mh o t|_=>false)&&dH P ⟨G,fn.vars,fd.ntmps,false⟩ b c&&fn.vars.contains t&&Nat.blt t fd.ntmps&& !fn.vars.contains DSL&&
   (List.range fn.nargs).all (fun i=>fn.vars.contains i)&&Nat.ble fn.nargs fd.ntmps&&iV P fn.vars fd.results.toList []&& !(fd.name== "runtime.NumGoroutine")
  |_=>false)
 |_,_=>false
def zK:Ex->Bool
 |.norm=>true
 |.ret=>true
 |_=>false
def Pz(u u':FrameMode)(x:Value)(pv:V):Prop:=(u=.returning/\u'=.returning/\x=.nilIface/\pv=.nili)\/(u=.panicking [xz x]/\u'=.panicking [{v:=x,recovered:=true}])
theorem Es{call:aD}(ab:b9 P (LOK P G) G call){f t:Nat}{fn:IFn}(hc:tH P G f t fn=true){b0 b:IC}(hb:fn.body=.seq b0 b){vs:List V}(aA:vs.length=fn.nargs){pv:V}{h h':Heap}{ex:Ex}{I:T V}(a0:zK ex=true)
 {m:M} {w:World} {args:List Value} (hv:VsRel m vs args) (H:HRel m h w) (hG:Glob (LOK P G) G m) (run:evC call b ((fA vs 0 .e).set t pv) h=.ok ex I h') {u u':FrameMode} {x:Value} (hx:VRel m pv x) (hu:Pz u u' x pv):
 (∃fn,P.funcs[f]? =some fn/\fn.body.isSome=true/\(fn.name== "runtime.NumGoroutine")=false)/\CallsDIn Fence.wide 0 P f (List.toArray args) u w (fun e u2 w'=>u2=u'/\mC m h w (.tup []) h' e w'):=by
 unfold tH at hc;split at hc
 ·rename_i fd bz b' aF aE;rw[hb]at aE;obtain⟨-,rfl⟩:=IC.seq.inj aE;split at hc
  ·rename_i id ops c R;simp only[be,RA,QJ]at hc;obtain⟨⟨⟨⟨⟨⟨⟨⟨D,bf⟩,a7⟩,bc⟩,a1⟩,ao⟩,ad⟩,a6⟩,aj⟩:=hc;have ad:=Qt ad;split at D
   ·rename_i o U;have U:=SY U;subst U;unfold Mh at D;simp only[be]at D;obtain⟨⟨D,h2⟩,h3⟩:=D;have hg:o.guard=none:=by grind
    have hd:o.dst=some t:=by
     split at h3
     ·rename_i d hd;rw[hd,py h3]
     ·cases h3
    have hC:=kR (P:=P) (G:=G) (fd:=fd) hv H hG a1 ao ad aA false;refine⟨⟨fd,aF,by rw[R];rfl,aj⟩,i7 aF R trivial (fun Z cs ak=>wpSIn_seq (wpSIn_region ?_))⟩;generalize{tmps:=List.toArray args++Array.replicate (fd.ntmps-(List.toArray args).size) undef,defers:=[]:Act}=a at hC|-;have aR:(execOp a.eval o).run P w=.ok .recover w:=by
     unfold du at D;split at D
     ·rename_i ar ts hq;split at hq
      ·rename_i b' bi bh hy;split at hq
       ·rename_i a9;subst a9;cases hq;have hz:ar= #[]:=by
         have:=py D;exact Array.eq_empty_of_size_eq_zero this
        subst hz;simp[execOp,hy,resolve,invoke,builtin]
       ·cases hq
      ·cases hq
     ·cases D
    obtain⟨_,a4⟩:=fS (C:=⟨G,fn.vars,fd.ntmps,false⟩) (d:=some t) (s:=some t) (σ:=[]) (loc:=[]) (fun _ _ y=>y) (fun t s hs=>by simp[eM]at hs) hC.e (by show(Nat.beq t t&&fn.vars.contains t&&Nat.blt t fd.ntmps)=true;rw[a7,Rk];simpa using bc) hx;have a5:Cir (LOK P G) ⟨G,fn.vars,fd.ntmps,false⟩ none w.heap.size m h w ((fA vs 0 .e).set t pv) (a.put (some t) x):=
     ⟨hG,a4,H,⟨fun q=>(by cases q),fun _=>by rw[dS];exact hC.d.2 rfl⟩,pi _,fun l hl=>by cases hl⟩
    have J:c.wpSIn Fence.wide 0 P (ue Fence.wide 0 P fd Z cs (fun e u2 w'=>u2=u'/\mC m h w (.tup []) h' e w')) (a.put (some t) x) ({Z with mode:=u'}::cs) w:=by
     refine wpSIn_of_wpIn (F:=Fence.wide) rfl ?_;refine jD (C:=⟨G,fn.vars,fd.ntmps,false⟩) (ro:=none) (B:=w.heap.size) ab (fun _ y=>y) (fun _=>rfl) b c bf _ _ h m _ w ex I h' a5 run (fun a' w' m' hC' E'=>?_);have fin:LeavesInM Fence.wide 0 P fd a'.tmps (fun e w2=>u'=u'/\mC m h w (.tup []) h' e w2) a'.defers .returning w':=by
      refine gJ iS (pi _) a'.defers [] m' h' w' (hC'.d.2 rfl) hC'.h E' (fun bg w2 q H2 E2=>?_);rcases q with⟨rfl,_⟩|⟨_,_,_,_,_,q,_⟩
      ·obtain⟨v,hr,hp⟩:=yg (P:=P) (C:=⟨G,fn.vars,fd.ntmps,false⟩) a6 (env:=I) (v:=.tup []) (h':=h') rfl H2 E2 hC'.e;exact⟨v,hr,rfl,hp⟩
      ·cases q
     cases ex with
     |norm=>exact⟨u',rfl,fin⟩
     |ret=>exact⟨u',rfl,fin⟩
     |exit id=>cases a0
     |goto l=>cases a0
    have hw:Region.wanted o (yielded #[o] a.tmps)=true:=by unfold Region.wanted;rw[hg]
    show(∀f,o.about P w a.eval=some f->Fence.wide.fn f)/\_;refine⟨fun _ _=>trivial,?_⟩;have a3:Region.wanted #[o][0] (yielded #[o] a.tmps)=true:=hw;have ax:(execOp a.eval #[o][0]).run P w=.ok .recover w:=aR;have a8:(#[o][0]).dst=some t:=hd;rw[if_pos a3,ax];simp only[];rw[a8];rcases hu with⟨rfl,rfl,rfl,rfl⟩|⟨rfl,rfl⟩
    ·have ah:recoverD (Z::cs)=none:=by simp[recoverD,ak]
     rw[ah];have a2:({Z with mode:=.returning}:Frame)=Z:=by rw[<-ak]
     rw[a2]at J;exact J
    ·have ah:recoverD (Z::cs)=some (x,{Z with mode:=.panicking [{v:=x,recovered:=true}]}::cs):=by simp[recoverD,ak]
     rw[ah];exact J
   ·cases D
  ·cases hc
 ·cases hc
def Qb(h:Heap)(o:Option (List V)):Option (V×Heap):=
 match o with
 |some [v]=>fV v fun v=>some (v,h)
 |some vs=>some (.tup vs,h)
 |none=>none
def Cy(call:aD)(fr t:Nat)(fnr:IFn)(br:IC)(rs:List RV)(pv:V)(env:T V)(h1:Heap):Option (V×Heap):=
 match dsL (env.get DSL)with
 |some [.tup (.func (.func g) first caps::args)]=>bif Nat.beq g fr&&Nat.beq (first++args++caps).length fnr.nargs then
  (match evC call br ((fA (first++args++caps) 0 .e).set t pv) h1 with
   |.ok ex _ h2=>bif zK ex then Qb h2 (fg env h2 rs)else none
   |.fail=>none)
  else none
 |_=>none
def Ba(call pan:aD)(f fp fr t:Nat)(fn fnr:IFn):aD:=fun f' vs h=>bif Nat.beq f' f&&Nat.beq vs.length fn.nargs then
 (match fn.body,fnr.body with
  |.wd b,.seq _ br=>(match evC call b (fA vs 0 .e) h with
   |.ok ex env h1=>bif zK ex then Cy call fr t fnr br fn.results .nili env h1 else none
   |.fail=>(match evP call pan fp true b (fA vs 0 .e) h with
    |some (pv,env,h1)=>Cy call fr t fnr br fn.results pv env h1
    |none=>none))
  |_,_=>none)
 else none
theorem rF{call:aD}(J:b9 P (LOK P G) G call){fr t:Nat}{Z:IFn}(hc:tH P G fr t Z=true){b0 br:IC}(hb:Z.body=.seq b0 br){C:Cx}(a7:C.G=G)(aA:C.df=true){fd:Func}{I:List RV}(aF:iV P C.vars fd.results.toList I=true)
 {m m1:M} {h h1 h':Heap} {w w1:World} {env:T V} {a:Act} {pv v:V} {B:Nat} (hB:w.heap.size<=B) (e:Cy call fr t Z br I pv env h1=some (v,h')) (hG:Glob (LOK P G) G m1) (hE:ERel C m1 env a) (H:HRel m1 h1 w1) (E:Ext m h w m1 h1 w1) (hd:DsR C B m1 w1 env a.defers)
 {x:Value} (hx:VRel m1 pv x) {u u':FrameMode} (hu:Pz u u' x pv):LeavesInM Fence.wide 0 P fd a.tmps (mC m h w v h') a.defers u w1:=by
 have ah:u≠.run:=by rcases hu with⟨rfl,_⟩|⟨rfl,_⟩<;>simp
 have hset:settle u'=.returning:=by rcases hu with⟨_,rfl,_⟩|⟨_,rfl⟩<;>simp[settle]
 obtain⟨l,hl,D⟩:=hd.1 aA;unfold Cy at e;rw[hl]at e;split at e
 ·rename_i g first ad args hq
  have hq:=Sd hq;subst hq;cases U:(Nat.beq g fr&&Nat.beq (first++args++ad).length Z.nargs)
  ·grind
  rw[U]at e;simp only[cond_true]at e;simp only[be]at U;have:=py U.1;subst this;have ab:=py U.2;split at e
  ·rename_i ex a2 h2 ak;cases ao:zK ex
   ·grind
   rw[ao]at e;simp only[cond_true]at e;refine gJ ah hB a.defers _ m1 h1 w1 D H E (fun a3 w2 q H2 E2=>?_);rcases q with⟨_,q⟩|⟨d,R,v1,a4,rfl,q,⟨f,ax,a1,a0,A,C',aR,a5,aj,ra,rc⟩,D2⟩
   ·cases q
   ·obtain⟨rfl,rfl⟩:=List.cons.inj q;obtain⟨q1,rfl⟩:=List.cons.inj (V.tup.inj aR);injection q1 with q1 q2 q3;injection q1 with q1;subst q1;subst q2;subst q3;obtain⟨hf,aE⟩:=Es J hc hb ab ao (Tg ra rc) H2 hG ak hx hu;refine⟨ah,.inr ⟨fun q=>absurd q (by simp[Fence.wide]),.func g,List.toArray C',g,List.toArray (A++C'),by rw[aj],?_,fun _ _=>trivial,?_⟩⟩
    ·rw[aj];simp only[invoke];rw[(iS:(List.toArray A++List.toArray C')=List.toArray (A++C'))];exact gF hf
    ·refine CallsDIn.mono aE ?_;rintro en u2 w3 ⟨rfl,x3,m3,rfl,rx,H3,E3⟩;show LeavesInM Fence.wide 0 P fd a.tmps (mC m h w v h') R (settle u2) w3;rw[hset];refine gJ iS hB R [] m3 h2 w3 (D2.ext E3) H3 (E2.trans E3) (fun a6 w4 q H4 E4=>?_);rcases q with⟨rfl,_⟩|⟨_,_,_,_,_,q,_⟩
     ·exact yg aF e H4 E4 (hE.mono E3.le)
     ·cases q
  ·cases e
 ·cases e
theorem Eu{call aj:aD}(Z:b9 P (LOK P G) G call)(hp:kG P (LOK P G) G aj){f fp fr t:Nat}{fn ak:IFn}(J:nw P G f fn=true)(hr:tH P G fr t ak=true):b9 P (LOK P G) G (Ba call aj f fp fr t fn ak):=by
 intro f' vs h v h' e;unfold Ba at e;cases hb:(Nat.beq f' f&&Nat.beq vs.length fn.nargs)
 ·grind
 rw[hb]at e;simp only[cond_true]at e;simp only[be]at hb;have:=py hb.1;subst this;have ao:=py hb.2;split at e
 ·rename_i b b0 br aF ax;unfold nw at J;split at J
  ·rename_i fd hfd;split at J
   ·rename_i c hbody;simp only[be,RA,QJ]at J;obtain⟨⟨⟨⟨⟨⟨R,aE⟩,aR⟩,ab⟩,I⟩,aA⟩,D⟩:=J;have I:=Qt I;unfold Dn at R;rw[aF]at R;simp only[]at R;refine fun _=>⟨⟨fd,hfd,by rw[hbody];rfl,D⟩,fun m w args hv H hG=>?_⟩;have hC:=kR (P:=P) (G:=G) (fd:=fd) hv H hG aE ab I ao true;have hwp:c.wpIn Fence.wide 0 P (bodyPostM Fence.wide 0 P fd (mC m h w v h')) {tmps:=List.toArray args++Array.replicate (fd.ntmps-(List.toArray args).size) undef,defers:=[]} w:=by
     split at e
     ·rename_i ex U h1 ad;cases ah:zK ex
      ·grind
      rw[ah]at e;simp only[cond_true]at e;refine jD (C:=⟨G,fn.vars,fd.ntmps,true⟩) (ro:=none) (B:=w.heap.size) Z (fun _ y=>y) (fun _=>rfl) b c R _ _ h m _ w ex U h1 hC ad (fun a' w' m' hC' E'=>?_);have fin:=rF Z hr ax (C:=⟨G,fn.vars,fd.ntmps,true⟩) rfl rfl aA (pi _) e hC'.g hC'.e hC'.h E' hC'.d (x:=.nilIface) rfl (u:=.returning) (u':=.returning) (.inl ⟨rfl,rfl,rfl,rfl⟩);cases ex with
      |norm=>exact fin
      |ret=>exact fin
      |exit id=>cases ah
      |goto l=>cases ah
     ·split at e
      ·rename_i pv U h1 ad;refine wi (C:=⟨G,fn.vars,fd.ntmps,true⟩) Z hp (fun _ y=>y) (ro:=none) (B:=w.heap.size) (fun _=>rfl) b c R _ _ h m _ w pv U h1 hC ad (fun x a' w' m' r H' E' hd hE'=>?_);exact rF Z hr ax (C:=⟨G,fn.vars,fd.ntmps,true⟩) rfl rfl aA (pi _) e (hG.ext E') (hE' rfl) H' E' hd r (.inr ⟨rfl,rfl⟩)
      ·cases e
    exact ybo
   ·cases J
  ·cases J
 ·cases e
end Go.Ev
