/- An evaluator of the program, and contracts over it: StaG to StaM. -/
import Derived.Test.YtdbfhmneijcjbaaGreatP04
import Derived.Test.YtdbfhmneijcjbaaGreatP07
import Derived.Test.YtdbfhmneijcjbaaGreatP08
set_option linter.unusedSimpArgs false
set_option linter.unusedVariables false
set_option linter.constructorNameAsVariable false
set_option linter.unnecessarySimpa false
set_option maxRecDepth 4000
namespace Go.Ev.Lay
variable{tg ky tx:i_}{sub:PT}{cs xs loc:List V}{h' h1 h2:b_}{X:List Nat}{bs ks:List Bool}{α:Type}{pm:Option Nat}{env:T V}
theorem yi:∀(p:Option i_)(l:List Q5),fx p l=true→∀s∈l,s.2.1≤3
 |_,[],_,s,m=>by simp at m
 |p,a::l,e,s,m=>by rw[kO,Bool.and_eq_true]at e;obtain rfl|m:=List.mem_cons.1 m;have:=e.1;simp only[iY,Bool.and_eq_true,decide_eq_true_eq]at this;exact this.2.1;exact yi _ l e.2 s m
theorem uh{k:Nat}{sl:List Q5}{n:Nat}(h:eF k tg ky sl tx n=true):(∀s∈sl,s.2.1<=3)/\n<=16:=by unfold eF at h;by_cases K:k=1;rw[if_pos K]at h;simp only[Vd,decide_eq_true_eq,cP]at h;exact⟨yi _ _ h.2.2.2.1.2,h.2.1⟩;rw[if_neg K]at h;by_cases Z:k=5;rw[if_pos Z]at h;simp only[Vd,decide_eq_true_eq,cP]at h;exact⟨yi _ _ h.2.1.2,oM⟩;rw[if_neg Z]at h;by_cases k2:k=2;grind;rw[if_neg k2]at h;by_cases ab:k=3\/k=4;grind;grind
theorem ya:∀(t:PT)(l c:Nat),(t.P7 l c).2=true→TG t
 |.z_,_,_,_=>trivial
 |.p_ k tg ky sl tx _ _ sub nx,l,c,h=>by
  simp only[PT.P7]at h;by_cases q:(PT.R2 k tg ky sl tx sub sub.P7 l c).2=true;rw[if_pos q]at h;have g:=ya nx _ _ h;unfold PT.R2 at q;by_cases x:6<l∨64<c+1∨eF k tg ky sl tx sub.v_=false;grind;rw[if_neg x]at q;have pb:eF k tg ky sl tx sub.v_=true:=by grind
  exact⟨(uh pb).1,(uh pb).2,ya sub _ _ q,g⟩;grind
theorem Ii{k:Nat}{sl:List Q5}(va vc:V)(h:PT.S4 k tg ky sl tx sub≠0):k=1/\TG (.p_ k tg ky sl tx va vc sub .z_):=by unfold PT.S4 at h;split at h;rename_i q;refine⟨q.1,ya (.p_ k tg ky sl tx va vc sub .z_) 1 0 ?_⟩;simp[PT.P7];rw[if_pos q.2];exact absurd rfl h
theorem NT.bE{s:NT}{k:Nat}{a:List (i_×i_)}{sub:ST}(e:s.sh=.V4 k tg ky a tx sub .W8):∃va vc s',s=.y_ k tg ky a tx va vc s' .D_/\s'.sh=sub:=by
 cases s with
 |D_=>cases e
 |y_ k' tg' ky' a' tx' va vc s' Z=>
  simp only[NT.sh]at e;cases Z with
  |D_=>cases e;exact⟨va,vc,s',rfl,rfl⟩
  |y_ _ _ _ _ _ _ _ _ _=>cases e
def fL(k:Nat)(tg ky:i_)(sl:List Q5)(tx:i_)(sub:PT)(x:e_)(most:Int):Int:=
 if most<1\/64<most then 1
 else if PT.S4 k tg ky sl tx sub=0 then 14
 else if iA x=false then 6
 else if ST.U_ 1 tg ky (sl.map (P1 x)) [] (cH x sub)=0\/most<(ST.U_ 1 tg ky (sl.map (P1 x)) [] (cH x sub):Nat)then 14
 else 0
abbrev Z6:List V:=[ZY 0,.f [],.f [],.j,.f [],.j]
theorem wA{h:b_}{k:Nat}{sl:List Q5}{vs vp:V}{x:e_}{Z:Int}(w:WF h)(n:PH h (.p_ k tg ky sl tx vs vp sub .z_))(a:q_ h x):
 av go 141 [.B [ZY (k:Int),.f tg,.f ky,vs,.f tx,vp],.B x.s,ZZ Z] h fun u h'=>∃cs,u=.G [.B cs,ZZ (fL k tg ky sl tx sub x Z)]/\Fr [] h h'/\
  (fL k tg ky sl tx sub x Z≠0->cs=Z6)/\(fL k tg ky sl tx sub x Z=0->∃(s:NT)(va vc:V),cs=[ZY 1,.f tg,.f ky,va,.f [],vc]/\(∀(X:List Nat)(h2:b_),(∀y∈X,y<h.i)->Fr X h' h2->NH h2 (.y_ 1 tg ky (sl.map (P1 x)) [] va vc s .D_))/\s.sh=cH x sub):=by
 let⟨h1,bj,bp,bz⟩:=au w [ZY (k:Int),.f tg,.f ky,vs,.f tx,vp];let⟨h2,bi,bm,bw⟩:=au bp.r x.s;let⟨h3,bk,bg,bh⟩:=au bm.r [ZY 0,.f [],.f [],.j,.f [],.j];have n1:=s_ bj;have n2:=s_ bi;have ak:=(bp.c bm).c bg;have op:=bg.c_ (bm.c_ bz);have ox:=bg.c_ bw;have p6:=op.ac.2.2.2.2.2.2;have x4:aq h3 h1.i 0 4=some x.s:=by rw[ox.J];rfl
 have bad:∀{h4 h5:b_}{e:Int}{c0:List V},fL k tg ky sl tx sub x Z=e->e≠0->Fr [] h h4->f_ h4 h2.i c0->Fr [h2.i] h4 h5->∃cs,V.G [.B Z6,ZZ e]=.G [.B cs,ZZ (fL k tg ky sl tx sub x Z)]/\Fr [] h h5/\
  (fL k tg ky sl tx sub x Z≠0->cs=Z6)/\(fL k tg ky sl tx sub x Z=0->∃(s:NT)(va vc:V),cs=[ZY 1,.f tg,.f ky,va,.f [],vc]/\(∀(X:List Nat)(h2:b_),(∀y∈X,y<h.i)->Fr X h5 h2->NH h2 (.y_ 1 tg ky (sl.map (P1 x)) [] va vc s .D_))/\s.sh=cH x sub):=by
  intro h4 h5 e c0 q ne f _ f2;subst q;exact⟨Z6,rfl,f.y f2 w oM,fun _=>rfl,fun q=>absurd q ne⟩
 by_cases m1:Z<1;refine ai ?_;simp only[a_,seval,<-bj,<-bi,<-bk,m1];refine u_ bg.r bh ?_;rintro h4 o4 F4 n4;simp only[a_,seval,o4.ac.2.2.2.2.2.2];exact bad (if_pos (.inl m1)) oM ak bh F4;by_cases m2:(64:Int)<Z;refine ai ?_;simp only[a_,seval,<-bj,<-bi,<-bk,m1,m2];refine u_ bg.r bh ?_;rintro h4 o4 F4 n4;simp only[a_,seval,o4.ac.2.2.2.2.2.2];exact bad (if_pos (.inr m2)) oM ak bh F4;have r1:fL k tg ky sl tx sub x Z=if PT.S4 k tg ky sl tx sub=0 then 14 else if iA x=false then 6 else if ST.U_ 1 tg ky (sl.map (P1 x)) [] (cH x sub)=0\/Z<(ST.U_ 1 tg ky (sl.map (P1 x)) [] (cH x sub):Nat)then 14 else 0:=if_neg oM;refine ai ?_;simp only[a_,seval,<-bj,<-bi,<-bk,m1,m2,p6];refine aa (wk bg.r (n.fr ak)) ?_;rintro _ h4 ⟨rfl,F4⟩;have ax:=ak.c F4;have ar:=F4.c_ bh;have a8:aq h4 h1.i 0 4=some x.s:=by rw[(F4.c_ ox).J];rfl
 have bc:=(F4.c_ op).ac.2.2.2.2.2.2;by_cases c0:PT.S4 k tg ky sl tx sub=0;rw[if_pos c0];simp only[a_,seval];apply u_ F4.r ar;rintro h5 o5 F5 n5;simp only[a_,seval,o5.ac.2.2.2.2.2.2];exact bad (r1.trans (if_pos c0)) oM ax ar F5;rw[if_neg c0];rw[if_neg c0]at r1;simp only[a_,seval,a8];apply aa (zo F4.r (a.fr ax));rintro _ h5 ⟨rfl,F5⟩;have aH:=ax.c F5;have ay:=F5.c_ ar;have x5:aq h5 h1.i 0 4=some x.s:=by rw[(F5.c_ (F4.c_ ox)).J];rfl
 have p5:=(F5.c_ (F4.c_ op)).ac.2.2.2.2.2.2;cases c1:iA x;rw[c1]at r1;simp only[a_,seval];apply u_ F5.r ay;rintro h6 o6 F6 n6;simp only[a_,seval,o6.ac.2.2.2.2.2.2];exact bad r1 oM aH ay F6;rw[c1,if_neg iS]at r1;let⟨k1,bB⟩:=Ii vs vp c0;have hm:x.E.length<=8:=by simp only[iA,Zz,Vd,decide_eq_true_eq]at c1;exact c1.2.2.1
 have em:cH x (.p_ k tg ky sl tx vs vp sub .z_)=.V4 1 tg ky (sl.map (P1 x)) [] (cH x sub) .W8:=by subst k1;rfl
 have a7:aP (.a [ZX 0,ZY 0,.f [],.j] [(0,4)]) [.B x.s]=some (.B x.s):=rfl;have n5:=n.fr aH;let⟨h6,br,bn,bt⟩:=au F5.r [ZY (k:Int),.f tg,.f ky,vs,.f tx,vp];have n6:=s_ br;simp only[a_,seval,x5,p5,a7,<-br];have a0:=aH.c bn;apply aa (Da (mks _) x h6 _ bn.r (a.fr a0) hm (n.fr a0) bB (by simp[PT.v_]) (Wy bt rfl));rintro u h7 ⟨s,es,F7,uE,_,st⟩;rw[em]at es;obtain⟨va,vc,s',rfl,a2⟩:=NT.bE es;have an:=st [] h7 iS (Vk F7.r);have a9:=a0.c F7;let⟨b,o,i1,i2⟩:=an.2.aC (i:=0) (by simp[NT.A_]) (x0:=ZY ((1:Nat):Int)) (x1:=.f tg) (x2:=.f ky) (x3:=va) (x4:=.f []) (x5:=vc) (r:=[]) rfl;have a5:aP (.c 6) [u,ZZ 0]=some (.u b o):=i1;have on:=NH.aF an.1;have a6:=F7.c_ (bn.c_ ay);let⟨h8,bA,bo,bv⟩:=au F7.r [ZY 0,.f [],.f [],.j,.f [],.j];simp only[a_,seval,a5,i2.2.2.2.2.2.2,<-bA];apply ao (c':=[ZY ((1:Nat):Int),.f tg,.f ky,va,.f [],vc]) bo.r bv rfl (by exact on) rfl;rintro h9 o9 F9 n9;have aj:Fr [] h7 h9:=bo.y F9 F7.r (Ve _);have N9:=NH.fr aj an.1;simp only[a_,seval,o9.ac.2.2.2.2.2.2];apply aa (qM F9.r N9);rintro _ bf ⟨rfl,ab⟩;have K:=ab.c_ (aj.c_ a6);have ae:=(a9.c aj).c ab;have ec:ST.U_ 1 tg ky (sl.map (P1 x)) [] (cH x sub)=NT.R8 1 tg ky (sl.map (P1 x)) [] s':=by rw[<-a2,NT.V?]
 rw[ec]at r1;by_cases z:NT.R8 1 tg ky (sl.map (P1 x)) [] s'=0;simp only[a_,seval,(oM:((NT.R8 1 tg ky (sl.map (P1 x)) [] s':Nat):Int)=0)];apply u_ ab.r K;rintro a3 af ac a1;simp only[a_,seval,af.ac.2.2.2.2.2.2];exact bad (r1.trans (if_pos (.inl z))) oM ae K ac;by_cases z2:Z<((NT.R8 1 tg ky (sl.map (P1 x)) [] s':Nat):Int);simp only[a_,seval,eq_false (oM:¬((NT.R8 1 tg ky (sl.map (P1 x)) [] s':Nat):Int)=0),z2];apply u_ ab.r K;rintro a3 af ac a1;simp only[a_,seval,af.ac.2.2.2.2.2.2];exact bad (r1.trans (if_pos (.inr z2))) oM ae K ac;have r2:=r1.trans (if_neg oM);have a4:=(ab.c_ o9).ac.2.2.2.2.2.2;simp only[a_,seval,eq_false (oM:¬((NT.R8 1 tg ky (sl.map (P1 x)) [] s':Nat):Int)=0),z2,a4];apply ao (c':=[ZY ((1:Nat):Int),.f tg,.f ky,va,.f [],vc]) ab.r K rfl (by exact on) rfl;rintro a3 af ac a1;simp only[a_,seval,af.ac.2.2.2.2.2.2];rw[r2];refine⟨_,rfl,ae.y ac w oM,fun q=>absurd rfl q,fun _=>⟨s',va,vc,rfl,fun X hh hX f=>?_,a2⟩⟩;have ba:=F7.i;refine(st ([h2.i]++X) hh (fun y m=>?_) (Vn (Vn (T:=[h2.i]) (aj.c ab) ac F7.r iS (fun y hy=>.inl hy)) f F7.r (fun y m=>.inl (Vc.2 (.inl m))) (fun y m=>.inl (Vc.2 (.inr m))))).1;have:=F5.i;have:=F4.i;have:=bg.i;have:=(show h3.i=h2.i+1 by rw[bk];rfl);obtain m|m:=Vc.1 m;simp at m;omega;grind
def Gn(e:Nat)(h:b_)(B:Nat)(v:V)(n:Nat)(cs:List V):Prop:=cs.length=n*e/\((n=0/\(v=.j\/∃b,B<=b/\v=.z b 0 0 0/\f_ h b []))\/∃b,B<=b/\v=.L b 0 n e/\f_ h b cs)
theorem Gn.sl{e:Nat}{h:b_}{B n:Nat}{v:V}(g:Gn e h B v n cs):Sl h e v n cs:=by obtain⟨Z,⟨rfl,rfl|⟨b,_,rfl,o⟩⟩|⟨b,_,rfl,o⟩⟩:=g;exact⟨Z,rfl⟩;have:cs=[]:=VH.1 oM;subst this;exact⟨Z,rfl,Ve _,[],o,iS,iS⟩;exact⟨Z,rfl,rfl,cs,o,oM,by rw[Xo,Vm oM]⟩
theorem Gn.fr{e:Nat}{h:b_}{B n:Nat}{v:V}(g:Gn e h B v n cs)(f:Fr X h h')(hx:∀x∈X,x<B):Gn e h' B v n cs:=by obtain⟨K,⟨rfl,rfl|⟨b,Z,rfl,o⟩⟩|⟨b,Z,rfl,o⟩⟩:=g;exact⟨K,.inl ⟨rfl,.inl rfl⟩⟩;exact⟨K,.inl ⟨rfl,.inr ⟨b,Z,rfl,f.D _ _ (fun m=>by have:=hx _ m;omega) o⟩⟩⟩;exact⟨K,.inr ⟨b,Z,rfl,f.D _ _ (fun m=>by have:=hx _ m;omega) o⟩⟩
theorem Gn.O{e:Nat}{h:b_}{B n:Nat}{v:V}(g:Gn e h B v n cs):v.O=true:=g.sl.O
theorem Gn.nE{e:Nat}{h:b_}{B n:Nat}{v:V}(g:Gn e h B v n cs):v≠.F:=by obtain⟨_,⟨_,rfl|⟨b,_,rfl,_⟩⟩|⟨b,_,rfl,_⟩⟩:=g<;>simp
def nZ:V->Bool:=fun _=>true
theorem _root_.Go.Ev.T5.aT{h:b_}{e:Nat}{v:V}{n:Nat}(a:T5 h e v n cs)(z:nZ v=true):R_ v=some n/\Q9 h e v n=some cs/\(v≠.j->aP (.l 1 false) [v,.j]=some (.h false)):=by
 let⟨hl,a⟩:=a;cases v with
 |z b o len cap=>obtain⟨rfl,_,c,Z,K,q⟩:=a;exact⟨rfl,by simp[Ev.Q9,Z.J,bR,bO _ _ (oO:len*e<=(c.drop o).length),q],fun _=>rfl⟩
 |L b o len e'=>obtain⟨rfl,rfl,c,Z,K,q⟩:=a;exact⟨rfl,by simp[Ev.Q9,Z.J,bR,bO _ _ (oO:len*e'<=(c.drop o).length),q],fun _=>rfl⟩
 |j=>have a:n=0:=a;subst a;simp at hl;subst hl;exact⟨rfl,rfl,fun q=>absurd rfl q⟩
 |F=>have a:n=0:=a;subst a;simp at hl;subst hl;exact⟨rfl,rfl,fun _=>rfl⟩
 |aa _ _=>have a:n=0:=a;subst a;simp at hl;subst hl;exact⟨rfl,rfl,fun _=>rfl⟩
 |_=>exact a.elim
theorem iQ{h:b_}{e bytes n:Nat}{x:V}(w:WF h)(a:T5 h e x n xs)(z:nZ x=true)(he:0<e)(ab:(2*n+1024) *bytes<=281474976710656){K:V->b_->Prop}
 (k:∀v' h',Gn e h' h.i v' n xs->Fr [] h h'->K v' h'):OQ (jO (k_ h []) e bytes (.z h.i 0 0 0) x) K:=by
 have Z:=VL w ([]:List V);have o1:=Wi w ([]:List V);let⟨s1,s2,_⟩:=(a.fr Z).aT z;have hl:=a.1;unfold jO;rw[s1];simp only[];by_cases c:n=0;subst c;rw[lV rfl,cond_true];exact(cU _ _ _).2 (k _ _ ⟨hl,.inl ⟨rfl,.inr ⟨h.i,Ve _,rfl,o1⟩⟩⟩ Z);rw[fD c,cond_false,s2];simp only[];rw[Cr oM,cond_false,YO,o1.J];have:dL 0 (gJ ([]:List V) 0)=some []:=rfl;rw[this];simp[vq];rw[(Xu ..).mpr ab,cond_true];refine(cU _ _ _).2 (k _ _ ⟨hl,.inr ⟨(k_ h []).i,Z.i,rfl,Wi Z.r xs⟩⟩ (Z.c (VL Z.r xs)))
theorem Fo{h:b_}{n:Nat}{x:V}(w:WF h)(a:T5 h 1 x n xs)(z:nZ x=true)(Z:n<=100000):av go 140 [x] h fun u h'=>Gn 1 h' h.i u n xs/\Fr [] h h':=by by_cases c:x=.j;subst c;have:n=0:=a.2;subst this;have q:aP (.l 1 false) [.j,.j]=some (.h true):=rfl;refine ai ?_;simp[a_,q];exact⟨⟨a.1,.inl ⟨rfl,.inl rfl⟩⟩,Vk w⟩;refine ai ?_;simp[a_,(a.aT z).2.2 c];apply iQ (bytes:=16) w a z oM oM;intro K h' g f;simp[a_];exact⟨g,f⟩
theorem Bg{h:b_}{n:Nat}{x:V}(w:WF h)(a:T5 h 3 x n xs)(z:nZ x=true)(Z:n<=100000):av go 92 [x] h fun u h'=>Gn 3 h' h.i u n xs/\Fr [] h h':=by by_cases c:x=.j;subst c;have:n=0:=a.2;subst this;have q:aP (.l 1 false) [.j,.j]=some (.h true):=rfl;refine ai ?_;simp[a_,q];exact⟨⟨a.1,.inl ⟨rfl,.inl rfl⟩⟩,Vk w⟩;refine ai ?_;simp[a_,(a.aT z).2.2 c];apply iQ (bytes:=40) w a z oM oM;intro K h' g f;simp[a_];exact⟨g,f⟩
theorem y9{h:b_}{n:Nat}{x:V}(w:WF h)(a:T5 h 6 x n xs)(z:nZ x=true)(Z:n<=100000):av go 93 [x] h fun u h'=>Gn 6 h' h.i u n xs/\Fr [] h h':=by by_cases c:x=.j;subst c;have:n=0:=a.2;subst this;have q:aP (.l 1 false) [.j,.j]=some (.h true):=rfl;refine ai ?_;simp[a_,q];exact⟨⟨a.1,.inl ⟨rfl,.inl rfl⟩⟩,Vk w⟩;refine ai ?_;simp[a_,(a.aT z).2.2 c];apply iQ (bytes:=104) w a z oM oM;intro K h' g f;simp[a_];exact⟨g,f⟩
theorem ze{h:b_}{n:Nat}{x:V}(w:WF h)(a:T5 h 9 x n xs)(z:nZ x=true)(Z:n<=100000):av go 40 [x] h fun u h'=>Gn 9 h' h.i u n xs/\Fr [] h h':=by by_cases c:x=.j;subst c;have:n=0:=a.2;subst this;have q:aP (.l 1 false) [.j,.j]=some (.h true):=rfl;refine ai ?_;simp[a_,q];exact⟨⟨a.1,.inl ⟨rfl,.inl rfl⟩⟩,Vk w⟩;refine ai ?_;simp[a_,(a.aT z).2.2 c];apply iQ (bytes:=128) w a z oM oM;intro K h' g f;simp[a_];exact⟨g,f⟩
def e_.D(x:e_)(v:V):e_:=⟨x.A,x.N,x.U,x.E,v⟩
def T8(N:Nat)(h:b_)(v:V)(L:List (List UInt8)):Prop:=(L=[]/\(v=.j\/∃b,v=.z b 0 0 0/\N<=b/\f_ h b []))\/∃b,v=.z b 0 L.length L.length/\N<=b/\f_ h b (L.flatMap sS)
theorem T8.fr{N:Nat}{h:b_}{v:V}{L:List (List UInt8)}(a:T8 N h v L)(f:Fr X h h')(l:∀y∈X,y<N):T8 N h' v L:=by obtain⟨e,rfl|⟨b,rfl,Z,o⟩⟩|⟨b,e,Z,o⟩:=a;exact .inl ⟨e,.inl rfl⟩;exact .inl ⟨e,.inr ⟨b,rfl,Z,f.D _ _ (fun m=>by have:=l b m;omega) o⟩⟩;exact .inr ⟨b,e,Z,f.D _ _ (fun m=>by have:=l b m;omega) o⟩
theorem T8.rs{N:Nat}{h:b_}{v:V}{L:List (List UInt8)}(a:T8 N h v L):o_ sS 1 h v L:=by have Z:(L.flatMap sS).length=L.length*1:=aG iu L;obtain⟨rfl,rfl|⟨b,rfl,_,o⟩⟩|⟨b,rfl,_,o⟩:=a;exact Yo;exact Wy o rfl;exact Wy o Z
theorem T8.O{N:Nat}{h:b_}{v:V}{L:List (List UInt8)}(a:T8 N h v L):v.O=true:=Wj a.rs
theorem T8.nE{N:Nat}{h:b_}{v:V}{L:List (List UInt8)}(a:T8 N h v L):v≠.F:=by obtain⟨_,rfl|⟨b,rfl,_,o⟩⟩|⟨b,rfl,_,o⟩:=a<;>simp
theorem Ik{N:Nat}{h:b_}{v:V}{L:List (List UInt8)}(g:Gn 1 h N v L.length (L.flatMap sS)):av go 139 [v] h fun u h'=>T8 N h u L/\h=h':=by
 have q:∀y n,n<=y->aZ n y false true true [ZZ (n:Int),ZZ (n:Int)]=some (0,n,some n):=fun y n hy=>by simp[aZ,bZ .i64 (n:Int) y oM oM,bZ .i64 (n:Int) n oM oM]
 obtain⟨K,⟨e,rfl|⟨b,Z,rfl,o⟩⟩|⟨b,Z,rfl,o⟩⟩:=g;have x:aP (.s none 1 false true true) [.j,ZZ 0,ZZ 0]=some .j:=rfl;refine ai ?_;simp[a_,x];exact .inl ⟨VH.1 e,.inl rfl⟩;have x:aP (.s none 1 false true true) [.z b 0 0 0,ZZ ((0:Nat):Int),ZZ ((0:Nat):Int)]=some (.z b 0 0 0):=by simp only[aP,eJ,q 0 0 (Ve _),Vx,Ye];rfl
 refine ai ?_;simp only[a_,↓reduceIte,Nat.reduceEqDiff,x];exact .inl ⟨VH.1 e,.inr ⟨b,rfl,Z,o⟩⟩;have x:aP (.s none 1 false true true) [.L b 0 L.length 1,ZZ ((L.length:Nat):Int),ZZ ((L.length:Nat):Int)]=some (.z b 0 L.length L.length):=by simp only[aP,eJ,lV (rfl:1=1),(VE ..).mpr (oM:0<1),Xh,cond_true,q L.length L.length (Ve _),VX];cases Nat.beq L.length 0<;>simp
 refine ai ?_;simp[a_,x];exact .inr ⟨b,rfl,Z,o⟩
theorem Ck{h:b_}{x:e_}(w:WF h)(a:q_ h x)(z:nZ x.vm=true):av go 71 [.B x.s] h fun u h'=>∃v,u=.B (x.D v).s/\Fr [] h h'/\T8 h.i h' v x.E:=by
 let⟨h1,aj,ak,ar⟩:=au w x.s;let⟨h2,an,af,ax⟩:=au ak.r [ZX 0,ZY 0,.f [],.j];have n1:=s_ aj;have ab:=ak.c af;have ob:=af.c_ ar;have l3:ag h2 h.i 3=some x.vm:=ob.o 3;have n2:=s_ an;refine ai ?_;simp[a_,<-aj,<-an,l3];refine aa (Fo af.r (a.m.fr ab) z (by have:=a.n;omega)) ?_;rintro v1 h3 ⟨g,F3⟩;simp[a_];apply aa (Ik g);rintro K _ ⟨cl,rfl⟩;have Z:=cl.O;simp[a_];refine ao (c':=(x.D K).s) F3.r (F3.c_ ob) (by simp[az Z]) (by rw[az Z];simp only[aA,aD,Z];rfl) (by rw[az Z];rfl) ?_;rintro h4 o4 F4 n4;have l4:aq h4 h.i 0 4=some (x.D K).s:=by rw[o4.J];rfl
 have ac:=F4.D _ _ oO (F3.c_ ax);simp[a_,l4];refine ao (c':=(x.D K).s) F4.r ac rfl (by show aw [ZX (x.A:Int),ZY (x.N:Int),.f x.U,K]=true;simp only[aA,aD,Z];rfl) rfl ?_;rintro h5 o5 F5 n5;have l5:aq h5 h1.i 0 4=some (x.D K).s:=by rw[o5.J];rfl
 simp[a_,l5];have ae:Fr [] h h4:=(ab.c F3).y F4 w (Ve _);have c5:=(cl.fr F4 oO).fr F5 oO;refine⟨K,rfl,ae.y F5 w oM,?_⟩;obtain⟨e,e2|⟨b,e2,hb,o⟩⟩|⟨b,e2,hb,o⟩:=c5;exact .inl ⟨e,.inl e2⟩;exact .inl ⟨e,.inr ⟨b,e2,oM,o⟩⟩;exact .inr ⟨b,e2,oM,o⟩
theorem xv{h:b_}{x:e_}(w:WF h)(a:q_ h x)(z:nZ x.vm=true):av go 71 [.B x.s] h fun u h'=>∃v,u=.B (x.D v).s/\Fr [] h h'/\v≠.F/\v.O=true/\
 ∀(X:List Nat)(Z:b_),(∀y∈X,y<h.i)->Fr X h' Z->o_ sS 1 Z v x.E:=by
 apply Xk (Ck w a z);rintro _ h' ⟨v,e,f,c⟩;exact⟨v,e,f,c.nE,c.O,fun X Z K f2=>(c.fr f2 K).rs⟩
structure w_ where
 k:Nat
 tg:i_
 ky:i_
 sl:List Q5
 tx:i_
 vs:V
 vp:V
 ar:PT
 W:Int
 Z:Bool
 aW:Int
def w_.as(q:w_):List V:=[ZY (q.k:Int),.f q.tg,.f q.ky,q.vs,.f q.tx,q.vp]
def w_.s(q:w_):List V:=q.as++[ZZ q.W,.h q.Z,ZZ q.aW]
theorem fg(q:w_):q.s.length=9:=rfl
def Q4(h:b_)(q:w_):Prop:=PH h (.p_ q.k q.tg q.ky q.sl q.tx q.vs q.vp q.ar .z_)
theorem Q4.fr{h:b_}{q:w_}(a:Q4 h q)(f:Fr [] h h'):Q4 h' q:=PH.fr f a
theorem Q4.aF{h:b_}{q:w_}(a:Q4 h q):aw q.as=true:=PH.aF a
theorem Q4.bO{h:b_}{q:w_}(a:Q4 h q):aw q.s=true:=by show aw (q.as++_)=true;rw[aO,a.aF];rfl
def ZE(b:Int):Bool:=decide (1<=b)&&decide (b<=2305843009213693952)
def Y0(q:w_):Bool:=ZE q.W&&decide (PT.S4 q.k q.tg q.ky q.sl q.tx q.ar≠0)
theorem wY{h:b_}(n:Int):av go 88 [ZZ n] h fun u h'=>u=.h (ZE n)/\h=h':=by by_cases c:1<=n;refine ai ?_;simp[a_,c];simp[ZE,c];refine ai ?_;simp[a_,c];simp[ZE,c]
theorem KT{h:b_}{q:w_}(w:WF h)(a:Q4 h q):av go 87 [.B q.s] h fun u h'=>u=.h (!Y0 q)/\Fr [] h h':=by
 let⟨K,ae,ab,ac⟩:=au w q.s;have l6:ag K h.i 6=some (ZZ q.W):=ac.o 6;have l0:aq K h.i 0 6=some q.as:=by rw[ac.J];rfl
 refine ai ?_;simp[a_,<-ae,l6];refine aa (wY _) ?_;rintro _ _ ⟨rfl,rfl⟩;cases c:ZE q.W;simp[a_];exact⟨by simp[Y0,c],ab⟩;simp[a_,l0];apply aa (wk (va:=q.vs) (vc:=q.vp) ab.r (a.fr ab));rintro _ h2 ⟨rfl,Z⟩;by_cases z:PT.S4 q.k q.tg q.ky q.sl q.tx q.ar=0;rw[if_pos z];simp[a_];exact⟨by simp[Y0,z],ab.c Z⟩;rw[if_neg z];simp[a_];exact⟨by simp[Y0,c,z],ab.c Z⟩
theorem B6{h:b_}{v:V}{L:List w_}(w:WF h)(a:o_ w_.s 9 h v L)(hL:∀q∈L,Q4 h q)(hn:L.length<=4096):
 av go 164 [v,.I (.func 87) [] []] h fun u h'=>∃r:Int,u=ZZ r/\(decide (0<=r)= !L.all Y0)/\Fr [] h h':=by
 refine ai ?_;simp[a_,YY a];refine aC (fun k env hh=>Fr [] h hh/\∃(i:Nat),env.c_ 8=some (ZZ i)/\env.c_ 7=some (ZZ L.length)/\env.c_ 0=some v/\env.c_ 1=some (.I (.func 87) [] [])/\
  i<=L.length/\(L.drop i).all Y0=L.all Y0/\k=L.length-i) L.length oM ?_ ?_
 ·exact⟨Vk w,0,iS,iS,iS,iS,oM,rfl,rfl⟩
 ·rintro k env hh ⟨F,i,K,g7,g0,g1,hi,e,rfl⟩;by_cases ab:i<L.length
  ·have Z:(i:Int)<L.length:=oM
   let⟨b,o,s,e1,_,e3,e5⟩:=(VJ a F).ix fg .i64 i oM Z;rw[pi]at e5;rw[aN e5,Xi]at e;have hs:=hL s (Vg e5);simp[a_,K,g7,g0,g1,Z,e1,e3];refine aa (KT F.r (hs.fr F)) ?_;rintro _ h1 ⟨rfl,F1⟩;cases c:Y0 s
   ·simp only[a_,seval];rw[c]at e;exact⟨i,rfl,by rw[<-e];simp,F.c F1⟩
   ·simp(disch:=omega)[a_,ah,K];rw[c]at e;refine t_ ⟨L.length-(i+1),oM,F.c F1,i+1,iS,iX,iX,iX,oM,by simpa using e,rfl⟩
    done
  ·simp only[a_,seval,K,g7,(oM:¬(i:Int)<L.length)];rw[Vq oM]at e;exact⟨-1,rfl,by rw[<-e];rfl,F⟩
def U3(L:List w_)(cap:Int):Bool:=decide (1<=L.length)&&(decide (L.length<=8)&&(decide (1<=cap)&&(decide (cap<=64)&&L.all Y0)))
theorem zM{h:b_}{v:V}{L:List w_}{cap:Int}(w:WF h)(a:o_ w_.s 9 h v L)(hL:∀q∈L,Q4 h q)(hn:L.length<=4096):
 av go 38 [.B [v,ZZ cap]] h fun u h'=>u=ZZ (if U3 L cap then 0 else 7)/\Fr [] h h':=by
 let⟨h1,ac,ab,ae⟩:=au w [v,ZZ cap];have Z:ag h1 h.i 0=some v:=ae.o 0;have l1:ag h1 h.i 1=some (ZZ cap):=ae.o 1;have len:=YY a;by_cases c0:L.length<1;refine ai ?_;simp[a_,<-ac,Z,len,(oM:(L.length:Int)<1)];exact⟨by simp[U3];omega,ab⟩;by_cases c1:8<L.length;refine ai ?_;simp[a_,<-ac,Z,len,(oM:¬(L.length:Int)<1),(oM:(8:Int)<L.length)];exact⟨by simp[U3];omega,ab⟩;by_cases c2:cap<1;refine ai ?_;simp[a_,<-ac,Z,l1,len,(oM:¬(L.length:Int)<1),(oM:¬(8:Int)<L.length),c2];exact⟨by simp[U3];omega,ab⟩;by_cases c3:64<cap;refine ai ?_;simp[a_,<-ac,Z,l1,len,(oM:¬(L.length:Int)<1),(oM:¬(8:Int)<L.length),c2,c3];exact⟨by simp[U3];omega,ab⟩;refine ai ?_;simp[a_,<-ac,Z,l1,len,(oM:¬(L.length:Int)<1),(oM:¬(8:Int)<L.length),c2,c3];refine aa (?_:av go 90 _ _ (fun u h'=>u=.h (!L.all Y0)/\Fr [] h1 h')) ?_;refine ai ?_;simp[a_];refine aa (B6 ab.r (VJ a ab) (fun q m=>(hL q m).fr ab) hn) ?_;rintro _ h2 ⟨r,rfl,e,K⟩;simp[a_];exact⟨by rw[e],K⟩;rintro _ h2 ⟨rfl,K⟩;have e:U3 L cap=L.all Y0:=by simp[U3,(oM:1<=L.length),(oM:L.length<=8),(oM:1<=cap),(oM:cap<=64)]
 rw[e];cases c4:L.all Y0;simp[a_];exact ab.c K;simp[a_];exact ab.c K
namespace PT
def W2:PT->PT->Prop
 |z_,z_=>True
 |p_ k tg ky sl tx _ _ s n,p_ k' tg' ky' sl' tx' _ _ s' n'=>k=k'/\tg=tg'/\ky=ky'/\sl=sl'/\tx=tx'/\W2 s s'/\W2 n n'
 |_,_=>False
theorem tO:∀{a b:PT},W2 a b->a.v_=b.v_
 |z_,z_,_=>rfl
 |p_ _ _ _ _ _ _ _ _ _,p_ _ _ _ _ _ _ _ _ _,h=>by simp[v_,tO h.2.2.2.2.2.2]
 |z_,p_ _ _ _ _ _ _ _ _ _,h=>h.elim
 |p_ _ _ _ _ _ _ _ _ _,z_,h=>h.elim
theorem qH:∀{a b:PT},W2 a b→∀l c,a.P7 l c=b.P7 l c
 |z_,z_,_,_,_=>rfl
 |p_ k tg ky sl tx _ _ s n,p_ _ _ _ _ _ _ _ s' n',⟨h1,h2,h3,h4,h5,h6,h7⟩,l,c=>by
  subst h1 h2 h3 h4 h5;have e1:R2 k tg ky sl tx s s.P7 l c=R2 k tg ky sl tx s' s'.P7 l c:=by unfold R2;rw[tO h6,qH h6]
  simp only[P7,e1,qH h7]
 |z_,p_ _ _ _ _ _ _ _ _ _,h,_,_=>h.elim
 |p_ _ _ _ _ _ _ _ _ _,z_,h,_,_=>h.elim
theorem ZP(k:Nat)(tg ky:i_)(sl:List Q5)(tx:i_){s Z:PT}(h:W2 s Z):S4 k tg ky sl tx s=S4 k tg ky sl tx Z:=by
 have K:R2 k tg ky sl tx s s.P7 1 0=R2 k tg ky sl tx Z Z.P7 1 0:=by unfold R2;rw[tO h,qH h]
 unfold S4;rw[K]
def Zw:PT->PT->PT
 |z_,t=>t
 |p_ k tg ky a tx va vc sub nx,t=>p_ k tg ky a tx va vc sub (nx.Zw t)
theorem ZD:∀a b:PT,(a.Zw b).P5=a.P5++b.P5
 |z_,_=>rfl
 |p_ _ _ _ _ _ _ _ _ nx,b=>by simp[Zw,P5,ZD nx b]
theorem z?:∀a b:PT,(a.Zw b).v_=a.v_+b.v_
 |z_,b=>by simp[Zw,v_]
 |p_ _ _ _ _ _ _ _ _ nx,b=>by simp[Zw,v_,z? nx b];omega
theorem n?:∀{a b c d:PT},W2 a b->W2 c d->W2 (a.Zw c) (b.Zw d)
 |z_,z_,_,_,_,h=>h
 |p_ _ _ _ _ _ _ _ _ _,p_ _ _ _ _ _ _ _ _ _,_,_,h,g=>⟨h.1,h.2.1,h.2.2.1,h.2.2.2.1,h.2.2.2.2.1,h.2.2.2.2.2.1,n? h.2.2.2.2.2.2 g⟩
 |z_,p_ _ _ _ _ _ _ _ _ _,_,_,h,_=>h.elim
 |p_ _ _ _ _ _ _ _ _ _,z_,_,_,h,_=>h.elim
def Zp:PT->Nat->PT
 |_,0=>z_
 |z_,_+1=>z_
 |p_ k tg ky a tx va vc sub nx,i+1=>p_ k tg ky a tx va vc sub (nx.Zp i)
theorem o?:∀(t:PT)(i:Nat),(t.Zp i).Zw (t.Y2 i)=t
 |z_,0=>rfl
 |z_,_+1=>rfl
 |p_ _ _ _ _ _ _ _ _ _,0=>rfl
 |p_ _ _ _ _ _ _ _ _ nx,i+1=>by simp[Zp,Y2,Zw,o? nx i]
theorem K?{t:PT}{i k:Nat}{tg ky tx:i_}{sl:List Q5}{va vc:V}{sub nx:PT}(h:t.Y2 i=p_ k tg ky sl tx va vc sub nx):t.Zp (i+1)=(t.Zp i).Zw (p_ k tg ky sl tx va vc sub z_):=by
 induction i generalizing t with
 |zero=>
  cases t with
  |z_=>cases h
  |p_ _ _ _ _ _ _ _ _ nx'=>cases h;cases nx<;>rfl
 |succ i ih=>
  cases t with
  |z_=>cases h
  |p_ _ _ _ _ _ _ _ _ nx'=>simp only[Zp,Zw];rw[ih h]
end PT
theorem PH.W3{h:b_}:∀{a b:PT},PH h a->PH h b->PH h (a.Zw b)
 |.z_,_,_,q=>q
 |.p_ _ _ _ _ _ _ _ _ _,_,⟨x1,x2,x3,x4,x5,x6,x7⟩,q=>⟨x1,x2,x3,x4,x5,x6,PH.W3 x7 q⟩
def PCp(k:Nat)(tg ky:i_)(sl:List Q5)(tx:i_)(vs vp:V)(sub:PT):Prop:=∀(h:b_),WF h->PH h (.p_ k tg ky sl tx vs vp sub .z_)->
 av go 41 [.B [ZY (k:Int),.f tg,.f ky,vs,.f tx,vp]] h fun u h'=>∃vs' vp' sub',u=.B [ZY (k:Int),.f tg,.f ky,vs',.f tx,vp']/\PT.W2 sub sub'/\Fr [] h h'/\
  ∀(X:List Nat)(h2:b_),(∀y∈X,y<h.i)->Fr X h' h2->PH h2 (.p_ k tg ky sl tx vs' vp' sub' .z_)
def J?:PT->Prop
 |.z_=>True
 |.p_ k tg ky sl tx vs vp sub nx=>PCp k tg ky sl tx vs vp sub/\J? nx
theorem J?.Z8:∀{t:PT}(i:Nat),J? t->J? (t.Y2 i)
 |.z_,0,_=>trivial
 |.z_,_+1,_=>trivial
 |.p_ _ _ _ _ _ _ _ _ _,0,a=>a
 |.p_ _ _ _ _ _ _ _ _ _,i+1,⟨_,g⟩=>J?.Z8 i g
theorem Gn.bT{e:Nat}{h:b_}{B n:Nat}{v:V}(w:WF h)(g:Gn e h B v n cs)(f:Fr X h h')(hx:∀x∈X,x<B\/h.i<=x):Gn e h' B v n cs:=by obtain⟨K,⟨rfl,rfl|⟨b,Z,rfl,o⟩⟩|⟨b,Z,rfl,o⟩⟩:=g;exact⟨K,.inl ⟨rfl,.inl rfl⟩⟩;exact⟨K,.inl ⟨rfl,.inr ⟨b,Z,rfl,f.D _ _ (fun m=>by have:=hx _ m;have:=o.lt w;omega) o⟩⟩⟩;exact⟨K,.inr ⟨b,Z,rfl,f.D _ _ (fun m=>by have:=hx _ m;have:=o.lt w;omega) o⟩⟩
theorem zR{k:Nat}{sl:List Q5}{vs vp:V}(P:J? sub):PCp k tg ky sl tx vs vp sub:=by
 intro h w ⟨hk,rs,ls,sp,lp,ph,_⟩;have zs:nZ vs=true:=by cases vs<;>first|rfl|exact rs.2.elim
 have zp:nZ vp=true:=by cases vp<;>first|rfl|exact sp.2.elim
 let⟨h1,bW,b6,b9⟩:=au w [ZY (k:Int),.f tg,.f ky,vs,.f tx,vp];let⟨h2,bV,bT,b7⟩:=au b6.r [ZY 0,.f [],.f [],.j,.f [],.j];have n1:=s_ bW;have n2:=s_ bV;have a6:=b6.c bT;have ob:=bT.c_ b9;have l3:ag h2 h.i 3=some vs:=ob.o 3;have l5:ag h2 h.i 5=some vp:=ob.o 5;refine ai ?_;simp only[a_,seval,<-bW,<-bV,l3];refine aa (Bg bT.r (Sl.a (VJ rs a6)) zs oM) ?_;rintro ac h3 ⟨gs,F3⟩;simp only[a_,seval];refine ao (c':=[ZY (k:Int),.f tg,.f ky,ac,.f tx,vp]) F3.r (F3.c_ ob) (by simp[az gs.O]) (by rw[az gs.O];simp only[aA,aD,gs.O];rfl) (by rw[az gs.O];rfl) ?_;rintro h4 o4 F4 n4;have bf:Fr [] h h4:=(a6.c F3).y F4 w (Ve _);have bm:ag h4 h.i 5=some vp:=o4.o 5;simp only[a_,seval,bm];apply aa (y9 F4.r (Sl.a (sp.fr bf)) zp oM);rintro K h5 ⟨gp,F5⟩;simp only[a_,seval];refine ao (c':=[ZY (k:Int),.f tg,.f ky,ac,.f tx,K]) F5.r (F5.c_ o4) (by simp[az gp.O]) (by rw[az gp.O];simp only[aA,aD,gp.O];rfl) (by rw[az gp.O];rfl) ?_;rintro h6 o6 F6 n6;have bt:ag h6 h.i 5=some K:=o6.o 5;have bC:=F3.i;have aH:=gp.fr F6 oO;simp only[a_,seval,bt,aH.sl.A_];have bo:Fr [] h h6:=(bf.c F5).y F6 w (Ve _);have bw:f_ h6 h1.i [ZY 0,.f [],.f [],.j,.f [],.j]:=F6.D _ _ oO (F5.c_ (F4.D _ _ oO (F3.c_ b7)));have a5:Fr [h.i] h3 h6:=Vn (Vn (T:=[h.i]) F4 F5 F3.r iS iS) F6 F3.r iS iS;have bD:Gn 3 h6 h2.i ac sl.length (sl.flatMap vL):=gs.fr a5 oO;have bj:∀y∈vb K,h4.i<=y/\y<h6.i:=by obtain⟨_,⟨_,rfl|⟨b,_,rfl,_⟩⟩|⟨b,hb,rfl,o⟩⟩:=aH;simp[vb];simp[vb];have:=o.lt F6.r;simp only[vb,Vu];rintro y rfl;exact⟨hb,this⟩
 refine aC (fun n env hh=>Fr [] h hh/\h6.i<=hh.i/\f_ hh h.i [ZY (k:Int),.f tg,.f ky,ac,.f tx,K]/\f_ hh h1.i [ZY 0,.f [],.f [],.j,.f [],.j]/\(∃X3:List Nat,(∀y∈X3,y<h2.i\/h3.i<=y)/\Fr X3 h3 hh)/\
  ∃(i:Nat)(d:PT),env.c_ 15=some (ZZ i)/\env.c_ 14=some (ZZ sub.v_)/\env.c_ 1=some (.u h.i 0)/\env.c_ 2=some (.u h1.i 0)/\i<=sub.v_/\d.v_=i/\PT.W2 (sub.Zp i) d/\
  Gn 6 hh h4.i K sub.v_ (d.P5++sub.P5.drop (i*6))/\(∀(X:List Nat)(h2:b_),(∀y∈X,y<h.i\/y=h.i\/y=h1.i\/y∈vb K)->Fr X hh h2->PH h2 d)/\n=sub.v_-i) sub.v_ oM ?_ ?_
 exact⟨bo,Ve _,o6,bw,⟨_,by simp;omega,a5⟩,0,.z_,iS,iS,iS,iS,oM,rfl,by cases sub<;>trivial,by simpa[PT.P5]using aH,fun _ _ _ _=>trivial,rfl⟩;rintro n env hh ⟨F,hn,ox,oz,⟨X3,a7,a3⟩,i,d,ax,a8,g1,g2,hi,dl,ds,aj,dst,rfl⟩;have lx:ag hh h.i 5=some K:=ox.o 5;by_cases bv:i<sub.v_;have ar:(i:Int)<sub.v_:=oM;let⟨kc,ae,af,slc,ak,bB,ca,sb,nx,e1,e2,e3,e4,e5,e6⟩:=sub.ZO i bv;have Pi:=P.Z8 i;have ab:=ph.Z8 i;rw[e1]at Pi ab;obtain⟨_,⟨z,_⟩|⟨bp,br,rfl,ba⟩⟩:=aj;omega;have dc:=d.W1;rw[dl]at dc;have q0:∀Y:List V,(d.P5++Y).drop (i*6)=Y:=fun Y=>by rw[<-dc,Xn]
 have q1:∀Y:List V,(d.P5++Y).take (i*6)=d.P5:=fun Y=>by rw[<-dc,XA]
 have q2:∀Y:List V,(d.P5++Y).drop (i*6+6)=Y.drop 6:=fun Y=>by rw[<-dc,Wa]
 have ix:=lZ 6 bp 0 sub.v_ 6 .i64 (i:Int) oM ar;simp at ix;have lc:aq hh bp (i*6) 6=some [ZY (kc:Int),.f ae,.f af,bB,.f ak,ca]:=by rw[ba.J,bR,q0,e2];rfl
 have hb:=bj bp (by simp[vb]);simp only[a_,seval,g_,ax,a8,g1,ar,lx,ix,lc];apply aa (Pi.1 hh F.r (PH.fr F ⟨ab.1,ab.2.1,ab.2.2.1,ab.2.2.2.1,ab.2.2.2.2.1,ab.2.2.2.2.2.1,trivial⟩));rintro _ h7 ⟨a0,ay,bA,rfl,sm,F7,bc⟩;have bz:ag h7 h.i 5=some (.L bp 0 sub.v_ 6):=(F7.c_ ox).o 5;have on:aw [ZY (kc:Int),.f ae,.f af,a0,.f ak,ay]=true:=PH.aF (bc [] h7 iS (Vk F7.r));simp only[a_,g_,ix];have eC:bq (d.P5++sub.P5.drop (i*6)) (i*6) [ZY (kc:Int),.f ae,.f af,a0,.f ak,ay]=some ((d.Zw (.p_ kc ae af slc ak a0 ay bA .z_)).P5++sub.P5.drop ((i+1) *6)):=by rw[bN _ _ _ (by rw[Vv,dc,e2];simp),PT.ZD];congr 1;show _++_++(d.P5++sub.P5.drop (i*6)).drop (i*6+6)=_;rw[q1,q2,Wd,(oM:i*6+6=(i+1) *6)];simp[PT.P5]
 refine ao F7.r (F7.c_ ba) rfl on eC ?_;rintro h8 o8 F8 n8;have bE:=F7.i;have bh:Fr [] h h8:=(F.c F7).y F8 w oM;simp(disch:=omega) only[a_,seval,DF,ah,ax,lx,bz,lc];refine t_ ⟨sub.v_-(i+1),oM,bh,oM,F8.D _ _ oO (F7.c_ ox),F8.D _ _ oO (F7.c_ oz),⟨X3++[bp],?_,Vn (Vn a3 F7 F3.r (fun y Z=>.inl iX) iS) F8 F3.r (fun y Z=>.inl Z) (fun y Z=>.inl (by simp at Z;simp[Z]))⟩,i+1,_,iS,iX,iX,iX,oM,?_,?_,⟨?_,.inr ⟨bp,br,rfl,o8⟩⟩,?_,rfl⟩;intro y Z;simp at Z;obtain Z|rfl:=Z;exact a7 y Z;exact .inr oM;rw[PT.z?,dl];rfl;rw[PT.K? e1];exact PT.n? ds ⟨rfl,rfl,rfl,rfl,rfl,sm,trivial⟩;rw[Vv,PT.ZD,Vv,dc,Xv,PT.W1,PT.W1];simp only[PT.v_];omega;intro X h9 hX f9;have a9:Fr ([bp]++X) h7 h9:=Vn F8 f9 F7.r (fun y Z=>.inl (by simp at Z;simp[Z])) (fun y Z=>.inl iX);have bg:Fr ([bp]++X) hh h9:=Vn F7 a9 F.r iS (fun y Z=>.inl Z);refine PH.W3 (dst _ h9 ?_ bg) (bc _ h9 ?_ a9);intro y Z;simp at Z;obtain rfl|Z:=Z;exact .inr (.inr (.inr (by simp[vb])));exact hX y Z;intro y Z;simp at Z;obtain rfl|Z:=Z;omega;obtain q|q|q|q:=hX y Z;omega;omega;omega;simp[vb]at q;omega;have bk:i=sub.v_:=oM;have a4:=gs.bT F3.r a3 a7;have l6:=ox.ac.2.2.2.2.2.2;have bn:=aj.O;have bi:=a4.O;simp only[a_,seval,ax,a8,g1,g2,(oM:¬(i:Int)<sub.v_),l6];refine ao (c':=[ZY (k:Int),.f tg,.f ky,ac,.f tx,K]) F.r oz rfl (by simp only[V.s,aA,aD,bi,bn];rfl) rfl ?_;rintro h7 o7 F7 n7;simp only[a_,seval,g2,o7.ac.2.2.2.2.2.2];subst bk;rw[Vq (by rw[PT.W1];omega),Wk]at aj;have te:sub.Zp sub.v_=sub:=by
  have:=PT.o? sub sub.v_;rw[PT.Zt _ _ (Ve _)]at this;have an:∀t:PT,t.Zw .z_=t:=by
   intro t;induction t with
   |z_=>rfl
   |p_ _ _ _ _ _ _ _ _ nx _ ih=>simp[PT.Zw,ih]
  rw[an]at this;exact this
 rw[te]at ds;refine⟨ac,K,d,rfl,ds,F.y F7 w oM,fun X h8 hX f8=>?_⟩;have f:Fr ([h1.i]++X) hh h8:=Vn F7 f8 F.r (fun y Z=>.inl (by simp at Z;simp[Z])) (fun y Z=>.inl iX);have a1:=a4.fr f (by
  intro y Z;simp at Z;obtain rfl|Z:=Z;omega;have:=hX y Z;omega)
 have a2:=aj.fr f (by
  intro y Z;simp at Z;obtain rfl|Z:=Z;omega;have:=hX y Z;omega)
 refine⟨hk,a1.sl,ls,by rw[dl];exact a2.sl,oM,dst _ h8 ?_ f,trivial⟩;intro y Z;simp at Z;obtain rfl|Z:=Z;exact .inr (.inr (.inl rfl));exact .inl (hX y Z)
theorem pcs:∀t:PT,J? t
 |.z_=>trivial
 |.p_ _ _ _ _ _ _ _ sub nx=>⟨zR (pcs sub),pcs nx⟩
theorem H6{h:b_}{b:Nat}(w:WF h)(f:Fl h b bs):av go 109 [.u b 0] h fun u h'=>∃c,u=.u c 0/\h.i<=c/\Fl h' c bs/\Fr [] h h':=by
 let⟨Z,o,ok,hn⟩:=f;have q2:aq h b 0 66=some (R3 (bs.length:Int) (bs.count true:Int) Z):=by rw[o.J,bR,bO _ _ (by simp[dU,ok.A_])];rw[Xo,Vm (by simp[dU,ok.A_])]
 have K:(R3 (bs.length:Int) (bs.count true:Int) Z).length=66:=by simp[dU,ok.A_]
 have on:aw (R3 (bs.length:Int) (bs.count true:Int) Z)=true:=by
  unfold R3;have:∀l:List Nat,aw (l.map uw)=true:=fun l=>by induction l with
   |nil=>rfl
   |cons x l ih=>simp;rw[aw];simp[uw,V.O]
  rw[aA,aA,this];rfl
 refine ai ?_;simp[a_,q2];refine ao (c':=R3 (bs.length:Int) (bs.count true:Int) Z) (VL w _).r (Wi w _) K on (by rw[bN _ _ _ (by rw[V.s,K];simp)];simp[V.s,K]) ?_;rintro h3 o3 F3 n3;simp only[a_,seval];exact⟨h.i,rfl,Ve _,⟨Z,o3,ok,hn⟩,(VL w _).y F3 w (Ve _)⟩
def bS(n:Nat)(a k:Int):Prop:=a<0\/k<0\/(n:Int)<a\/(n:Int)-a<k
instance(n:Nat)(a k:Int):Decidable (bS n a k):=by unfold bS;infer_instance
theorem C4{h:b_}{v:V}{l:List Int}{a k:Int}(w:WF h)(r:Rp h v l)(a0:-9223372036854775808<=a)(a1:a<=9223372036854775807)(k0:-9223372036854775808<=k)(k1:k<=9223372036854775807):
 av go 206 [v,ZZ a,ZZ k] h fun u h'=>Fr [] h h'/\if bS l.length a k then u=.G [.K,.K,.K,ZZ 4]else
  ∃t1 t2 t3 p1 p2 p3,u=.G [pv p1,pv p2,pv p3,ZZ 0]/\At h' t1 p1/\At h' t2 p2/\At h' t3 p3/\t1.j_=l.take a.toNat/\t2.j_=(l.drop a.toNat).take k.toNat/\t3.j_=(l.drop a.toNat).drop k.toNat:=by
 have rr:=r;obtain⟨t,p,rfl,at',rfl,f⟩:=r;have f3:=f.2.2;unfold bS;let⟨h1,ae,ab,ac⟩:=au w [pv p];by_cases c1:a<0;refine ai ?_;simp only[a_,seval,<-ae,eq_true c1];exact⟨ab,iS⟩;by_cases c2:k<0;refine ai ?_;simp only[a_,seval,<-ae,eq_false c1,eq_true c2];exact⟨ab,iS⟩;refine ai ?_;simp only[a_,seval,<-ae,eq_false c1,eq_false c2,ac.J];refine aa (mb ab.r (rr.fr ab)) ?_;rintro _ h2 ⟨rfl,F2⟩;have Z:=ab.c F2;by_cases c3:(t.j_.length:Int)<a;simp only[a_,seval,eq_true c3];exact⟨Z,iS⟩;simp only[a_,seval,eq_false c3,(F2.c_ ac).J];apply aa (mb F2.r (rr.fr Z));rintro _ h3 ⟨rfl,F3⟩;have K:=Z.c F3;by_cases c4:(t.j_.length:Int)-a<k;simp(disch:=omega) only[a_,seval,ah,eq_true c4];exact⟨K,iS⟩;simp(disch:=omega) only[a_,seval,ah,eq_false c4,((F2.c F3).c_ ac).o];apply aa (ir F3.r (at'.fr K) f oM oM);rintro _ h4 ⟨t1,t2,p1,p2,rfl,b1,b2,b3,b4,F4⟩;simp only[a_,seval];refine aa (ir F4.r b2 (by rw[b4];exact f.ar (WR _ _)) oM oM) ?_;rintro _ h5 ⟨t3,t4,p3,p4,rfl,d1,d2,d3,d4,F5⟩;simp only[a_,seval];refine⟨K.c (F4.c F5),?_⟩;exact⟨t1,t3,t4,p1,p3,p4,rfl,b1.fr F5,d1,d2,b3,by rw[d3,b4],by rw[d4,b4]⟩
theorem Lf{h:b_}{v:V}{l:List Int}{a k:Int}(w:WF h)(r:Rp h v l)(a0:-9223372036854775808<=a)(a1:a<=9223372036854775807)(k0:-9223372036854775808<=k)(k1:k<=9223372036854775807):
 av go 147 [v,ZZ a,ZZ k] h fun z h'=>Fr [] h h'/\∃c,z=.G [.B [c],ZZ (if bS l.length a k then 4 else 0)]/\c.O=true/\(¬bS l.length a k->Rp h' (.B [c]) (l.take a.toNat++(l.drop a.toNat).drop k.toNat)):=by
 have rr:=r;obtain⟨t,p,rfl,at',rfl,f⟩:=r;let⟨h1,ay,ak,ax⟩:=au w [pv p];let⟨h2,aH,an,ar⟩:=au ak.r [.K];have K:=ak.c an;refine ai ?_;simp only[a_,seval,<-ay,<-aH,(an.c_ ax).J];refine aa (C4 an.r (rr.fr K) a0 a1 k0 k1) ?_;rintro u h3 ⟨Z,hu⟩;have ab:=K.c Z;by_cases c:bS t.j_.length a k;rw[if_pos c]at hu;subst hu;simp only[a_,seval];apply u_ Z.r (Z.c_ ar);rintro h4 ae ac aj;simp only[a_,seval,ae.J];exact⟨ab.y ac w ak.i,.K,by simp[c],rfl,fun x=>absurd c x⟩;rw[if_neg c]at hu;obtain⟨t1,t2,t3,p1,p2,p3,rfl,b1,b2,b3,e1,e2,e3⟩:=hu;have fs:P2 (t1.j_++t3.j_):=by rw[e1,e3];apply f.ar;have:(t.j_.take a.toNat++(t.j_.drop a.toNat).drop k.toNat).Sublist (t.j_.take a.toNat++t.j_.drop a.toNat):=List.Sublist.append (Xp _) (WR _ _);rwa[VA]at this
 simp only[a_,seval];apply aa (oI Z.r b1 b3 fs);rintro _ h4 ⟨t4,p4,rfl,b4,e4,F4⟩;simp only[a_,seval];apply ao (c':=[pv p4]) F4.r (F4.c_ (Z.c_ ar)) rfl (by simp[aw,V.s,fO]) rfl;rintro h5 o5 F5 n5;simp only[a_,seval,o5.J];have af:=ab.c F4;refine⟨af.y F5 w ak.i,pv p4,by simp[c],fO _,fun _=>⟨t4,p4,rfl,b4.aI F5 (F4.c_ (Z.c_ ar)) iS,by rw[e4,e1,e3],?_⟩⟩;rw[e1,e3]at fs;exact fs
def dt(n:Nat)(a k t:Int):Prop:=bS n a k\/t<0\/(n:Int)-k<t
instance(n:Nat)(a k t:Int):Decidable (dt n a k t):=by unfold dt;infer_instance
def aV{α:Type}(l:List α)(a k:Nat):List α:=l.take a++(l.drop a).drop k
def cG{α:Type}(l:List α)(a k t:Nat):List α:=(aV l a k).take t++(l.drop a).take k++(aV l a k).drop t
theorem iw(l:List α)(a k:Nat):(aV l a k).Sublist l:=by have:(l.take a++(l.drop a).drop k).Sublist (l.take a++l.drop a):=List.Sublist.append (Xp _) (WR _ _);rwa[VA]at this
theorem wB(l:List α)(a k:Nat):(aV l a k++(l.drop a).take k).Perm l:=by
 unfold aV;have h:(l.take a++((l.drop a).take k++(l.drop a).drop k))=l:=by rw[VA,VA]
 conv=>rhs;rw[<-h]
 rw[VN];exact Yz _ XW
theorem wO(l:List α)(a k t:Nat):(cG l a k t).Perm l:=by
 refine List.Perm.trans ?_ (wB l a k);unfold cG;have h:aV l a k=(aV l a k).take t++(aV l a k).drop t:=(VA _ _).symm;conv=>rhs;rw[h]
 rw[VN,VN];exact Yz _ XW
theorem Hi{l r:List Int}(p:l.Perm r):l.sum=r.sum:=by
 induction p with
 |nil=>rfl
 |cons x _ ih=>simp[ih]
 |swap x y l=>simp;omega
 |trans _ _ a b=>exact a.trans b
theorem P2.bS{l r:List Int}(f:P2 l)(p:r.Perm l):P2 r:=
 ⟨fun x hx=>f.1 x (p.subset hx),by rw[Hi p];exact f.2.1,by rw[p.length_eq];exact f.2.2⟩
theorem Lg{h:b_}{v:V}{l:List Int}{a k t:Int}(w:WF h)(r:Rp h v l)(a0:-9223372036854775808<=a)(a1:a<=9223372036854775807)(k0:-9223372036854775808<=k)(k1:k<=9223372036854775807)
 (t0:-9223372036854775808<=t) (t1:t<=9223372036854775807):
 av go 227 [v,ZZ a,ZZ k,ZZ t] h fun z h'=>Fr [] h h'/\∃c,z=.G [.B [c],ZZ (if dt l.length a k t then 4 else 0)]/\c.O=true/\
  (¬dt l.length a k t->Rp h' (.B [c]) (cG l a.toNat k.toNat t.toNat)):=by
 have rr:=r;obtain⟨tr,p,rfl,at',rfl,f⟩:=r;have f3:=f.2.2;let⟨h1,a7,a2,a5⟩:=au w [pv p];let⟨h2,a6,a4,a3⟩:=au a2.r [.K];have an:=a2.c a4;refine ai ?_;simp[a_,<-a7,<-a6,(a4.c_ a5).J];refine aa (C4 a4.r (rr.fr an) a0 a1 k0 k1) ?_;rintro u h3 ⟨F3,hu⟩;have Z:=an.c F3;by_cases c:bS tr.j_.length a k;rw[if_pos c]at hu;subst hu;simp[a_];apply u_ F3.r (F3.c_ a3);rintro h4 ab K ar;simp[a_,ab.J];exact⟨Z.y K w a2.i,.K,by simp[c,dt],rfl,fun x=>absurd (.inl c) x⟩;rw[if_neg c]at hu;have cc:=c;unfold bS at cc;obtain⟨af,ay,ae,p1,p2,p3,rfl,b1,b2,b3,e1,e2,e3⟩:=hu;have hR:af.j_++ae.j_=aV tr.j_ a.toNat k.toNat:=by rw[e1,e3];rfl
 have fs:P2 (af.j_++ae.j_):=by rw[hR];exact f.ar (iw _ _ _)
 by_cases c1:t<0;simp[a_,eq_true c1];apply u_ F3.r (F3.c_ a3);rintro h4 ab K ar;simp[a_,ab.J];exact⟨Z.y K w a2.i,.K,by simp[c1,dt],rfl,fun x=>absurd (.inr (.inl c1)) x⟩;simp[a_,eq_false c1,((a4.c F3).c_ a5).J];apply aa (mb F3.r (rr.fr Z));rintro _ h4 ⟨rfl,F4⟩;by_cases c2:(tr.j_.length:Int)-k<t;simp(disch:=omega)[a_,ah,eq_true c2];apply u_ F4.r ((F3.c F4).c_ a3);rintro h5 ax aj aH;simp[a_,ax.J];exact⟨(Z.c F4).y aj w a2.i,.K,by simp[c2,dt],rfl,fun x=>absurd (.inr (.inr c2)) x⟩;simp(disch:=omega)[a_,ah,eq_false c2];apply aa (oI F4.r (b1.fr F4) (b3.fr F4) fs);rintro _ h5 ⟨t4,p4,rfl,b4,e4,F5⟩;simp[a_];refine aa (ir F5.r b4 (by rw[e4];exact fs) oM oM) ?_;rintro _ h6 ⟨t5,t6,p5,p6,rfl,b5,b6,e5,e6,F6⟩;have ak:=F4.c (F5.c F6);have hM:t5.j_++ay.j_++t6.j_=cG tr.j_ a.toNat k.toNat t.toNat:=by rw[e5,e6,e4,hR,e2];rfl
 have fM:P2 (t5.j_++ay.j_++t6.j_):=by rw[hM];exact f.bS (wO _ _ _ _)
 simp[a_];apply aa (oI F6.r b5 (b2.fr ak) fM.aj);rintro _ h7 ⟨t7,p7,rfl,b7,e7,F7⟩;simp[a_];refine aa (oI F7.r b7 (b6.fr F7) (by rw[e7];exact fM)) ?_;rintro _ h8 ⟨t8,p8,rfl,b8,e8,F8⟩;have ac:=ak.c (F7.c F8);simp[a_];apply ao (c':=[pv p8]) F8.r (ac.c_ (F3.c_ a3)) rfl (by simp[aw,V.s,fO]) rfl;rintro h9 o9 F9 n9;simp[a_,o9.J];have nb:¬dt tr.j_.length a k t:=by unfold dt;intro q;obtain q|q|q:=q;exact c q;exact c1 q;exact c2 q
 refine⟨(Z.c ac).y F9 w a2.i,pv p8,by simp[nb],fO _,fun _=>⟨t8,p8,rfl,b8.aI F9 (ac.c_ (F3.c_ a3)) iS,by rw[e8,e7,hM],?_⟩⟩;rw[hM]at fM;exact fM
def t?(a n:Int)(f:Int->Bool)(x:Int):Bool:=if x<a then f x else f (x+n)
theorem D3{h:b_}{v:V}{L:List (Int×Int)}{a n m:Int}(w:WF h)(s:Sp h v L)(ok:M6 L (-1))(hm:m<=8000)(hL:∀s∈L,s.2<=m)(ba:0<=m)(ha:0<=a)(a8:a+n<=m)(hn:0<=n):
 av go 148 [v,ZZ a,ZZ n] h fun z h'=>Fr [] h h'/\∃y L',z=.G [y,ZZ 0]/\y.O=true/\T9 h' y L'/\M6 L' (-1)/\(∀x,L_ L' x=t? a n (L_ L) x)/\∀s∈L',s.2<=m-n:=by
 have ar:=ok.e oM hL;refine ai ?_;simp only[a_,seval];refine aa (wE w s ok ar ha oM hn oM) ?_;rintro _ h1 ⟨rfl,F1⟩;have s1:=s.fr F1;simp only[a_,seval,s1.M];refine aC (fun k env hh=>∃(i:Nat)(vo:V)(O:List (Int×Int))(Z:Int),Fr [] h hh/\env.c_ 19=some v/\env.c_ 20=some (ZZ L.length)/\env.c_ 21=some (ZZ i)/\env.c_ 9=some vo/\
  env.c_ 1=some (ZZ a)/\env.c_ 2=some (ZZ n)/\i<=L.length/\Q1 sp 2 hh h.i vo O/\M6 O (-1)/\M6 (L.drop i) Z/\(∀s∈O,s.2<=max (min Z a) (Z-n))/\Z<=m/\
  (∀x,L_ O x=t? a n (L_ (L.take i)) x)/\k=L.length-i) L.length oM ?_ ?_
 exact⟨0,.j,[],-1,F1,iS,iS,iS,iS,iS,iS,oM,Q1.D_,trivial,ok,iS,oM,fun x=>by simp[t?,L_],rfl⟩;rintro k env hh ⟨i,vo,O,Z,F,a5,aH,aj,ak,g1,g2,hi,gO,ae,ay,mO,lm,sO,rfl⟩;have cO:=ae.a m (fun s hs=>by have:=mO s hs;omega) oM;by_cases af:(i:Int)<L.length;let⟨bb,oo,s,e1,e2,e3,e4,e5⟩:=Sp.ix (VJ (L:=L) ‹Sp h v L› F) i af
 have sm:=hL s (Vg e5);rw[aN e5]at ay;let⟨k1,k2,k3,k4,k5⟩:=ay;let⟨h2,bg,bc,bf⟩:=au F.r [ZZ 0,ZZ 0];simp only[a_,seval,a5,aH,aj,af,e1,e4,<-bg];apply u_ bc.r bf;rintro h3 ab a0 a7;have ac:Fr [] hh h3:=bc.y a0 F.r (Ve _);have F3:=F.c ac;have b3:h.i<=h3.i:=F3.i;have bk:h.i<=hh.i:=F.i;simp only[a_,seval,ak,g1,ab.o];apply aa (pj F3.r (gO.fr ac) b3 oM);rintro v1 h4 ⟨ax,U4⟩;let⟨p1,p2,p3⟩:=gw (a:=s.1) (b:=min s.2 a) ae (fun hh s' K=>by have:=mO s' K;omega) k2 oM;have an:∀s'∈nu O s.1 (min s.2 a),s'.2<=max (min s.2 a) (s.2-n):=p3 _ (fun s' K=>by have:=mO s' K;omega) (fun _=>by omega);have a1:max s.1 (a+n)-n<s.2-n->∀s'∈nu O s.1 (min s.2 a),s'.2<=max s.1 (a+n)-n:=fun _=>p3 _ (fun s' K=>by have:=mO s' K;omega) (fun _=>by omega);have a9:=p1.a m (fun s hs=>by have:=an s hs;omega) oM;have a4:f_ h4 hh.i [ZZ s.1,ZZ s.2]:=by refine U4.D _ _ ?_ ab;obtain⟨rfl,_⟩|⟨b,n',rfl,_,_,_,og⟩:=gO;simp[vb];have:=og.lt F.r;simp[vb];omega
 have a2:=Gs.up (gO.fr ac) U4;simp(disch:=omega) only[a_,seval,ah,g1,g2,a4.o];apply aa (pj U4.r ax (VC b3 U4.i) oM);rintro v2 h5 ⟨a6,U5⟩;have a3:=Gs.up ax U5;let⟨q1,q2,q3⟩:=gw (a:=max s.1 (a+n)-n) (b:=s.2-n) p1 a1 oM oM;simp(disch:=omega) only[a_,seval,ah,aj];refine t_ ⟨L.length-(i+1),oM,i+1,v2,_,s.2,F3.br w (a2.b a3),iX,iX,iS,iS,iX,iX,oM,a6,q1,k5,q3 _ an (fun _=>by omega),sm,?_,rfl⟩;intro x;rw[q2,p2,sO,Vs,e5];simp[t?,pR,iD,mR];by_cases c1:x<a;grind;grind;simp only[a_,seval,aH,aj,ak,af];apply aa (sU gO oM);rintro _ _ ⟨z,rfl,sz,oz,hh⟩;subst hh;simp only[a_,seval];refine⟨F,z,O,rfl,oz,sz,ae,fun x=>by rw[sO,Vm oM],fun s hs=>by have:=mO s hs;omega⟩
theorem gF{l:List α}{a k:Nat}(h:a+k<=l.length):(aV l a k).length=l.length-k:=by unfold aV;simp;omega
theorem GY{l:List α}{a k:Nat}(h:a<=l.length)(i:Nat):(aV l a k)[i]? =if i<a then l[i]? else l[i+k]? :=by unfold aV;by_cases c:i<a;grind;grind
theorem qJ{l:List Bool}{a k:Nat}(h:a<=l.length)(i:Nat):(aV l a k).getD i false=if i<a then l.getD i false else l.getD (i+k) false:=by rw[Wg,GY h];split<;>simp
theorem mV{n:Nat}{a k:Int}(c:¬bS n a k):0<=a/\0<=k/\a.toNat+k.toNat<=n:=by unfold bS at c;omega
theorem Kn.cd{L Z:List (Int×Int)}{a k:Int}(K:Kn L ks)(c:¬bS ks.length a k)(ok:M6 Z (-1))(e:∀x,L_ Z x=t? a k (L_ L) x)(le:∀s∈Z,s.2<=(ks.length:Int)-k):Kn Z (aV ks a.toNat k.toNat):=by let⟨c0,c1,c2⟩:=mV c;have hl:=gF c2;refine⟨ok,fun s hs=>by rw[hl];have:=le s hs;omega,fun i=>?_⟩;rw[e,qJ oM];unfold t?;by_cases q:(i:Int)<a;rw[if_pos q,if_pos oM,K.eq];rw[if_neg q,if_neg oM,(oM:(i:Int)+k=((i+k.toNat:Nat):Int)),K.eq]
theorem Hw(L:List (Int×Int))(Z:0<L.length):[V.K,V.j]≠L.flatMap sp:=by
 cases L with
 |nil=>simp at Z
 |cons s L=>simp[sp]
theorem K5{h:b_}{v:V}{l:List Int}{a k:Int}(w:WF h)(x:Ix h v l ks)(a0:-9223372036854775808<=a)(a1:a<=9223372036854775807)(k0:-9223372036854775808<=k)(k1:k<=9223372036854775807):
 av go 78 [v,ZZ a,ZZ k] h fun u h'=>Fr [] h h'/\∃c d,u=.G [.B [c,d],ZZ (if bS l.length a k then 4 else 0)]/\c.O=true/\d.O=true/\(¬bS l.length a k->Ix h' (.B [c,d]) (aV l a.toNat k.toNat) (aV ks a.toNat k.toNat)):=by
 obtain⟨p,vk,L,rfl,r,s,kn,e1,e2⟩:=x;have ak:=s.be.O;let⟨h1,a5,ar,aH⟩:=au w [pv p,vk];let⟨h2,a4,an,ax⟩:=au ar.r [.K,.j];have ab:=ar.c an;refine ai ?_;simp[a_,<-a5,<-a4,(an.c_ aH).J];refine aa (Lf an.r (r.fr ab) a0 a1 k0 k1) ?_;rintro _ h3 ⟨F3,c,rfl,hc,hr⟩;have ac:=ab.c F3;let⟨h4,a2,ay,a3⟩:=au F3.r [.K];simp[a_,<-a2];apply ao (c':=[c]) ay.r a3 rfl (by simp[aw,V.s,hc]) rfl;rintro h5 o5 F5 n5;have Z:Fr [] h3 h5:=ay.y F5 F3.r (Ve _);have ae:=ac.c Z;have o2:=Z.c_ (F3.c_ ax);by_cases z:bS l.length a k;simp only[a_,seval,eq_true z];apply u_ Z.r o2;rintro h6 o6 F6 n6;simp only[a_,seval,o6.J];exact⟨ae.y F6 w ar.i,.K,.j,by simp[],rfl,rfl,fun q=>absurd trivial q⟩;have z':¬bS ks.length a k:=by rw[e1];exact z
 let⟨c0,c1,c2⟩:=mV z;simp[a_,if_neg z,((an.c (F3.c Z)).c_ aH).o];refine aa (D3 (m:=(l.length:Int)) Z.r (s.be.fr ae) kn.ok oM (fun s hs=>by have:=kn.le s hs;omega) oM c0 oM c1) ?_;rintro _ h6 ⟨F6,y,L',rfl,y1,sL,af,iL,mL⟩;simp[a_,(F6.c_ o5).J];apply aa (sJ F6.r hc y1);rintro _ h7 ⟨F7,rfl⟩;have K:=Z.c (F6.c F7);simp[a_];apply ao (c':=[c,y]) F7.r (K.c_ (F3.c_ ax)) rfl (by simp[aw,V.s,hc,y1]) rfl;rintro h8 o8 F8 n8;simp only[a_,seval,o8.J];have aj:=ac.c K;refine⟨aj.y F8 w ar.i,c,y,by simp[],hc,y1,fun _=>?_⟩;have rr:=(hr z).fr K;let⟨t,p',hp,a7,a6⟩:=rr;simp at hp;subst hp;have K':=kn.cd z' af iL (by rw[e1];exact mL);have ix:Ix h7 (.B [pv p',y]) (aV l a.toNat k.toNat) (aV ks a.toNat k.toNat):=⟨p',y,L',rfl,⟨t,p',rfl,a7,a6⟩,sL.fr F7,K',by rw[gF oM,gF c2];omega,by rw[gF c2];omega⟩;exact ix.aI F8 (K.c_ (F3.c_ ax)) iS Hw
theorem Kv{h:b_}{b:Nat}{a n:Nat}(w:WF h)(f:Fl h b bs)(ha:a+n<=bs.length):
 av go 79 [.u b 0,ZZ (a:Int),ZZ (n:Int)] h fun u h'=>u=ZZ 0/\Fl h' b (aV bs a n)/\Fr [b] h h':=by
 have f0:=f;let⟨ws,o,ok,aj⟩:=f;refine ai ?_;simp[a_];refine aa (mT f0 oM oM) ?_;rintro _ _ ⟨rfl,hh⟩;replace hh:=hh.symm;subst hh;have e:sI bs.length a n=0:=by unfold sI;rw[if_neg oM]
 rw[e];simp[a_];apply aa (uK w f0);rintro _ h2 ⟨bl,⟨c,rfl,ab⟩,F2⟩;let⟨K,s1,b1⟩:=bl.ba iS .i64 a oM oM;let⟨v3,s3,b3⟩:=bl.aO iS .i64 ((a:Int)+n) oM oM;simp only[pi]at b1;rw[(oM:((a:Int)+n).toNat=a+n)]at b3;have c1:=az (Q3.O b1);have c3:=az (Q3.O b3);let⟨h3,af,ac,ae⟩:=au F2.r [K,v3];have e3:k_ h2 [K,v3]=h3:=af.symm;simp(disch:=omega)[a_,g_,ah,s1,s3,c1,c3,e3];have Z:=F2.c ac;have el:([(K,bs.take a),(v3,bs.drop (a+n))]:List (V×List Bool)).flatMap Prod.snd=aV bs a n:=by simp[aV]
 refine aa (rB (Ls:=[(K,bs.take a),(v3,bs.drop (a+n))]) ac.r (f0.fr Z) (Wy (n:=2) ae rfl) ?_ ?_ iS) ?_;intro p hp;simp at hp;obtain rfl|rfl:=hp;exact b1.fr ac;exact b3.fr ac;grind;rintro _ h4 ⟨rfl,f4,F4⟩;rw[el]at f4;simp[a_,DF];exact⟨f4,Z.P F4 w iS (fun x hx=>.inl hx)⟩
theorem xu{h:b_}{b o dl dc n:Nat}{v:V}{c:List V}{K:V->b_->Prop}(w:WF h)(a:f_ h b c)(s:Sl h 1 v n cs)(h1:aw cs=true)(ho:o+dl<=c.length)
 (k:∀h',f_ h' b (c.take o++cs.take (min n dl)++c.drop (o+min n dl))->Fr [b] h h'->h'.i=h.i->K (ZZ (min n dl:Nat)) h'):OQ (nR h 1 (.z b o dl dc) v) K:=by
 have af:cs.length=n:=by have:=s.1;omega
 have sl:R_ v=some n:=by let⟨_,e⟩:=s;cases v<;>simp only[R_]at e|-;all_goals first|exact e.elim|(rw[e.1])|(rw[e])
 have src:0<min n dl->Q9 h 1 v (min n dl)=some (cs.take (min n dl)):=by
  intro hp;let⟨_,e⟩:=s;have ab:∀bb oo d,f_ h bb d->oo+n*1<=d.length->cs=(d.drop oo).take (n*1)->aq h bb oo (min n dl*1)=some (cs.take (min n dl)):=by intro bb oo d od hl e;rw[od.J,bR,bO _ _ oO,e];simp only[WC,WL];congr 2;omega
  cases v<;>simp only[Q9]at e|-;all_goals first|exact e.elim|(let⟨_,_,d,od,hl,e⟩:=e;exact ab _ _ d od hl e)|(omega)
 have ae:Nat.min n dl=min n dl:=rfl;unfold nR;have ac:iK (.z b o dl dc)=some dl:=rfl;rw[ac,sl];simp only[ae];by_cases z:min n dl=0;rw[z]at k|-;simp only[WO,cond_true];refine⟨_,_,rfl,k h ?_ (Vk w) rfl⟩;simpa using a;rw[fD z];simp only[cond_false,src oM];have ht:aw (cs.take (min n dl))=true:=by unfold aw at h1|-;rw[Wo]at h1|-;exact fun x hx=>h1 x (Wl hx)
 have Z:(cs.take (min n dl)).length=min n dl:=by simp;omega
 let⟨h',e1,o1,f1,n1⟩:=ig w a ht (bN c o (cs.take (min n dl)) (by rw[Z];omega));rw[Z]at o1;rw[e1];exact⟨_,_,rfl,k h' o1 f1 n1⟩
theorem yj(c N a:Nat)(h:a<N):aP (.s none 1 true false false) [.z c 0 N N,ZZ (a:Int)]=some (.z c a (N-a) (N-a)):=by
 have Z:aZ N N true false false [ZZ (a:Int)]=some (a,N,none):=by simp[aZ,bZ .i64 (a:Int) N oM oM]
 simp[aP,eJ,Z,fD (oM:N≠a)]
theorem wI(l:List Bool):aw (l.map V.h)=true:=by unfold aw;rw[Wo];intro x Z;obtain⟨b,_,rfl⟩:=VK.1 Z;rfl
theorem Kx{h:b_}{b:Nat}{a n t:Nat}(w:WF h)(f:Fl h b bs)(hn:0<n)(ha:a+n<=bs.length)(ht:t+n<=bs.length):
 av go 170 [.u b 0,ZZ (a:Int),ZZ (n:Int),ZZ (t:Int)] h fun u h'=>u=ZZ 0/\Fl h' b (cG bs a n t)/\Fr [b] h h':=by
 have f0:=f;let⟨ws,o,ok,bf⟩:=f;have q:ag h b 0=some (ZZ (bs.length:Int)):=o.o 0;refine ai ?_;simp[a_];refine aa (mT f0 oM oM) ?_;rintro _ _ ⟨rfl,hh⟩;replace hh:=hh.symm;subst hh;have e:sI bs.length a n=0:=by unfold sI;rw[if_neg oM]
 rw[e];simp(disch:=omega)[a_,ah,(oM:¬(t:Int)<0),q,(oM:¬(bs.length:Int)-n<t)];apply aa (uK w f0);rintro _ h2 ⟨bl,⟨c,rfl,aj⟩,F2⟩;simp[a_];refine(dy _ _ _ _ _ _ _ _ oM oM oM oM).2 ?_;simp;rw[pE];obtain⟨cc,oc,a9,af⟩:∃cc,f_ h2 c cc/\bs.length<=cc.length/\bs.map V.h=cc.take bs.length:=by let⟨_,_,_,cc,oc,hl,he⟩:=bl;exact⟨cc,oc,oM,by simpa using he⟩
 obtain⟨h3,ab⟩:∃h3,h3=k_ h2 (List.replicate n (V.h false)):=⟨_,rfl⟩;have ac:Fr [] h2 h3:=ab▸VL F2.r _;have ar:f_ h3 h2.i (List.replicate n (V.h false)):=ab▸Wi F2.r _;rw[<-ab];have a2:=bl.fr ac;let⟨v1,s1,b1⟩:=a2.aO iS .i64 a oM oM;rw[yj c bs.length a oM]at s1;cases s1;simp at b1;simp[a_,yj c bs.length a oM];apply xu (dl:=n) ac.r ar b1 (wI _) iS;rintro h4 o4 F4 n4;have a1:h2.i≠c:=by have:=oc.lt F2.r;omega
 have ae:Fr [] h2 h4:=ac.y F4 F2.r (Ve _);have mv:J_ h4 (.z h2.i 0 n n) ((bs.drop a).take n):=by
  have hz:(List.take 0 (List.replicate n (V.h false))++List.take (min (bs.drop a).length n) ((bs.drop a).map V.h)++List.drop (0+min (bs.drop a).length n) (List.replicate n (V.h false)))=((bs.drop a).take n).map V.h:=by rw[(oO:min (bs.drop a).length n=n)];simp
  rw[hz]at o4;have:=Wy (esz:=1) (n:=n) o4 oO;have hl:((bs.drop a).take n).length=n:=by simp;omega
  show Sl h4 1 _ ((bs.drop a).take n).length _;rw[hl];simpa using this
 have a6:=bl.fr ae;let⟨v3,s3,b3⟩:=a6.aO iS .i64 ((a:Int)+n) oM oM;rw[(oM:((a:Int)+n).toNat=a+n)]at b3;simp(disch:=omega)[a_,g_,ah,yj c bs.length a oM,s3];apply xu (dl:=bs.length-a) ae.r (ae.c_ oc) b3 (wI _) oM;rintro h5 o5 F5 n5;have hk:min (bs.drop (a+n)).length (bs.length-a)=bs.length-a-n:=by simp;omega
 rw[hk]at o5;have an:Fr [c] h2 h5:=ae.P F5 F2.r iS (fun x hx=>.inl hx);obtain⟨K,ak⟩:∃K,K=bs.take a++bs.drop (a+n)++bs.drop (bs.length-n):=⟨_,rfl⟩;have a4:K.length=bs.length:=by grind
 have a8:(cc.take a++List.take (bs.length-a-n) ((bs.drop (a+n)).map V.h)++cc.drop (a+(bs.length-a-n))).take bs.length=K.map V.h:=by
  have e1:cc.take a=(bs.take a).map V.h:=by rw[Wf,af,WL,WE oM]
  have e2:List.take (bs.length-a-n) ((bs.drop (a+n)).map V.h)=(bs.drop (a+n)).map V.h:=Vm oO;have e3:(cc.drop (bs.length-n)).take n=(bs.drop (bs.length-n)).map V.h:=by rw[VZ,af,Yd];congr 1;omega
  rw[e2,e1,(oM:a+(bs.length-a-n)=bs.length-n),ak,Yi];rw[Vm oO];rw[VF,VF];congr 1;rw[<-e3];congr 1;simp;omega
 have aH:J_ h5 (.z c 0 bs.length bs.length) K:=by refine⟨iS,a4.symm,oM,_,o5,?_,?_⟩;simp;omega;grind
 let⟨v5,s5,b5⟩:=aH.ba iS .i64 t oM oM;let⟨v6,s6,b6⟩:=Sl.aN aH oM iS .i64 .i64 (t:Int) ((bs.length:Int)-n) oM oM oM;simp only[pi]at b5 b6;have a7:J_ h5 (.z h2.i 0 n n) ((bs.drop a).take n):=by let⟨x1,x2,x3,d,od,x4⟩:=mv;exact⟨x1,x2,x3,d,F5.D _ _ (eV a1) od,x4⟩
 have rl:(aV bs a n).length=bs.length-n:=gF ha;have t5:K.take t=(aV bs a n).take t:=by rw[ak];show List.take t (bs.take a++bs.drop (a+n)++bs.drop (bs.length-n))=_;rw[VI oO];simp[aV]
 have t6:(K.drop t).take (bs.length-n-t)=(aV bs a n).drop t:=by rw[ak];show((bs.take a++bs.drop (a+n)++bs.drop (bs.length-n)).drop t).take (bs.length-n-t)=_;rw[Wc oO,VI oO,Vm oO];simp[aV]
 have a0:J_ h5 v6 ((aV bs a n).drop t):=by
  rw[<-t6];show Sl h5 1 v6 _ _;rw[(oM:((bs.length:Int)-n).toNat=bs.length-n)]at b6;have hl:((K.drop t).take (bs.length-n-t)).length=bs.length-n-t:=by simp;omega
  rw[hl];simpa[Wf,VZ]using b6
 have ay:J_ h5 v5 ((aV bs a n).take t):=by grind
 have c5:=az (Q3.O ay);have c6:=az (Q3.O a0);have a3:b≠c:=by
  rintro rfl;have:=congrArg List.length ((F2.c_ o).ae oc);have hh:=af;rw[<-(F2.c_ o).ae oc]at hh;have h0:=congrArg List.head? hh;cases bs with
  |nil=>simp at ha;omega
  |cons x bs=>simp[R3]at h0
 have ax:f_ h5 b (R3 (bs.length:Int) (bs.count true:Int) ws):=an.D _ _ (eV a3) (F2.c_ o);have f5:Fl h5 b bs:=⟨ws,ax,ok,bf⟩;have q5:ag h5 b 0=some (ZZ (bs.length:Int)):=ax.o 0;let⟨h6,bc,Z,ba⟩:=au F5.r [v5,.z h2.i 0 n n,v6];have e6:k_ h5 [v5,.z h2.i 0 n n,v6]=h6:=bc.symm;simp(disch:=omega)[a_,DF,g_,ah,s5,s6,q5,c5,c6,e6];have el:([(v5,(aV bs a n).take t),(.z h2.i 0 n n,(bs.drop a).take n),(v6,(aV bs a n).drop t)]:List (V×List Bool)).flatMap Prod.snd=cG bs a n t:=by simp[cG]
 refine aa (rB (Ls:=[(v5,(aV bs a n).take t),(.z h2.i 0 n n,(bs.drop a).take n),(v6,(aV bs a n).drop t)]) Z.r (f5.fr Z) (Wy (n:=3) ba rfl) ?_ ?_ iS) ?_;intro p hp;simp at hp;obtain rfl|rfl|rfl:=hp;exact ay.fr Z;exact a7.fr Z;exact a0.fr Z;grind;rintro _ h7 ⟨rfl,f7,F7⟩;rw[el]at f7;simp[a_,DF,q5];have a5:Fr [] h h5:=F2.P an w iS (fun x hx=>by simp at hx;subst hx;exact .inr aj);exact⟨f7,(a5.c Z).P F7 w iS (fun x hx=>.inl hx)⟩
theorem ND:2^(F:T l_).av<=1099511627776:=by decide
abbrev ZS:IC:=.o [⟨none,.d [(ZZ 0),(ZZ 0)],some 14⟩,⟨none,.g 2 (.v 14) (.v 54),none⟩]
abbrev ZT:IC:=.d 1 (.o [⟨none,.a 1 false (.v 12),none⟩,⟨none,.p (.b 0) [.v 14],none⟩,⟨none,.a 1 false (.l 0),none⟩,⟨none,.p (.b 1) [.v 14],none⟩,⟨none,.a 1 false (.l 0),none⟩,⟨none,.c 182 [.l 4,.l 2,.l 0,.c (.h true)],none⟩,⟨none,.g 1 (.v 12) (.l 0),none⟩])
theorem BT{y:V}(L:List (Int×Int))(Z:0<L.length):[y]≠L.flatMap sp:=by intro e;have:=congrArg List.length e;rw[aG eQ]at this;simp at this;omega
theorem T9.bF{h:b_}{v:V}{L:List (Int×Int)}{S:List Nat}{B:Nat}(a:T9 h v L)(f:Q6 S B h h')(Z:∀b∈S,∃y,f_ h b [y]):T9 h' v L:=by obtain x|⟨b,e,o,p⟩:=a;exact .inl x;refine .inr ⟨b,e,f.d _ _ (fun q=>?_) o,p⟩;let⟨y,K⟩:=Z b q;exact BT L p (K.ae o)
theorem EE{h:b_}{B b12:Nat}{K:T V}{y:V}{L:List (Int×Int)}{f t m:Int}(w:WF h)(hb:h.S.c_ B=some (.b [54] ZS ZT K 0 none))(aj:K.c_ 12=some (.u b12 0))(oy:f_ h b12 [y])
 (s:T9 h y L) (ok:M6 L (-1)) (hm:m<=8000) (hL:∀s∈L,s.2<=m) (hf:0<=f) (ay:f<=t) (ht:t<=m):
 av go (YB+B) [.B [ZZ f,ZZ t]] h fun u h'=>u=.h true/\Q6 [b12] B h h'/\h'.S.c_ B=some (.b [54] ZS ZT K 0 none)/\∃y' L',f_ h' b12 [y']/\T9 h' y' L'/\M6 L' (-1)/\(∀x,L_ L' x=if f<=x/\x<t then true else L_ L x)/\∀s∈L',s.2<=m:=by
 apply uR ND hb rfl;let⟨h1,a3,a1,a2⟩:=au w [ZZ 0,ZZ 0];have e1:k_ h [ZZ 0,ZZ 0]=h1:=a3.symm;simp only[nQ];simp only[a_,seval,e1];apply u_ a1.r a2;rintro h2 ak an a0;simp only[a_,seval];have Z:Fr [] h h2:=a1.y an w (Ve _);have ab:=Z.lp B _ rfl hb;refine⟨[54],ZS,ZT,K,none,ab,?_⟩;have X3:Q6 [b12] B h2 (K_ h2 B (.b [54] ZS ZT K 1 none)):=XP Z.r ab rfl _;obtain⟨h3,e3⟩:∃h3,h3=K_ h2 B (.b [54] ZS ZT K 1 none):=⟨_,rfl⟩;rw[<-e3]at X3;rw[<-e3];have ac:Q6 [] B h2 h3:=by rw[e3];exact XP Z.r ab rfl _
 have ar:h3.S.c_ B=some (.b [54] ZS ZT K 1 none):=by rw[e3];exact jI _ _ _
 have ae:f_ h3 b12 [y]:=ac.d _ _ iS (Z.c_ oy);have ax:f_ h3 h.i [ZZ f,ZZ t]:=ac.d _ _ iS ak;simp only[a_,seval,aj,ae.o,ax.o];apply aa (qN (m:=m) X3.e ((s.fr Z).bF ac iS) ok hm hL hf ay ht);rintro y' h4 ⟨F4,L',o1,sL,aH,iL,mL⟩;simp only[a_,seval,aj];refine ao (c':=[y']) F4.r (F4.c_ ae) (by rw[az o1];rfl) (by rw[az o1];simp[aw,o1]) (by rw[az o1];rfl) ?_;rintro h5 o5 F5 n5;simp only[a_];have af:=F5.lp B _ rfl (F4.lp B _ rfl ar);refine⟨[54],ZS,ZT,K,1,none,af,?_,jI _ _ _,?_⟩;exact((Z.b iS).a (X3.a ((F4.b iS).a (F5.b iS)))).a (XP F5.r af rfl _);have X6:Q6 [] B h5 (K_ h5 B (.b [54] ZS ZT K 0 none)):=XP F5.r af rfl _;exact⟨y',L',X6.d _ _ iS o5,(sL.aI F5 (F4.c_ ae) BT).bF X6 iS,aH,iL,mL⟩
theorem JL{h:b_}{v:V}{a t k:Int}(w:WF h)(hv:v.O=true):
 av go 229 [v,ZZ a,ZZ t,ZZ k] h fun u h'=>∃b1 b2 b3 b4,u=.I (.func 264) [] [.u b1 0,.u b2 0,.u b3 0,.u b4 0]/\f_ h' b1 [v]/\f_ h' b2 [ZZ a]/\f_ h' b3 [ZZ k]/\f_ h' b4 [ZZ t]/\Fr [] h h'/\h.i<=b1/\h.i<=b2/\h.i<=b3/\h.i<=b4:=by
 let⟨h1,a3,ak,ay⟩:=au w [v];let⟨h2,a2,af,a1⟩:=au ak.r [ZZ a];let⟨h3,a0,aj,aH⟩:=au af.r [ZZ t];let⟨h4,ar,an,ax⟩:=au aj.r [ZZ k];have ae:=ak.i;have ac:=af.i;have ab:=aj.i;refine ai ?_;simp only[a_,seval,az hv,<-a3,<-a2,<-a0,<-ar];have Z:=aj.c an;have K:=af.c Z;exact⟨_,_,_,_,rfl,K.c_ ay,Z.c_ a1,ax,an.c_ aH,ak.c K,oM,oM,oM,oM⟩
theorem Hj{h:b_}{B b1 b2 b3 b4:Nat}{v:V}{L:List (Int×Int)}{a t k:Int}(J:Nat->b_->Prop)
 (hJ:∀i hh,J i hh->WF hh/\f_ hh b1 [v]/\f_ hh b2 [ZZ a]/\f_ hh b3 [ZZ k]/\f_ hh b4 [ZZ t]/\Sp hh v L)
 (ar:∀i hh h',J i hh->Fr [] hh h'->J i h')
 (ac:∀(i:Nat) s hh,L[i]? =some s->J i hh->if max s.1 a+k<min s.2 t+k then av go (YB+B) [.B [ZZ (max s.1 a+k),ZZ (min s.2 t+k)]] hh (fun u h'=>u=.h true/\J (i+1) h')else J (i+1) hh)
 (hL:∀s∈L,0<=s.1/\s.1<s.2/\s.2<=1073741824) (ha:0<=a) (a0:a<=1073741824) (ht:0<=t) (ay:t<=1073741824) (hk:-1073741824<=k) (aH:k<=1073741824) (h0:J 0 h) (hl:L.length<=4096):
 av go 264 [.ak B,.u b1 0,.u b2 0,.u b3 0,.u b4 0] h fun u h'=>u=.G []/\J L.length h':=by
 let⟨w,o1,_,_,_,s⟩:=hJ 0 h h0;refine ai ?_;simp[a_,o1.o,s.M];refine aC (fun n env hh=>∃i:Nat,env.c_ 0=some (.ak B)/\env.c_ 2=some (.u b2 0)/\env.c_ 3=some (.u b3 0)/\env.c_ 4=some (.u b4 0)/\env.c_ 8=some v/\env.c_ 9=some (ZZ L.length)/\env.c_ 10=some (ZZ i)/\i<=L.length/\J i hh/\n=L.length-i) L.length oM ?_ ?_
 ·exact⟨0,iS,iS,iS,iS,iS,iS,iS,oM,h0,rfl⟩
 ·rintro n env hh ⟨i,g0,g2,g3,g4,g8,g9,ab,hi,j,rfl⟩;let⟨w,o1,o2,o3,o4,s⟩:=hJ i hh j;by_cases ae:(i:Int)<L.length
  ·let⟨bb,oo,x,e1,e2,e3,e4,e5⟩:=Sp.ix s i ae;have hx:=hL x (Vg e5);let⟨h2,a3,a1,a2⟩:=au w [ZZ 0,ZZ 0];simp only[a_,seval,g8,g9,ab,ae,e1,e4,<-a3];refine u_ a1.r a2 ?_;rintro h3 Z an ax;have F3:Fr [] hh h3:=a1.y an w (Ve _);simp(disch:=omega) only[a_,seval,g_,ah,g2,g3,g4,Z.o,(F3.c_ o2).o,(F3.c_ o3).o,(F3.c_ o4).o];refine u_ F3.r Z ?_;rintro h4 ak aj n4;have F4:Fr [] hh h4:=F3.y aj w (Ve _);simp only[a_,seval,g_];refine u_ F4.r ak ?_;rintro h5 K af n5;have F5:Fr [] hh h5:=F4.y af w (Ve _);have st:=ac i x h5 e5 (ar i hh h5 j F5);by_cases c:max x.1 a+k<min x.2 t+k
   ·rw[if_pos c]at st;simp only[a_,seval,DF,g0,g2,g3,g4,Z.o,(F3.c_ o2).o,(F3.c_ o3).o,(F3.c_ o4).o,(F4.c_ o3).o,(F4.c_ o4).o,K.o,K.J,eq_true c,CM];refine aa st ?_;rintro _ h6 ⟨rfl,j6⟩;simp(disch:=omega) only[a_,seval,ah,ab];refine t_ ⟨L.length-(i+1),oM,i+1,iX,iX,iX,iX,iX,iX,iS,oM,j6,rfl⟩
    done
   ·rw[if_neg c]at st;simp(disch:=omega) only[a_,seval,DF,ah,g2,g3,g4,ab,Z.o,(F3.c_ o2).o,(F3.c_ o3).o,(F3.c_ o4).o,(F4.c_ o3).o,(F4.c_ o4).o,K.o,eq_false c];refine t_ ⟨L.length-(i+1),oM,i+1,iX,iX,iX,iX,iX,iX,iS,oM,st,rfl⟩
    done
  ·have:i=L.length:=oM
   subst this;simp[a_,g9,ab];exact j
theorem FrB.a{S:List Nat}{B:Nat}{h:b_}(w:WF h)(f:Fr [] h h1)(a:Q6 S B h1 h2)(hB:h.i<=B):Fr S h h2:=
 ⟨VC f.i a.g,a.e,fun b c hb o=>a.d b c hb (f.c_ o),fun b c hb o=>a.j b c hb (f.pl b c iS o),
  fun b x hx e=>a.i b x (by rintro rfl;rw[(w _ hB).1]at e;cases e) hx (f.lp b x hx e),fun b c r=>a.l b c (f.ro b c r)⟩
def s?(a k d:Int)(L:List (Int×Int))(x:Int):Bool:=L.any fun s=>decide (max s.1 a+d<=x)&&decide (x<min s.2 (a+k)+d)
theorem Ak{a k d:Int}{L:List (Int×Int)}{i:Nat}{s:Int×Int}(e:L[i]? =some s)(x:Int):s? a k d (L.take (i+1)) x=(s? a k d (L.take i) x||(decide (max s.1 a+d<=x)&&decide (x<min s.2 (a+k)+d))):=by unfold s?;rw[Vs,e,List.any_append];simp
theorem JK(a k d:Int)(L:List (Int×Int))(x:Int):s? a k d L x=(decide (a+d<=x)&&decide (x<a+k+d)&&L_ L (x-d)):=by unfold s? L_;rw[Xr];simp only[Yg,Vd,decide_eq_true_eq];constructor;grind;grind
theorem JF{h:b_}{en:T V}{Q:Ex->T V->b_->Prop}{b1 b2 b3 b4 b12:Nat}{v y:V}{L L2:List (Int×Int)}{a k t m:Int}(w:WF h)
 (af:en.c_ 53=some (.I (.func 264) [] [.u b1 0,.u b2 0,.u b3 0,.u b4 0])) (an:en.c_ 12=some (.u b12 0))
 (o1:f_ h b1 [v]) (o2:f_ h b2 [ZZ a]) (o3:f_ h b3 [ZZ (t-a)]) (o4:f_ h b4 [ZZ (a+k)]) (ab:f_ h b12 [y])
 (n1:b1≠b12) (n2:b2≠b12) (n3:b3≠b12) (n4:b4≠b12) (s:T9 h v L) (ok:M6 L (-1)) (mL:∀s∈L,s.2<=m) (s2:T9 h y L2) (ak:M6 L2 (-1)) (m2:∀s∈L2,s.2<=m)
 (hm:m<=8000) (ha:0<=a) (hk:0<=k) (ht:0<=t) (a2:a+k<=m) (a1:t+k<=m)
 (K:∀h' y' L',Fr [b12] h h'->f_ h' b12 [y']->T9 h' y' L'->M6 L' (-1)->(∀x,L_ L' x=(L_ L2 x||s? a k (t-a) L x))->(∀s∈L',s.2<=m)->Q .a en h'):
 W go (.s (.v 53) [54] ZS ZT) en h Q:=by
 refine Ox (f:=264) (first:=[]) (caps:=[.u b1 0,.u b2 0,.u b3 0,.u b4 0]) ?_ oM ?_;simp[jn];exact af;obtain⟨h1,e1⟩:∃h1,h1=T4 h (.b [54] ZS ZT en 0 none):=⟨_,rfl⟩;rw[<-e1];have F1:Fr [] h h1:=by rw[e1];exact Fr.aP w _
 have ar:h1.S.c_ h.i=some (.b [54] ZS ZT en 0 none):=by rw[e1];exact jJ _ _
 have ac:=ok.e hm mL;refine aa (Hj (B:=h.i) (L:=L) (a:=a) (t:=a+k) (k:=t-a) (b1:=b1) (b2:=b2) (b3:=b3) (b4:=b4) (v:=v)
  (fun i hh=>Q6 [b12] h.i h1 hh/\hh.S.c_ h.i=some (.b [54] ZS ZT en 0 none)/\∃y' L',f_ hh b12 [y']/\T9 hh y' L'/\M6 L' (-1)/\(∀x,L_ L' x=(L_ L2 x||s? a k (t-a) (L.take i) x))/\∀s∈L',s.2<=m)
  ?_ ?_ ?_ (fun s hs=>?_) ha oM oM oM oM oM ?_ ac) ?_
 rintro i hh ⟨X,lp,y',L',oy,_⟩;refine⟨X.e,X.d _ _ (eV n1) (F1.c_ o1),X.d _ _ (eV n2) (F1.c_ o2),X.d _ _ (eV n3) (F1.c_ o3),X.d _ _ (eV n4) (F1.c_ o4),?_⟩;exact((s.fr F1).bF X (fun b hb=>by simp at hb;subst hb;exact⟨y,F1.c_ ab⟩)).be;rintro i hh h' ⟨X,lp,y',L',oy,sy,Z,iy,my⟩ F;exact⟨X.a (F.b iS),F.lp _ _ rfl lp,y',L',F.c_ oy,sy.fr F,Z,iy,my⟩;rintro i x hh e5 ⟨X,lp,y',L',oy,sy,Z,iy,my⟩;have hx:=ok.h x (Vg e5);by_cases c:max x.1 a+(t-a)<min x.2 (a+k)+(t-a);rw[if_pos c];apply aa (EE (m:=m) X.e lp an oy sy Z hm my oM oM oM);rintro _ h' ⟨rfl,X',ax,y2,L3,a0,aH,ae,aj,ay⟩;refine⟨rfl,X.a X',ax,y2,L3,a0,aH,ae,fun z=>?_,ay⟩;rw[aj,iy,Ak e5];by_cases d:max x.1 a+(t-a)<=z/\z<min x.2 (a+k)+(t-a);grind;grind;rw[if_neg c];refine⟨X,lp,y',L',oy,sy,Z,fun z=>?_,my⟩;rw[iy,Ak e5];have:(decide (max x.1 a+(t-a)<=z)&&decide (z<min x.2 (a+k)+(t-a)))=false:=by simp;omega
 rw[this,XL];have:=ok.h s hs;exact⟨this.2.1,this.2.2.1,this.2.2.2⟩;exact⟨(Vk F1.r:Fr [] h1 h1).b iS,ar,y,L2,F1.c_ ab,s2.fr F1,ak,fun x=>by simp[s?],m2⟩;rintro _ h2 ⟨rfl,X,lp,y',L',oy,sy,Z,iy,my⟩;refine⟨_,_,_,_,_,_,lp,oM,?_⟩;have X6:Q6 [] h.i h2 (K_ h2 h.i .d):=XP X.e lp rfl _;have X7:Q6 [b12] h.i h2 (K_ h2 h.i .d):=XP X.e lp rfl _;refine K _ y' L' (FrB.a w F1 (X.a X7) (Ve _)) (X6.d _ _ iS oy) (sy.bF X6 iS) Z (fun x=>?_) my;rw[iy,Wz]
theorem Hz{l:List α}{a k t:Nat}(h:a+k<=l.length)(ht:t+k<=l.length)(i:Nat):(cG l a k t)[i]? =if i<t then(aV l a k)[i]? else if i<t+k then l[a+(i-t)]? else(aV l a k)[i-k]? :=by
 have Z:=gF h;unfold cG;have l1:((aV l a k).take t).length=t:=by simp;omega
 have l2:((l.drop a).take k).length=k:=by simp;omega
 by_cases c:i<t;grind;grind
theorem jF(l:List α)(a k t:Nat):(cG l a k t).length=l.length:=(wO l a k t).length_eq
theorem Kn.cc{L L1 L2 L':List (Int×Int)}{a k t:Int}(K:Kn L ks)(c:¬dt ks.length a k t)(ok:M6 L' (-1))(e1:∀x,L_ L1 x=t? a k (L_ L) x)(e2:∀x,L_ L2 x=C? t k (L_ L1) x)
 (e:∀x,L_ L' x=(L_ L2 x||s? a k (t-a) L x)) (le:∀s∈L',s.2<=(ks.length:Int)):Kn L' (cG ks a.toNat k.toNat t.toNat):=by
 have c':¬bS ks.length a k:=fun q=>c (.inl q);let⟨c0,c1,c2⟩:=mV c';have ht:0<=t/\t<=(ks.length:Int)-k:=by unfold dt at c;omega
 refine⟨ok,fun s hs=>by rw[jF];exact le s hs,fun i=>?_⟩;rw[e,e2,JK,Wg,Hz c2 oM];unfold C?;by_cases q:(i:Int)<t;rw[if_pos q,if_pos (oM:i<t.toNat),e1,<-Wg,qJ oM];have:(decide (a+(t-a)<=(i:Int)))=false:=by simp;omega
 rw[this];simp only[Bool.false_and,XL];unfold t?;by_cases Z:(i:Int)<a;rw[if_pos Z,if_pos oM,K.eq];rw[if_neg Z,if_neg oM,(oM:(i:Int)+k=((i+k.toNat:Nat):Int)),K.eq];rw[if_neg q,if_neg (oM:¬i<t.toNat)];by_cases q3:(i:Int)<t+k;rw[if_pos q3,if_pos (oM:i<t.toNat+k.toNat),Xj,(oM:(i:Int)-(t-a)=((a.toNat+(i-t.toNat):Nat):Int)),K.eq];have h1:(decide (a+(t-a)<=(i:Int)))=true:=by simp;omega
 have h2:(decide ((i:Int)<a+k+(t-a)))=true:=by simp;omega
 rw[h1,h2,Wg];simp;rw[if_neg q3,if_neg (oM:¬i<t.toNat+k.toNat),(oM:(i:Int)-k=((i-k.toNat:Nat):Int)),e1,<-Wg,qJ oM];have:(decide ((i:Int)<a+k+(t-a)))=false:=by simp;omega
 rw[this];simp only[Bool.and_false,Bool.false_and,XL];unfold t?;by_cases Z:((i-k.toNat:Nat):Int)<a;rw[if_pos Z,if_pos oM,K.eq];rw[if_neg Z,if_neg oM,(oM:((i-k.toNat:Nat):Int)+k=((i-k.toNat+k.toNat:Nat):Int)),K.eq]
theorem K6{h:b_}{v:V}{l:List Int}{a k t:Int}(w:WF h)(x:Ix h v l ks)(a0:-9223372036854775808<=a)(a1:a<=9223372036854775807)(k0:-9223372036854775808<=k)(k1:k<=9223372036854775807)
 (t0:-9223372036854775808<=t) (t1:t<=9223372036854775807):
 av go 169 [v,ZZ a,ZZ k,ZZ t] h fun u h'=>Fr [] h h'/\∃c d,u=.G [.B [c,d],ZZ (if dt l.length a k t then 4 else 0)]/\c.O=true/\d.O=true/\
  (¬dt l.length a k t->Ix h' (.B [c,d]) (cG l a.toNat k.toNat t.toNat) (cG ks a.toNat k.toNat t.toNat)):=by
 obtain⟨p,vk,L,rfl,r,s,kn,e1,e2⟩:=x;have bk:=s.O;let⟨h1,cb,bT,b7⟩:=au w [pv p,vk];let⟨h2,ca,bE,bV⟩:=au bT.r [.K,.j];have ay:=bT.c bE;refine ai ?_;simp[a_,<-cb,<-ca,(bE.c_ b7).J];refine aa (Lg bE.r (r.fr ay) a0 a1 k0 k1 t0 t1) ?_;rintro _ h3 ⟨F3,c,rfl,hc,hr⟩;have af:=ay.c F3;let⟨h4,ce,bW,cc⟩:=au F3.r [.K];simp[a_,<-ce];apply ao (c':=[c]) bW.r cc rfl (by simp[aw,V.s,hc]) rfl;rintro h5 o5 F5 n5;have Z:Fr [] h3 h5:=bW.y F5 F3.r (Ve _);have a4:=af.c Z;have o2:=Z.c_ (F3.c_ bV);by_cases z:dt l.length a k t;simp only[a_,seval,eq_true z];apply u_ Z.r o2;rintro h6 o6 F6 n6;simp only[a_,seval,o6.J];exact⟨a4.y F6 w bT.i,.K,.j,by simp[],rfl,rfl,fun q=>absurd trivial q⟩;have z':¬dt ks.length a k t:=by rw[e1];exact z
 have zc:¬bS l.length a k:=fun q=>z (.inl q);let⟨c0,c1,c2⟩:=mV zc;have ht:0<=t/\t<=(l.length:Int)-k:=by unfold dt at z;omega
 have a9:=(bE.c (F3.c Z)).c_ b7;simp[a_,if_neg z,a9.o];refine aa (D3 (m:=(l.length:Int)) Z.r (s.be.fr a4) kn.ok oM (fun s hs=>by have:=kn.le s hs;omega) oM c0 oM c1) ?_;rintro _ h6 ⟨F6,y,L1,rfl,y1,sL,bj,iL,mL⟩;let⟨h7,b9,b6,ch⟩:=au F6.r [.j];simp[a_,<-b9];refine ao (c':=[y]) b6.r ch (by rw[az y1];rfl) (by rw[az y1];simp[aw,y1]) (by rw[az y1];rfl) ?_;rintro h8 o8 F8 n8;have aj:Fr [] h6 h8:=b6.y F8 F6.r (Ve _);simp[a_,o8.o];apply aa (D5 (m:=(l.length:Int)-k) aj.r (sL.be.fr aj) bj oM mL oM ht.1 oM c1);rintro _ h9 ⟨F9,y2,L2,rfl,ac,bh,a5,br,bm⟩;simp[a_];refine ao (c':=[y2]) F9.r (F9.c_ o8) (by rw[az ac];rfl) (by rw[az ac];simp[aw,ac]) (by rw[az ac];rfl) ?_;rintro bf a6 a3 bA;have ab:Fr [] h6 bf:=(aj.c F9).y a3 F6.r (Ve _);have a7:=F6.c ab;have bp:=Z.c a7;simp(disch:=omega)[a_,ah,(a7.c_ a9).o];apply aa (JL ab.r bk);rintro _ bB ⟨b1,b2,b3,b4,rfl,q1,q2,q3,q4,K,m1,m2,m3,m4⟩;have bC:=a6.lt ab.r;have hn:=K.i;simp[a_];refine JF (v:=vk) (L:=L) (L2:=L2) (y:=y2) (a:=a) (k:=k) (t:=t) (m:=(l.length:Int)) (b12:=h6.i) K.r (iS) (iS) q1 q2 q3 q4 (K.c_ a6) oM oM oM oM
  (s.fr (af.c (bp.c K))) kn.ok (fun s hs=>by have:=kn.le s hs;omega) ((bh.aI a3 (F9.c_ o8) BT).fr K) a5 (fun s hs=>by have:=bm s hs;omega) oM c0 c1 ht.1 oM oM ?_
 rintro bo y3 L3 ar bv a2 a8 bc bi;have bg:Fr [] h6 bo:=(ab.c K).y ar F6.r (Ve _);have aH:=F6.c bg;have bw:=Z.c aH;have an:=a2.O;simp[a_,(aH.c_ o5).J,bv.o];apply aa (sJ ar.r hc an);rintro _ ba ⟨ak,rfl⟩;have ae:=bw.c ak;simp[a_];apply ao (c':=[c,y3]) ak.r (ae.c_ (F3.c_ bV)) rfl (by simp[aw,V.s,hc,an]) rfl;rintro bz bt ax bD;simp only[a_,seval,bt.J];have bn:=af.c ae;refine⟨bn.y ax w bT.i,c,y3,by simp[],hc,an,fun _=>?_⟩;have rr:=(hr z).fr ae;let⟨t',p',hp,cj,ci⟩:=rr;simp at hp;subst hp;have K':=kn.cc z' a8 iL br bc (by rw[e1];exact bi);have ix:Ix ba (.B [pv p',y3]) (cG l a.toNat k.toNat t.toNat) (cG ks a.toNat k.toNat t.toNat):=⟨p',y3,L3,rfl,⟨t',p',rfl,cj,ci⟩,a2.fr ak,K',by rw[jF,jF];omega,by rw[jF];omega⟩;exact ix.aI ax (ae.c_ (F3.c_ bV)) iS Hw
def P3(h:b_)(b:Nat)(pm:Option Nat)(l:List Int)(ks bs:List Bool):Prop:=∃p vk,f_ h b [pv p,vk,pv pm]/\vk.O=true/\Ix h (.B [pv p,vk]) l ks/\Mk h pm bs/\bs.length=l.length
theorem P3.lo{h:b_}{b:Nat}{l:List Int}(a:P3 h b pm l ks bs):Lo h b l ks bs:=by let⟨p,Z,x⟩:=a;exact⟨p,Z,pm,x⟩
theorem Lo.p{h:b_}{b:Nat}{l:List Int}(a:Lo h b l ks bs):∃pm,P3 h b pm l ks bs:=by let⟨p,Z,pm,x⟩:=a;exact⟨pm,p,Z,x⟩
theorem P3.fr{h:b_}{b:Nat}{l:List Int}(a:P3 h b pm l ks bs)(f:Fr [] h h'):P3 h' b pm l ks bs:=by let⟨p,Z,o,K,ix,mk,e⟩:=a;exact⟨p,Z,f.c_ o,K,ix.fr f,mk.fr f,e⟩
abbrev Y_(b:Nat)(pm:Option Nat)(h h':b_):Prop:=Fr (b::pm.toList) h h'
theorem Zy{h:b_}{b:Nat}(f:Fr [] h h'):Y_ b pm h h':=⟨f.i,f.r,fun _ _ _ o=>f.c_ o,fun _ _ _ o=>f.pl _ _ iS o,f.lp,f.ro⟩
theorem Y_.b{h:b_}{b:Nat}(a:Y_ b pm h h1)(f:Fr [b] h1 h2)(w:WF h):Y_ b pm h h2:=Vn a f w (fun x hx=>.inl hx) (fun x hx=>.inl (by simp at hx;simp[hx]))
theorem Y_.q{h:b_}{b q:Nat}(a:Y_ b pm h h1)(f:Fr [q] h1 h2)(w:WF h)(K:pm=some q\/h.i<=q):Y_ b pm h h2:=by refine Vn a f w (fun x Z=>.inl Z) (fun x Z=>?_);simp at Z;subst Z;obtain e|e:=K;left;simp[e];exact .inr e
theorem Y_.c{h:b_}{b:Nat}(a:Y_ b pm h h1)(f:Fr [] h1 h2)(w:WF h):Y_ b pm h h2:=Vn a f w (fun x hx=>.inl hx) iS
theorem vw{h:b_}{b:Nat}{l m:List Int}{st:List Bool}{i:Int}{u v:V}(w:WF h)(a:P3 h b pm l ks bs)(am:qz h u m)(as:J_ h v st)(hm:m.length<=1000000)(bp:st.length=m.length)(i0:-9223372036854775808<=i)(i1:i<=9223372036854775807):
 av go 167 [.u b 0,ZZ i,u,v] h fun z h'=>z=ZZ (cC l i m)/\Y_ b pm h h'/\∃pm',(pm'=pm\/(pm=none/\∀q,pm'=some q->h.i<=q))/\(if cC l i m=0 then P3 h' b pm' (l.take i.toNat++m++l.drop i.toNat) (ks.take i.toNat++List.replicate m.length false++ks.drop i.toNat) (bs.take i.toNat++st++bs.drop i.toNat)else P3 h' b pm' l ks bs):=by
 have al:=a;let⟨p,vk,o,v1,ix,mk,e⟩:=a;have bk:((m.length:Nat):Int)=st.length:=oM
 refine ai ?_;simp only[a_,seval,am.A_,as.A_,eq_true bk,o.J];refine aa (K7 w ix am hm i0 i1) ?_;rintro _ K ⟨F1,c,d,rfl,hc,hd,hx⟩;let⟨h2,bv,br,bw⟩:=au F1.r [.K,.j];simp only[a_,seval,<-bv];apply ao (c':=[c,d]) br.r bw rfl (by simp[aw,V.s,hc,hd]) rfl;rintro h3 o3 F3 n3;have ae:Fr [] K h3:=br.y F3 F1.r (Ve _);have Z:=F1.c ae;by_cases z:cC l i m=0
 ·have ak:=hx z;obtain⟨p',rfl⟩:=ak.bg;have hi:0<=i/\i<=l.length/\l.length+m.length<=1024:=by
   unfold cC at z;by_cases c1:0<=i/\i<=l.length
   ·omega
   ·omega
  by_cases c0:(m.length:Int)=0
  ·have bn:m=[]:=VH.1 oM;have bm:st=[]:=VH.1 oM;subst bn bm;simp only[a_,seval,eq_true z,am.A_];refine⟨Zy Z,pm,.inl rfl,?_⟩;simpa using al.fr Z
  ·obtain⟨k,rfl⟩:∃k:Nat,i=k:=⟨i.toNat,oM⟩;simp only[pi]at hx ak|-;have blt:b<K.i:=Wn (o.lt w) F1.i;have a5:=ix.aJ;have a1:=ix.bC
   -- the marks are there
   cases pm
   case' none=>
    have mk:bs=[]:=mk;simp only[a_,seval,eq_true z,am.A_,eq_false c0,(Z.c_ o).o];apply aa (Kw ae.r);rintro _ h4 ⟨q,rfl,hq,bc,F4⟩;simp only[a_,seval];have ac:=Z.c F4;apply u_ F4.r (ac.c_ o);rintro H oH F5 n5;have FH:Y_ b none h H:=(Zy ac).b F5 w;have ar:(none:Option Nat)=some q\/h.i<=q:=.inr (VC Z.i hq);have aH:some q=(none:Option Nat)\/((none:Option Nat)=none/\∀q',some q=some q'->h.i<=q'):=.inr ⟨rfl,fun q' e=>by cases e;exact VC Z.i hq⟩;have ab:Fl H q bs:=Mk.aI (pm:=some q) (show Mk h4 (some q) bs from mk▸bc) F5 (ac.c_ o) rfl;have a7:=(ak.fr (ae.c F4)).aI F5 (ac.c_ o) iS (Ap (wK a5));have ax:=F5.D _ _ oO (F4.c_ o3);have a2:=J_.bR (as.fr ac) F5 (ac.c_ o) oH (R? a1) rfl;have a0:=F5.r;simp only[a_,seval,oH.o,am.A_]
   case' some q=>
    have ab:Fl h3 q bs:=Fl.fr mk Z;obtain⟨H,eH⟩:∃H,H=h3:=⟨h3,rfl⟩;have oH:f_ H b [pv p,vk,.u q 0]:=eH▸Z.c_ o;have FH:Y_ b (some q) h H:=eH▸Zy Z;have ar:some q=some q\/h.i<=q:=.inl rfl;have aH:some q=some q\/(some q=none/\∀q',some q=some q'->h.i<=q'):=.inl rfl;have a7:=eH▸ak.fr ae;have ax:=eH▸o3;have a2:=eH▸as.fr Z;have a0:WF H:=eH▸ae.r;rw[<-eH]at ab;simp only[a_,seval,eq_true z,am.A_,eq_false c0,(Z.c_ o).o,aU];rw[<-eH]
   all_goals
    have qb:q≠b:=by
     rintro rfl;let⟨ws,oq,ok,_⟩:=ab;have:=congrArg List.length (oq.ae oH);rw[dU,ok.A_]at this;simp at this
    apply aa (Kz (a:=k) (n:=m.length) (v:=false) a0 ab oM oM);rintro _ h6 ⟨rfl,a3,F6⟩;have an:=F6.D _ _ oO oH;have ix6:=a7.bt F6 ab;have qx:q≠K.i:=by
     rintro rfl;let⟨ws,oq,ok,_⟩:=ab;have:=congrArg List.length (oq.ae ax);rw[dU,ok.A_]at this;simp at this
    have bj:=F6.D _ _ oO ax;have a8:J_ h6 v st:=by
     let⟨ws,oq,ok,_⟩:=ab;let⟨bz,bt,ok',_⟩:=a3;exact J_.aI a2 F6 oq bt (by rw[ok'.A_,ok.A_])
    simp only[a_,seval,bj.J];apply ao (c':=[pv p',d,.u q 0]) F6.r an rfl (by simp[aw,V.s,hc,hd]) rfl;rintro h7 o7 F7 n7;have bg:Fl h7 q _:=Mk.aI (pm:=some q) a3 F7 an rfl;have bh:=ix6.aI F7 an iS (Ap (wK (pm:=some q) a5));have a6:=J_.bR a8 F7 an o7 (R? (pm:=some q) a1) rfl;have bo:=(FH.q F6 w ar).b F7 w;simp only[a_,seval,a6.A_];obtain⟨PP,a9,bf,ba,bi⟩:∃PP:b_->Prop,PP h7/\(∀K h2,PP K->Fr [q] K h2->PP h2)/\(∀K,PP K->WF K)/\(∀K,PP K->Y_ b _ h K):=⟨_,bo,fun K h2 x f=>Y_.q x f w ar,fun K x=>Fr.r x,fun K x=>x⟩;refine aC (fun n env hh=>∃j:Nat,env.c_ 71=some (ZZ j)/\env.c_ 70=some (ZZ st.length)/\env.c_ 69=some v/\env.c_ 0=some (.u b 0)/\env.c_ 1=some (ZZ k)/\j<=st.length/\PP hh/\
     f_ hh b [pv p',d,.u q 0]/\Fl hh q (bs.take k++(st.take j++List.replicate (st.length-j) false)++bs.drop k)/\Ix hh (.B [pv p',d]) (l.take k++m++l.drop k) (ks.take k++List.replicate m.length false++ks.drop k)/\J_ hh v st/\n=st.length-j) st.length oM ?_ ?_
    ·exact⟨0,iS,iS,iS,iS,iS,oM,a9,o7,by simpa[bp]using bg,bh,a6,rfl⟩
    ·rintro n env hh ⟨j,aj,ay,a4,g0,g1,hj,FF,oo,ff,ii,ss,rfl⟩;by_cases af:(j:Int)<st.length
     ·let⟨bb,bA,x,q1,q2,q3⟩:=ss.ix .i64 j oM af;simp at q3;cases x
      ·simp(disch:=omega) only[a_,seval,ah,aj,ay,a4,af,q1,q2];rw[EO q3]at ff;refine t_ ⟨st.length-(j+1),oM,j+1,iS,iX,iX,iX,iX,oM,FF,oo,ff,ii,ss,rfl⟩
       done
      ·simp(disch:=omega) only[a_,seval,ah,aj,ay,a4,g0,g1,af,q1,q2,oo.o];apply aa (Dt (ba _ FF) ff oM oM);rintro _ h8 ⟨rfl,f8,F8,n8⟩;have lf:(k:Int)+j<((bs.take k++(st.take j++List.replicate (st.length-j) false)++bs.drop k).length:Nat):=by simp;omega
       rw[if_pos ⟨oM,lf⟩,(oM:((k:Int)+j).toNat=k+j),Ki oM _ q3]at f8;simp(disch:=omega) only[a_,seval,ah,aj];have o8:=F8.D _ _ oO oo;have s8:J_ h8 v st:=by
        let⟨ws,oq,ok,_⟩:=ff;let⟨bz,bt,ok',_⟩:=f8;exact J_.aI ss F8 oq bt (by rw[ok'.A_,ok.A_])
       refine t_ ⟨st.length-(j+1),oM,j+1,iS,iX,iX,iX,iX,oM,bf _ _ FF F8,o8,f8,ii.bt F8 ff,s8,rfl⟩
       done
     ·simp only[a_,seval,aj,ay,af];have ej:j=st.length:=oM
      subst ej;simp only[Wz,WP,Yk,Wk]at ff;refine⟨by first|rw[z]|trivial,bi _ FF,some q,(by first|exact aH|simpa using aH),?_⟩
      try rw[if_pos z]
      exact⟨p',d,oo,hd,ii,ff,by simp;omega⟩
 ·simp only[a_,seval,eq_false z];exact⟨Zy Z,pm,.inl rfl,al.fr Z⟩
theorem P3.qb{h:b_}{b q:Nat}{l:List Int}(a:P3 h b (some q) l ks bs):b≠q:=by let⟨p,vk,o,v1,ix,mk,e⟩:=a;rintro rfl;let⟨K,Z,ok,_⟩:=(mk:Fl h b bs);have:=congrArg List.length (Z.ae o);rw[dU,ok.A_]at this;simp at this
theorem BC{h:b_}{b:Nat}{l:List Int}{i size:Int}{kn:Bool}(w:WF h)(a:P3 h b pm l ks bs)(s0:-9223372036854775808<=size)(s1:size<=9223372036854775807)(i0:-9223372036854775808<=i)(i1:i<=9223372036854775807):
 av go 54 [.u b 0,ZZ i,ZZ size,.h kn] h fun u h'=>u=ZZ (fF l i size)/\(if fF l i size=0 then P3 h' b pm (l.set i.toNat size) (ks.set i.toNat kn) bs else P3 h' b pm l ks bs)/\Y_ b pm h h':=by
 have al:=a;let⟨p,vk,o,v1,ix,mk,e⟩:=a;refine ai ?_;simp[a_,o.J];refine aa (K4 w ix s0 s1 i0 i1) ?_;rintro _ h1 ⟨F1,c,d,rfl,hc,hd,hx⟩;let⟨h2,af,ac,ae⟩:=au F1.r [.K,.j];simp[a_,<-af];apply ao (c':=[c,d]) ac.r ae rfl (by simp[aw,V.s,hc,hd]) rfl;rintro h3 o3 F3 n3;have K:Fr [] h1 h3:=ac.y F3 F1.r (Ve _);have Z:=F1.c K;by_cases z:fF l i size=0;simp[a_,eq_true z,o3.J];apply ao (c':=[c,d,pv pm]) K.r (Z.c_ o) rfl (by simp[aw,V.s,hc,hd]) rfl;rintro h4 o4 F4 n4;simp[a_];have ab:=hx z;obtain⟨p',rfl⟩:=ab.bg;exact⟨⟨p',d,o4,hd,(ab.fr K).aI F4 (Z.c_ o) iS (Ap (wK ix.aJ)),(mk.fr Z).aI F4 (Z.c_ o) rfl,by simpa using e⟩,(Zy Z).b F4 w⟩;simp[a_,eq_false z];exact⟨al.fr Z,Zy Z⟩
theorem FZ{h:b_}{b:Nat}{l:List Int}{i:Int}{v:Bool}(w:WF h)(a:P3 h b pm l ks bs)(a0:-9223372036854775808<=i)(a1:i<=9223372036854775807):
 av go 104 [.u b 0,ZZ i,.h v] h fun u h'=>Y_ b pm h h'/\if 0<=i/\i<l.length then u=ZZ 0/\P3 h' b pm l ks (bs.set i.toNat v)else u=ZZ 4/\P3 h' b pm l ks bs:=by
 have al:=a;have all:=a.lo;let⟨p,vk,o,v1,ix,mk,e⟩:=a;by_cases c:i<0;refine ai ?_;simp only[a_,seval,eq_true c];rw[if_neg oM];exact⟨Vk w,al⟩;refine ai ?_;simp[a_,eq_false c];refine aa (Ln w all) ?_;rintro _ h2 ⟨rfl,Z⟩;by_cases c2:(l.length:Int)<=i;simp only[a_,seval,eq_true c2];rw[if_neg oM];exact⟨Zy Z,al.fr Z⟩;cases pm with
 |none=>have mk:bs=[]:=mk;subst mk;simp at e;omega
 |some q=>have fl:Fl h q bs:=mk;have qb:=al.qb;simp[a_,eq_false c2,(Z.c_ o).o,aU];apply aa (Dt Z.r (fl.fr Z) a0 a1);rintro _ h3 ⟨rfl,f3,K,n3⟩;rw[if_pos oM]at f3;simp only[a_,seval];rw[if_pos oM];refine⟨(Zy Z).q K w (.inl rfl),?_,p,vk,K.D _ _ (eV qb) (Z.c_ o),v1,(ix.fr Z).bt K (fl.fr Z),f3,by simpa using e⟩;first|rfl|(rw[if_pos oM])
theorem Jm{h:b_}{b:Nat}{l:List Int}{a k:Int}(w:WF h)(x:P3 h b pm l ks bs)(a0:-9223372036854775808<=a)(a1:a<=9223372036854775807)(k0:-9223372036854775808<=k)(k1:k<=9223372036854775807):
 av go 31 [.u b 0,ZZ a,ZZ k] h fun u h'=>Y_ b pm h h'/\u=ZZ (if bS l.length a k then 4 else 0)/\(if bS l.length a k then P3 h' b pm l ks bs else P3 h' b pm (aV l a.toNat k.toNat) (aV ks a.toNat k.toNat) (aV bs a.toNat k.toNat)):=by
 have al:=x;let⟨p,vk,o,v1,ix,mk,e⟩:=x;refine ai ?_;simp[a_,o.J];refine aa (K5 w ix a0 a1 k0 k1) ?_;rintro _ h1 ⟨F1,c,d,rfl,hc,hd,hx⟩;let⟨h2,an,aj,ak⟩:=au F1.r [.K,.j];simp[a_,<-an];apply ao (c':=[c,d]) aj.r ak rfl (by simp[aw,V.s,hc,hd]) rfl;rintro h3 o3 F3 n3;have K:Fr [] h1 h3:=aj.y F3 F1.r (Ve _);have Z:=F1.c K;by_cases z:bS l.length a k;simp[a_,if_pos z];exact⟨Zy Z,al.fr Z⟩;let⟨c0,c1,c2⟩:=mV z;by_cases ae:k=0;subst ae;simp only[a_,↓reduceIte,Nat.reduceEqDiff,if_neg z];refine⟨Zy Z,?_⟩;have:∀{α:Type}(r:List α),aV r a.toNat (0:Int).toNat=r:=fun r=>by simp[aV]
 rw[this,this,this];exact al.fr Z;cases pm with
 |none=>have mk:bs=[]:=mk;subst mk;simp at e;omega
 |some q=>
  have fl:Fl h q bs:=mk;have qb:=al.qb;simp[a_,if_neg z,eq_false ae,o3.J];apply ao (c':=[c,d,.u q 0]) K.r (Z.c_ o) rfl (by simp[aw,V.s,hc,hd]) rfl;rintro h4 o4 F4 n4;have ab:=hx z;obtain⟨p',rfl⟩:=ab.bg;have af:=(ab.fr K).aI F4 (Z.c_ o) iS (Ap (wK ix.aJ));have ac:Fl h4 q bs:=Mk.aI (pm:=some q) (fl.fr Z) F4 (Z.c_ o) rfl;simp[a_,o4.o];have ea:(a:Int)=(a.toNat:Nat):=oM;have ek:(k:Int)=(k.toNat:Nat):=oM;have fr:=Kv (a:=a.toNat) (n:=k.toNat) F4.r ac oM;rw[<-ea,<-ek]at fr;apply aa fr;rintro _ h5 ⟨rfl,f5,F5⟩;simp[a_];refine⟨((Zy Z).b F4 w).q F5 w (.inl rfl),?_⟩;try rw[if_neg z]
  exact⟨p',d,F5.D _ _ (eV qb) o4,hd,af.bt F5 ac,f5,by rw[gF oM,gF c2];omega⟩
theorem Jn{h:b_}{b:Nat}{l:List Int}{a k t:Int}(w:WF h)(x:P3 h b pm l ks bs)(a0:-9223372036854775808<=a)(a1:a<=9223372036854775807)(k0:-9223372036854775808<=k)(k1:k<=9223372036854775807)
 (t0:-9223372036854775808<=t) (t1:t<=9223372036854775807):
 av go 100 [.u b 0,ZZ a,ZZ k,ZZ t] h fun u h'=>Y_ b pm h h'/\u=ZZ (if dt l.length a k t then 4 else 0)/\(if dt l.length a k t then P3 h' b pm l ks bs else P3 h' b pm (cG l a.toNat k.toNat t.toNat) (cG ks a.toNat k.toNat t.toNat) (cG bs a.toNat k.toNat t.toNat)):=by
 have al:=x;let⟨p,vk,o,v1,ix,mk,e⟩:=x;refine ai ?_;simp[a_,o.J];refine aa (K6 w ix a0 a1 k0 k1 t0 t1) ?_;rintro _ h1 ⟨F1,c,d,rfl,hc,hd,hx⟩;let⟨h2,an,aj,ak⟩:=au F1.r [.K,.j];simp[a_,<-an];apply ao (c':=[c,d]) aj.r ak rfl (by simp[aw,V.s,hc,hd]) rfl;rintro h3 o3 F3 n3;have K:Fr [] h1 h3:=aj.y F3 F1.r (Ve _);have Z:=F1.c K;by_cases z:dt l.length a k t;simp[a_,if_pos z];exact⟨Zy Z,al.fr Z⟩;have zc:¬bS l.length a k:=fun q=>z (.inl q);let⟨c0,c1,c2⟩:=mV zc;have ht:0<=t/\t<=(l.length:Int)-k:=by unfold dt at z;omega
 by_cases ae:k=0;subst ae;simp only[a_,↓reduceIte,Nat.reduceEqDiff,if_neg z];refine⟨Zy Z,?_⟩;have:∀{α:Type}(r:List α),cG r a.toNat (0:Int).toNat t.toNat=r:=fun r=>by simp[cG,aV]
 rw[this,this,this];exact al.fr Z;cases pm with
 |none=>have mk:bs=[]:=mk;subst mk;simp at e;omega
 |some q=>
  have fl:Fl h q bs:=mk;have qb:=al.qb;simp[a_,if_neg z,eq_false ae,o3.J];apply ao (c':=[c,d,.u q 0]) K.r (Z.c_ o) rfl (by simp[aw,V.s,hc,hd]) rfl;rintro h4 o4 F4 n4;have ab:=hx z;obtain⟨p',rfl⟩:=ab.bg;have af:=(ab.fr K).aI F4 (Z.c_ o) iS (Ap (wK ix.aJ));have ac:Fl h4 q bs:=Mk.aI (pm:=some q) (fl.fr Z) F4 (Z.c_ o) rfl;simp[a_,o4.o];have ea:(a:Int)=(a.toNat:Nat):=oM;have ek:(k:Int)=(k.toNat:Nat):=oM;have et:(t:Int)=(t.toNat:Nat):=oM;have fr:=Kx (a:=a.toNat) (n:=k.toNat) (t:=t.toNat) F4.r ac oM oM oM;rw[<-ea,<-ek,<-et]at fr;apply aa fr;rintro _ h5 ⟨rfl,f5,F5⟩;simp[a_];refine⟨((Zy Z).b F4 w).q F5 w (.inl rfl),?_⟩;try rw[if_neg z]
  exact⟨p',d,F5.D _ _ (eV qb) o4,hd,af.bt F5 ac,f5,by rw[jF,jF];omega⟩
theorem rH{h:b_}{b:Nat}{l:List Int}(w:WF h)(a:P3 h b pm l ks bs):av go 53 [.u b 0] h fun u h'=>∃c pm',u=.u c 0/\h.i<=c/\(∀q,pm'=some q->h.i<=q)/\P3 h' c pm' l ks bs/\Fr [] h h':=by
 let⟨p,vk,o,v1,ix,mk,e⟩:=a;let⟨h1,ac,Z,K⟩:=au w [pv p,vk,.K];cases pm with
 |none=>have mk:bs=[]:=mk;refine ai ?_;simp only[a_,seval,o.J,(Z.c_ o).o,<-ac];exact⟨h.i,none,rfl,Ve _,iS,⟨p,vk,K,v1,ix.fr Z,mk,e⟩,Z⟩
 |some q=>have fl:Fl h q bs:=mk;refine ai ?_;simp only[a_,seval,o.J,(Z.c_ o).o,aU,<-ac];refine aa (H6 Z.r (fl.fr Z)) ?_;rintro _ h2 ⟨c,rfl,hc,f2,F2⟩;simp only[a_,seval];apply u_ F2.r (F2.c_ K);rintro h3 o3 F3 n3;simp only[a_,seval];have ab:=Z.c F2;exact⟨h.i,some c,rfl,Ve _,fun q e=>by cases e;exact VC Z.i hc,⟨p,vk,o3,v1,(ix.fr ab).aI F3 (F2.c_ K) iS (Ap (wK (pm:=none) ix.aJ)),Mk.aI (pm:=some c) f2 F3 (F2.c_ K) rfl,e⟩,ab.y F3 w (Ve _)⟩
def w_.W2(q p:w_):Prop:=q.k=p.k/\q.tg=p.tg/\q.ky=p.ky/\q.sl=p.sl/\q.tx=p.tx/\q.W=p.W/\q.Z=p.Z/\q.aW=p.aW/\PT.W2 q.ar p.ar
theorem w_.bn{q p:w_}(h:q.W2 p):Y0 q=Y0 p:=by let⟨Z,h2,h3,h4,K,h6,_,_,h9⟩:=h;unfold Y0;rw[Z,h2,h3,h4,K,h6,PT.ZP _ _ _ _ _ h9]
def cK:List w_->List w_->Prop
 |[],[]=>True
 |q::l,p::m=>q.W2 p/\cK l m
 |_,_=>False
theorem eg:∀{a b:List w_},cK a b->a.length=b.length
 |[],[],_=>rfl
 |_::_,_::_,h=>by simp[eg h.2]
 |[],_::_,h=>h.elim
 |_::_,[],h=>h.elim
theorem tR:∀{a b:List w_},cK a b->a.all Y0=b.all Y0
 |[],[],_=>rfl
 |_::_,_::_,h=>by rw[Xi,Xi,w_.bn h.1,tR h.2]
 |[],_::_,h=>h.elim
 |_::_,[],h=>h.elim
theorem jZ{a b:List w_}(h:cK a b)(cap:Int):U3 a cap=U3 b cap:=by unfold U3;rw[eg h,tR h]
theorem tQ:∀{a b c d:List w_},cK a b->cK c d->cK (a++c) (b++d)
 |[],[],_,_,_,g=>g
 |_::_,_::_,_,_,h,g=>⟨h.1,tQ h.2 g⟩
 |[],_::_,_,_,h,_=>h.elim
 |_::_,[],_,_,h,_=>h.elim
theorem ou:∀{a b:List w_}{i:Nat}{q:w_},cK a b->a[i]? =some q->∃p,b[i]? =some p/\q.W2 p
 |_::_,p::_,0,_,h,e=>by simp at e;subst e;exact⟨p,rfl,h.1⟩
 |_::_,_::_,i+1,_,h,e=>by simpa using ou h.2 (eV e)
 |[],[],_,_,_,e=>by simp at e
 |[],_::_,_,_,h,_=>h.elim
 |_::_,[],_,_,h,_=>h.elim
theorem _root_.Go.Ev.Fr.bK{S:List Nat}{h:b_}(w:WF h)(f:Fr S h h'):Fr (S.filter fun x=>decide (x<h.i)) h h':=
 ⟨f.i,f.r,fun b c hb o=>f.D b c (fun m=>hb (by have:=o.lt w;simp[m,this])) o,fun b c hb o=>f.pl b c (fun m=>hb (by have:=o.a.lt w;simp[m,this])) o,f.lp,f.ro⟩
theorem HW{h:b_}{b:Nat}(o:f_ h b [.j,ZZ 0,ZZ 0]):av go 91 [.u b 0,ZZ 0,.j] h fun u h'=>u=ZZ 0/\h=h':=by have k:Y1 h b (b+1) .j [] [] [] 0 0 0:=⟨o,⟨rfl,.inl ⟨rfl,rfl⟩⟩,rfl,rfl,rfl,rfl,rfl,oM,oM,oM,fun x m=>by simp at m⟩;have e:yM (0+0) 0 0=0:=rfl;refine ai ?_;simp[a_];refine aa (eO k 0 0) ?_;rintro _ _ ⟨rfl,rfl⟩;rw[e];simp[a_];apply aa (dE k);rintro _ _ ⟨rfl,rfl⟩;simp[a_,ah]
theorem HU{h:b_}(w:WF h):av go 39 [.j] h fun z h'=>∃b,z=.G [.u b 0,ZZ 0]/\h.i<=b/\f_ h' b [.j,ZZ 0,ZZ 0]/\Fr [] h h':=by let⟨h1,ab,K,Z⟩:=au w [.j,ZZ 0,ZZ 0];refine ai ?_;simp[a_,<-ab];refine aa (HW Z) ?_;rintro _ _ ⟨rfl,rfl⟩;simp only[a_,seval];exact⟨h.i,rfl,Ve _,Z,K⟩
theorem Nz{h:b_}{v:V}{L:List w_}{cap:Int}(w:WF h)(a:o_ w_.s 9 h v L)(hL:∀q∈L,Q4 h q)(hn:L.length<=4096)(ok:U3 L cap=true):
 av go 8 [.B [v,ZZ cap]] h fun u h'=>∃b bg bm bl vK K,u=.G [.u b 0,ZZ 0]/\Fr [] h h'/\cK L K/\f_ h' b [vK,ZZ cap,.u bg 0,.u bm 0,.u bl 0]/\
  f_ h' bg [.j,ZZ 0,ZZ 0]/\Km h' bm bm (fun _=>none) 0/\P3 h' bl none [] [] []/\h.i<bg/\bg<bm/\bm<bl/\bl<b/\h.i<h'.i/\f_ h' h.i [v,ZZ cap]/\
  (∀(X:List Nat)(h2:b_),(∀y∈X,y<=h.i\/y=b\/y=bg\/y=bm\/y=bl\/h'.i<=y)->Fr X h' h2->o_ w_.s 9 h2 vK K/\∀q∈K,Q4 h2 q):=by
 have zv:nZ v=true:=by cases v<;>first|rfl|exact a.2.elim
 let⟨h1,b7,bW,Z⟩:=au w [v,ZZ cap];have l0:ag h1 h.i 0=some v:=Z.o 0;have l2:aq h1 h.i 0 2=some [v,ZZ cap]:=by rw[Z.J];rfl
 refine ai ?_;simp only[a_,seval,<-b7,l2];refine aa (zM bW.r (VJ a bW) (fun q m=>(hL q m).fr bW) hn) ?_;rintro _ h2 ⟨rfl,F2⟩;rw[ok,if_pos rfl];simp only[a_,seval];apply aa (HU F2.r);rintro _ h3 ⟨bg,rfl,bo,g3,F3⟩;have aj:=(bW.c F2).c F3;have o3:=F3.c_ (F2.c_ Z);have l3:ag h3 h.i 0=some v:=o3.o 0;simp only[a_,seval,l3];apply aa (ze F3.r (Sl.a (VJ a aj)) zv oM);rintro vK h4 ⟨gk,F4⟩;simp only[a_,seval,gk.sl.A_];have bj:=aj.c F4;have a8:∀y∈vb vK,h3.i<=y/\y<h4.i:=by obtain⟨_,⟨_,rfl|⟨b,_,rfl,_⟩⟩|⟨b,hb,rfl,o⟩⟩:=gk;simp[vb];simp[vb];have:=o.lt F4.r;simp only[vb,Vu];rintro y rfl;exact⟨hb,this⟩
 refine aC (fun n env hh=>Fr [] h hh/\Fr [] h1 hh/\Fr [] h3 hh/\h4.i<=hh.i/\
  ∃(i:Nat)(D:List w_),env.c_ 26=some (ZZ i)/\env.c_ 25=some (ZZ L.length)/\env.c_ 1=some (.u h.i 0)/\env.c_ 5=some (.u bg 0)/\env.c_ 7=some vK/\i<=L.length/\D.length=i/\cK (L.take i) D/\
  Gn 9 hh h3.i vK L.length ((D++L.drop i).flatMap w_.s)/\(∀(X:List Nat)(h2:b_),(∀y∈X,y<h3.i\/y∈vb vK)->Fr X hh h2->∀q∈D,Q4 h2 q)/\n=L.length-i) L.length oM ?_ ?_
 exact⟨bj,(F2.c F3).c F4,F4,Ve _,0,[],iS,iS,iS,iS,iS,oM,rfl,trivial,by simpa using gk,iS,rfl⟩;rintro n env hh ⟨F,ar,a1,bv,i,D,ak,a2,g1,g5,g7,hi,dl,ds,ac,dst,rfl⟩;by_cases bc:i<L.length;have af:(i:Int)<L.length:=oM;obtain⟨q,hq⟩:∃q,L[i]? =some q:=⟨_,Vp bc⟩;have a7:=hL q (Vg hq);obtain⟨_,⟨z,_⟩|⟨bp,ba,rfl,a0⟩⟩:=ac;omega;have fl:∀M:List w_,(M.flatMap w_.s).length=M.length*9:=aG fg;have dc:(D.flatMap w_.s).length=i*9:=by rw[fl,dl]
 have eL:(D++L.drop i).flatMap w_.s=D.flatMap w_.s++(q.s++(L.drop (i+1)).flatMap w_.s):=by rw[aN hq];simp
 rw[eL]at a0;have ix:=lZ 9 bp 0 L.length 9 .i64 (i:Int) oM af;simp at ix;have lc:aq hh bp (i*9) 6=some q.as:=by rw[a0.J,bR,<-dc,Xn];rfl
 have hb:=a8 bp (by simp[vb]);simp only[a_,seval,ak,a2,g7,af,ix,lc];apply aa (zR (pcs q.ar) hh F.r (a7.fr F));rintro _ h7 ⟨ay,ax,bh,rfl,sm,F7,a6⟩;have on:aw [ZY (q.k:Int),.f q.tg,.f q.ky,ay,.f q.tx,ax]=true:=PH.aF (a6 [] h7 iS (Vk F7.r));simp only[a_,seval,g7,ix];have eC:bq (D.flatMap w_.s++(q.s++(L.drop (i+1)).flatMap w_.s)) (i*9) [ZY (q.k:Int),.f q.tg,.f q.ky,ay,.f q.tx,ax]=some ((D++[(⟨q.k,q.tg,q.ky,q.sl,q.tx,ay,ax,bh,q.W,q.Z,q.aW⟩:w_)]++L.drop (i+1)).flatMap w_.s):=by
  rw[bN _ _ _ (by rw[Vv,dc,Vv,fg];simp only[Vy,XU];omega)];congr 1;have q1:(D.flatMap w_.s++(q.s++(L.drop (i+1)).flatMap w_.s)).take (i*9)=D.flatMap w_.s:=by grind
  have q2:(D.flatMap w_.s++(q.s++(L.drop (i+1)).flatMap w_.s)).drop (i*9+6)=[ZZ q.W,.h q.Z,ZZ q.aW]++(L.drop (i+1)).flatMap w_.s:=by rw[<-dc,Wa];rfl
  show _++_++(D.flatMap w_.s++(q.s++(L.drop (i+1)).flatMap w_.s)).drop (i*9+6)=_;rw[q1,q2];simp[w_.s,w_.as]
 refine ao F7.r (F7.c_ a0) rfl on eC ?_;rintro h8 o8 F8 n8;have bD:=F7.i;have bt:=F4.i;simp(disch:=omega) only[a_,seval,ah,ak];refine t_ ⟨L.length-(i+1),oM,(F.c F7).y F8 w ?_,(ar.c F7).y F8 bW.r ?_,(a1.c F7).y F8 F3.r oM,oM,i+1,_,iS,iX,iX,iX,iX,oM,?_,?_,⟨?_,.inr ⟨bp,ba,rfl,o8⟩⟩,?_,rfl⟩;have:=aj.i;omega;have:=F2.i;have:=F3.i;omega;simp[dl];rw[Vs,hq];exact tQ ds ⟨⟨rfl,rfl,rfl,rfl,rfl,rfl,rfl,rfl,sm⟩,trivial⟩;grind;intro X h9 hX f9 p hp;have a5:Fr ([bp]++X) h7 h9:=Vn F8 f9 F7.r (fun y hy=>.inl (by simp at hy;simp[hy])) (fun y hy=>.inl iX);have br:Fr ([bp]++X) hh h9:=Vn F7 a5 F.r iS (fun y hy=>.inl hy);have aH:∀y∈[bp]++X,y<h3.i\/y∈vb (.L bp 0 L.length 9):=by intro y hy;simp at hy;obtain rfl|hy:=hy;exact .inr (by simp[vb]);exact hX y hy
 obtain hp|hp:=Vc.1 hp;grind;simp at hp;subst hp;refine a6 _ h9 (fun y hy=>?_) a5;obtain q|q:=aH y hy;omega;grind;have a9:i=L.length:=oM;subst a9;rw[Vm (Ve _)]at ds;rw[Vq (Ve _),Wk]at ac;have ob:=ar.c_ Z;have l1:ag hh h.i 1=some (ZZ cap):=ob.o 1;simp only[a_,seval,g_,ak,a2,g1,g5,g7,(oM:¬((L.length:Nat):Int)<(L.length:Nat)),l1,az ac.O];apply aa (Kd F.r);rintro _ h5 ⟨bm,rfl,bz,km,F5⟩;have bi:ag h5 h.i 1=some (ZZ cap):=(F5.c_ ob).o 1;simp only[a_,g_];apply aa (Lm F5.r);rintro _ h6 ⟨bl,rfl,bw,lo,ol,F6⟩;have a3:ag h6 h.i 1=some (ZZ cap):=(F6.c_ (F5.c_ ob)).o 1;let⟨h9,b6,ab,a4⟩:=au F6.r [vK,ZZ cap,.u bg 0,.u bm 0,.u bl 0];have n9:=s_ b6;simp only[a_,seval,DF,g_,l1,bi,a3,<-b6];have n1:=s_ b7;have bE:=F2.i;have bT:=F3.i;have bB:=F4.i;have bV:=F5.i;have bC:=F6.i;have bn:=g3.lt F3.r;have bA:bm<h5.i:=by obtain⟨o,_⟩|⟨v,sl,t,k,_⟩:=km;exact o.lt F5.r;exact k.ob.lt F5.r
 have bk:=ol.lt F6.r;have ae:=(F5.c F6).c ab;refine⟨h6.i,bg,bm,bl,vK,D,rfl,F.c ae,ds,a4,?_,(km.fr F6).fr ab,?_,oM,oM,oM,oM,oM,(ar.c ae).c_ Z,fun X an hX bf=>?_⟩;exact(a1.c ae).c_ g3;let⟨p,vk,pm,o,x⟩:=lo;have e:=o.ae ol;cases pm with
 |none=>exact P3.fr ⟨p,vk,o,x⟩ ab
 |some q=>simp[pv]at e
 have f:Fr X hh an:=Vn ae bf F.r iS (fun y hy=>.inl hy);have aH:∀y∈X,y<h3.i\/hh.i<=y:=fun y hy=>by grind
 refine⟨?_,dst _ an (fun y hy=>?_) (f.bK F.r)⟩;have:=(ac.bT F.r f aH).sl;show Sl an 9 vK D.length _;rw[dl];exact this;grind
def T2(h:b_)(b:Nat)(ks:List Nat):Prop:=∃es c,h.S.c_ b=some (.f es c)/\es.map (·.1)=ks.map (fun k:Nat=>ZX (k:Int))/\∀e∈es,e.2.1=.h true
theorem oP(k:Nat):∀(es:List (V×V×Nat))(ks:List Nat)(i:Nat),es.map (·.1)=ks.map (fun k:Nat=>V.C .u64 (k:Int))→(∀e∈es,e.2.1=.h true)→
 (k∈ks→∃j,gG none (.C .u64 (k:Int)) es i=some (some (j,.h true)))∧(k∉ks→gG none (.C .u64 (k:Int)) es i=some none)
 |[],[],_,_,_=>⟨by simp,fun _=>rfl⟩
 |[],_::_,_,e,_=>by simp at e
 |_::_,[],_,e,_=>by simp at e
 |(k',v,n)::es,q::ks,i,e,t=>by
  simp only[List.map_cons,List.cons.injEq]at e;let⟨e1,e2⟩:=e;have tv:v=.h true:=t (k',v,n) (by simp);subst e1 tv;have ih:=oP k es ks (i+1) e2 (fun x hx=>t x (by simp[hx]));have ek:uz none (.C .u64 (k:Int)) (.C .u64 (q:Int))=some (decide (k=q)):=by simp only[uz,cD,cond_true,fC];congr 1;by_cases c:k=q;simp[c];simp[c];omega
  by_cases c:k=q;refine⟨fun _=>⟨i,?_⟩,fun m=>absurd (by simp[c]) m⟩;simp only[gG];rw[ek,decide_eq_true c];refine⟨fun m=>?_,fun m=>?_⟩;let⟨j,hj⟩:=ih.1 (by simpa[c]using m);exact⟨j,by simp only[gG];rw[ek,decide_eq_false c];exact hj⟩;simp only[gG];rw[ek,decide_eq_false c];exact ih.2 (fun m'=>m (by simp[m']))
theorem T2.c{h:b_}{b:Nat}{ks:List Nat}(s:T2 h b ks)(w:WF h):b<h.i:=by let⟨Z,c,e,_⟩:=s;obtain q|q:=Wt b h.i;exact q;rw[(w b q).1]at e;cases e
theorem Hk{call:aL}{h:b_}(K:V->b_->Prop):OQ (aS call loc env h (.s [])) K↔K (.ad h.i) (lF h):=by show OQ (some (V.ad h.i,lF h)) K↔_;exact cU _ _ _
def LkQ(h:b_)(ks:Option (List Nat))(zero:V)(ok:Bool)(o:Option (List V))(K:V->b_->Prop):Prop:=∃x k,o=some [x,k]/\VQ (D? h ks zero ok x k) K h
theorem ma{h:b_}(ks:Option (List Nat))(zero:V)(ok:Bool)(x k:V)(K:V->b_->Prop):LkQ h ks zero ok (some [x,k]) K↔VQ (D? h ks zero ok x k) K h:=
 ⟨fun⟨_,_,e,q⟩=>by cases e;exact q,fun q=>⟨x,k,rfl,q⟩⟩
theorem Am{call:aL}{h:b_}(ks:Option (List Nat))(zero:V)(ok:Bool)(x y:G_)(K:V->b_->Prop):OQ (aS call loc env h (.o ks zero ok [x,y])) K↔LkQ h ks zero ok (eP loc env [x,y]) K:=by
 simp[aS,OQ,LkQ,VQ,gR,dP];cases E_ loc env x with
 |none=>simp[lQ]
 |some a=>
  cases E_ loc env y with
  |none=>simp[lQ]
  |some b=>
   simp only[lQ];cases e:D? h ks zero ok a b with
   |none=>simp[e]
   |some v=>refine⟨fun⟨_,_,q,k⟩=>?_,fun⟨_,_,q,u,q2,k⟩=>?_⟩;grind;grind
def MuQ(h:b_)(ks:Option (List Nat))(o:Option (List V))(K:V->b_->Prop):Prop:=∃x k v,o=some [x,k,v]/\OQ (N? h ks x k v) K
theorem qy{h:b_}(ks:Option (List Nat))(x k v:V)(K:V->b_->Prop):MuQ h ks (some [x,k,v]) K↔OQ (N? h ks x k v) K:=
 ⟨fun⟨_,_,_,e,q⟩=>by cases e;exact q,fun q=>⟨x,k,v,rfl,q⟩⟩
theorem C8{call:aL}{h:b_}(ks:Option (List Nat))(x y z:G_)(K:V->b_->Prop):OQ (aS call loc env h (.z ks [x,y,z])) K↔MuQ h ks (eP loc env [x,y,z]) K:=by
 simp[aS,OQ,MuQ,gR,dP];cases E_ loc env x with
 |none=>simp[lQ]
 |some a=>
  cases E_ loc env y with
  |none=>simp[lQ]
  |some b=>
   cases E_ loc env z with
   |none=>simp[lQ]
   |some c=>simp only[lQ];exact⟨fun q=>⟨a,b,c,rfl,q⟩,fun⟨_,_,_,e,q⟩=>by cases e;exact q⟩
theorem pN{h:b_}{b k:Nat}{ks:List Nat}(s:T2 h b ks):D? h none (.h false) false (.ad b) (ZX (k:Int))=some (.h (decide (k∈ks))):=by let⟨K,c,e,Z,e2⟩:=s;have m:=oP k K ks 0 Z e2;simp only[D?,Cd,e,show nJ none (ZX (k:Int))=true from rfl,cond_true];by_cases q:k∈ks;grind;rw[m.2 q];simp[q]
theorem T2.a{h:b_}{b:Nat}{ks:List Nat}(s:T2 h b ks)(f:Fr [] h h'):T2 h' b ks:=by let⟨Z,c,e,x⟩:=s;exact⟨Z,c,f.lp _ _ rfl e,x⟩
theorem sQ{h:b_}{b k:Nat}{ks:List Nat}(w:WF h)(s:T2 h b ks)(Z:k∉ks){K:V->b_->Prop}(q:∀h',T2 h' b (ks++[k])->Q6 [] b h h'->h'.i=h.i->K (.G []) h'):OQ (N? h none (.ad b) (ZX (k:Int)) (.h true)) K:=by let⟨es,c,e,e1,e2⟩:=s;have m:=oP k es ks 0 e1 e2;refine⟨.G [],kF h b (es++[(ZX (k:Int),.h true,c)]) (c+1),?_,q _ ⟨_,_,VS _ _ _,by simp[e1],fun x hx=>?_⟩ (XP w e rfl _) rfl⟩;simp[N?,e,show nJ none (ZX (k:Int))=true from rfl,m.2 Z];grind
end Go.Ev.Lay
