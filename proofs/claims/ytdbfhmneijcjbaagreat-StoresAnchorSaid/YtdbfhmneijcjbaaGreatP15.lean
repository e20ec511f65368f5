/- An evaluator of the program, and contracts over it: StdP to SteA. -/
import Derived.Test.YtdbfhmneijcjbaaGreatP14
set_option linter.unusedSimpArgs false
set_option linter.unusedVariables false
set_option linter.constructorNameAsVariable false
set_option linter.unnecessarySimpa false
set_option maxRecDepth 4000
namespace Go.Ev.Lay
open Go.Ev.St
theorem Mm{h:b_}{e:d_}(w:WF h)(ob:1<=e.b/\e.b<=2305843009213693952):av go 215 [.B e.s] h fun u h'=>u=.h false/\Fr [] h h':=by let⟨K,ac,ae,ab⟩:=au w e.s;have Z:ag K h.i 4=some (ZZ e.b):=ab.o 4;refine ai ?_;simp[a_,<-ac,Z,show decide (e.b<1)=false from decide_eq_false oM,show decide (2305843009213693952<e.b)=false from decide_eq_false oM];exact ae
theorem Ml{h:b_}{v:V}{E:List d_}(w:WF h)(re:o_ d_.s 6 h v E)(hE:E.length<=4096)(ok:V0 E):av go 214 [v,.I (.func 215) [] []] h fun u h'=>u=.h false/\Fr [] h h':=by refine ai ?_;simp[a_];refine aa (R:=fun u h'=>u=ZZ (-1)/\Fr [] h h') ?_ ?_;refine ai ?_;simp[a_,re.M];refine aC (fun n env hh=>Fr [] h hh/\∃i:Nat,env.c_ 8=some (ZZ i)/\env.c_ 7=some (ZZ E.length)/\env.c_ 0=some v/\env.c_ 1=some (.I (.func 215) [] [])/\i<=E.length/\n=E.length-i) E.length oM ?_ ?_;exact⟨Vk w,0,iS,iS,iS,iS,oM,rfl⟩;rintro n env hh ⟨F,i,g8,g7,g0,g1,hi,rfl⟩;by_cases c:i<E.length;let⟨bi,oi,e,p1,_,p3,p4⟩:=(re.fr F).ix aK .i64 (i:Int) oM oM;rw[pi]at p4;have Z:215<1099511627776:=oM;simp[a_,g8,g7,g0,g1,(oM:(i:Int)<E.length),p1,p3];refine aa (Mm F.r (ok e (Vg p4))) ?_;rintro _ h3 ⟨rfl,K⟩;simp(disch:=omega)[a_,ah,g8];refine t_ ⟨E.length-(i+1),oM,F.c K,i+1,iS,iX,iX,iX,oM,rfl⟩;simp[a_,g8,g7,(oM:¬(i:Int)<E.length)];exact F;rintro _ h3 ⟨rfl,K⟩;simp[a_];exact K
section
variable {h : b_} {v : V} {E : List d_}
theorem GH(w:WF h)(re:o_ d_.s 6 h v E)(ie:∀e∈E,q_ h e.x)(hE:E.length<=1024)(ok:V0 E)(hs:(E.map d_.b).sum<=4611686018427387904):av go 154 [.B [v]] h fun u h'=>u=ZZ 0/\Fr [] h h':=by
 have v1:v.O=true:=Wj re;let⟨K,ae,ab,ac⟩:=au w [v];have x0:∀{h'},Fr [] K h'->ag h' h.i 0=some v:=fun f=>(f.c_ ac).o 0;have x1:∀{h'},Fr [] K h'->aq h' h.i 0 1=some [v]:=fun f=>by rw[(f.c_ ac).J];rfl
 have r0:Fr [] K K:=Vk ab.r;refine ai ?_;simp[a_,<-ae,x0 r0,(re.fr ab).M,eq_false (oM:¬(1024:Int)<(E.length:Nat))];refine aa (Ml ab.r (re.fr ab) oM ok) ?_;rintro _ h2 ⟨rfl,Z⟩;simp[a_,x1 Z];apply aa (qR Z.r (re.fr (ab.c Z)) (fun e m=>(ie e m).fr (ab.c Z)) oM ok hs);rintro _ h3 ⟨rfl,F3⟩;simp[a_,eq_false (oM:¬4611686018427387904<(E.map d_.b).sum)];exact(ab.c Z).c F3
end
def ZF(l:List Int)(i:Nat):List V:=(List.range (l.length+1)).map fun j=>ZZ (if j<=i then(l.take j).sum else 0)
theorem mw(l:List Int)(i:Nat):(ZF l i).length=l.length+1:=by simp[ZF]
theorem jU{l:List Int}{i j:Nat}(h:j<=l.length):(ZF l i)[j]? =some (ZZ (if j<=i then(l.take j).sum else 0)):=by
 have:(List.range (l.length+1))[j]? =some j:=by grind
 simp[ZF,this]
theorem Gk(l:List Int):aW [ZZ 0] (l.length+1)=ZF l 0:=by rw[pE];refine XZ fun j=>?_;by_cases c:j<l.length+1;rw[jU oM,Xl,if_pos c];split;grind;rfl;rw[Wu oO,Wu (by rw[mw];omega)]
theorem Gl{l:List Int}{i:Nat}(h:i<l.length):bq (ZF l i) (i+1) [ZZ (l.take (i+1)).sum]=some (ZF l (i+1)):=by
 rw[bN _ _ _ (by rw[mw];simp;omega)];have e:(ZF l i).take (i+1)++[ZZ (l.take (i+1)).sum]++(ZF l i).drop (i+1+[ZZ (l.take (i+1)).sum].length)=(ZF l i).set (i+1) (ZZ (l.take (i+1)).sum):=by rw[WK,if_pos (by rw[mw];omega)];simp
 rw[e];congr 1;refine XZ fun j=>?_;rw[List.getElem?_set];by_cases c:j<=l.length;rw[jU c,jU c,mw];split;grind;grind;rw[if_neg oM,Wu (by rw[mw];omega),Wu (by rw[mw];omega)]
section
variable {h : b_} {v : V} {E : List d_}
theorem CS(w:WF h)(re:o_ d_.s 6 h v E)(ie:∀e∈E,q_ h e.x)(hE:E.length<=1024)(ok:V0 E)(hs:(E.map d_.b).sum<=4611686018427387904):
 av go 81 [.B [v]] h fun u h'=>Fr [] h h'/\∃q,h.i<=q/\u=.G [.z q 0 (E.length+1) (E.length+1),ZZ 0]/\f_ h' q (ZF (E.map d_.b) E.length):=by
 have v1:v.O=true:=Wj re;let⟨h1,an,aj,ak⟩:=au w [v];have n1:=s_ an;have x0:∀{h'},Fr [] h1 h'->ag h' h.i 0=some v:=fun f=>(f.c_ ak).o 0;have x1:∀{h'},Fr [] h1 h'->aq h' h.i 0 1=some [v]:=fun f=>by rw[(f.c_ ak).J];rfl
 have r0:Fr [] h1 h1:=Vk aj.r;refine ai ?_;simp[a_,<-an,x1 r0];refine aa (GH aj.r (re.fr aj) (fun e m=>(ie e m).fr aj) hE ok hs) ?_;rintro _ h2 ⟨rfl,F2⟩;have ae:=re.fr (aj.c F2);have n2:=F2.i;simp(disch:=omega)[a_,ah,x0 F2,ae.M];refine(dy _ _ _ _ _ _ _ _ oM oM oM oM).2 ?_;have tn:((E.length:Int)+1).toNat=E.length+1:=oM;simp;obtain⟨h3,Z⟩:∃h3,h3=k_ h2 (aW [ZZ 0] (E.length+1)):=⟨_,rfl⟩;have K:Fr [] h2 h3:=Z▸VL F2.r _;have ab:f_ h3 h2.i (aW [ZZ 0] (E.length+1)):=Z▸Wi F2.r _;rw[<-Z];clear Z;have tz:=Gk (E.map d_.b);rw[WG]at tz;rw[tz]at ab;simp[a_,x0 (F2.c K),(ae.fr K).M];refine aC (fun n env hh=>Fr [] h1 hh/\∃i:Nat,env.c_ 20=some (ZZ i)/\env.c_ 19=some (ZZ E.length)/\env.c_ 5=some (.z h2.i 0 (E.length+1) (E.length+1))/\env.c_ 1=some (.u h.i 0)/\f_ hh h2.i (ZF (E.map d_.b) i)/\i<=E.length/\n=E.length-i) E.length oM ?_ ?_;exact⟨F2.c K,0,iS,iS,iS,iS,ab,oM,rfl⟩;rintro n env hh ⟨F,i,ac,af,g5,g1,o,hi,rfl⟩;by_cases c:i<E.length;let⟨bi,oi,e,p1,p2,p3,p4⟩:=(re.fr (aj.c F)).ix aK .i64 (i:Int) oM oM;rw[pi]at p4;have l4:ag hh bi (oi+4)=some (ZZ e.b):=p2 4 oM;have ob:=ok e (Vg p4);have ts:=pB p4;have s0:=(ok.c i).a;have:=(ok.e (i+1)).a;have:=V0.d (E:=E) (i+1);rw[Wf,Wf]at ts;rw[Wf]at s0;have xa:=eM 1 h2.i 0 (E.length+1) (E.length+1) .i64 (i:Int) oM oM;simp at xa;have xb:=eM 1 h2.i 0 (E.length+1) (E.length+1) .i64 ((i:Int)+1) oM oM;simp at xb;have lt:ag hh h2.i i=some (ZZ ((E.map d_.b).take i).sum):=by rw[o.o,gN,jU oO,if_pos (Ve _)]
 rw[Wf]at *;simp(disch:=omega)[a_,g_,ah,ac,af,g5,g1,(oM:(i:Int)<E.length),x0 F,p1,l4,xa,xb,lt,<-ts];apply ao (c':=ZF (E.map d_.b) (i+1)) F.r o rfl rfl (Gl oO);rintro h4 o4 F4 n4;simp(disch:=omega)[a_,DF,ah,ac,x0 F,l4,lt];refine t_ ⟨E.length-(i+1),oM,F.y F4 aj.r n2,i+1,iS,iX,iX,iX,o4,oM,rfl⟩;obtain rfl:i=E.length:=oM;simp[a_,ac,af,g5];exact⟨aj.c F,h2.i,oM,rfl,o⟩
end
theorem EY{h:b_}{p x q i n:Nat}{y:Int}{l:List Int}(o1:f_ h p [.z q 0 (n+1) (n+1)])(o2:f_ h x [ZZ y])(K:f_ h q (ZF l n))(hl:l.length=n)(hi:i<n)(hn:n<=4096):
 av go 217 [ZZ (i:Int),.u p 0,.u x 0] h fun u h'=>h=h'/\u=.h (decide (y<(l.take (i+1)).sum)):=by
 have Z:=eM 1 q 0 (n+1) (n+1) .i64 ((i:Int)+1) oM oM;simp at Z;have l1:ag h p 0=some (.z q 0 (n+1) (n+1)):=o1.o 0;have l2:ag h x 0=some (ZZ y):=o2.o 0;have l3:ag h q (i+1)=some (ZZ (l.take (i+1)).sum):=by rw[K.o,gN,jU oM,if_pos oM]
 refine ai ?_;simp(disch:=omega)[a_,DF,g_,ah,l1,l2,l3,Z]
theorem Eu{h:b_}{p x q n k:Nat}{y:Int}{l:List Int}(o1:f_ h p [.z q 0 (n+1) (n+1)])(o2:f_ h x [ZZ y])(o3:f_ h q (ZF l n))(hl:l.length=n)(hn:n<=4096)(hk:k<n)
 (hc:∀i,i<n->(y<(l.take (i+1)).sum↔k<=i)):
 av go 216 [ZZ (n:Int),.I (.func 217) [] [.u p 0,.u x 0]] h fun u h'=>h=h'/\u=ZZ (k:Int):=by
 refine ai ?_;simp[a_];refine aC (fun r env hh=>h=hh/\∃i j:Nat,env.c_ 5=some (ZZ i)/\env.c_ 6=some (ZZ j)/\env.c_ 1=some (.I (.func 217) [] [.u p 0,.u x 0])/\i<=k/\k<=j/\j<=n/\r=j-i) n oM ?_ ?_;exact⟨rfl,0,n,iS,iS,iS,oM,oM,oM,rfl⟩;rintro r env hh ⟨rfl,i,j,K,g6,g1,h1,h2,h3,rfl⟩;by_cases c:i<j;have sh:aP (.F false) [ZX ((i:Int)+j),ZX 1]=some (ZX (((i+j)/2:Nat):Int)):=by have:=DL .u64 (i+j) 1 1 rfl oM;rw[Int.natCast_add]at this;exact this
 have fw:bF .u64 ((i:Int)+j)=(i:Int)+j:=bY _ oM oM;have fv:bF .i64 (((i+j)/2:Nat):Int)=(((i+j)/2:Nat):Int):=ah _ oM oM;have Z:217<1099511627776:=oM;have m1:i<=(i+j)/2:=oM;have m2:(i+j)/2<j:=oM;generalize(i+j)/2=m at sh fv m1 m2;simp(disch:=omega) only[a_,seval,ah,K,g6,g1,eq_true (oM:(i:Int)<j),fw,sh];refine aa (EY (i:=m) o1 o2 o3 hl oM hn) ?_;rintro _ _ ⟨rfl,rfl⟩;have e:=hc m oM;by_cases d:k<=m;simp only[a_,seval,decide_eq_true (e.2 d)];refine t_ ⟨m-i,oM,rfl,i,m,iX,iS,iX,h1,d,oM,rfl⟩;simp(disch:=omega) only[a_,seval,ah,decide_eq_false (fun z=>d (e.1 z))];refine t_ ⟨j-(m+1),oM,rfl,m+1,j,iS,iX,iX,oM,h2,h3,rfl⟩;obtain rfl:i=j:=oM;obtain rfl:i=k:=oM;simp[a_,K,g6]
open Go.Ev.St
theorem Mj{l:List Int}(f:P2 l)(i:Nat):0<=(l.take i).sum/\(l.take i).sum<=l.sum:=by have K:=(f.ar (XG i l)).nn;have Z:=XF (l₁:=l.take i) (l₂:=l.drop i);rw[VA]at Z;have:=(f.ar (WR i l)).nn;omega
theorem zT{l:List Int}(f:P2 l){i j:Nat}(h:i<=j):(l.take i).sum<=(l.take j).sum:=by have:=Mj (f.ar (XG j l)) i;rw[WL,WE h]at this;exact this.2
theorem qP:∀{l:List Int}{x:Int},0<=x->x<l.sum->(l.take (aX l x).1).sum<=x/\x<(l.take ((aX l x).1+1)).sum/\(aX l x).2=x-(l.take (aX l x).1).sum
 |[],x,h0,h1=>by simp at h1;omega
 |s::l,x,h0,h1=>by simp only[aX];by_cases c:x<s;grind;simp only[if_neg c];have:=qP (l:=l) (x:=x-s) oM (by simp at h1;omega);simp only[YK,Xb];omega
theorem J3{l:List Int}(f:P2 l){x:Int}(h0:0<=x)(Z:x<l.sum)(i:Nat):(l.take i).sum<=x↔i<=(aX l x).1:=by let⟨a,b,_⟩:=qP h0 Z;constructor;intro h;obtain c|c:=Wt (aX l x).1 i;have:=zT f (oM:(aX l x).1+1<=i);omega;exact c;intro h;have:=zT f h;omega
section
variable {h : b_} {v : V} {E : List d_}
theorem O5(hE:E.length<=1024)(ok:V0 E)(K:(E.map d_.b).sum<=4611686018427387904):P2 (E.map d_.b):=by refine⟨fun x m=>?_,K,by simp;omega⟩;obtain⟨e,Z,rfl⟩:=VK.1 m;have:=ok e Z;omega
theorem M9{x:Int}(w:WF h)(re:o_ d_.s 6 h v E)(ie:∀e∈E,q_ h e.x)(hE:E.length<=1024)(ok:V0 E)(hs:(E.map d_.b).sum<=4611686018427387904)(h0:0<=x)(hx:x<(E.map d_.b).sum):
 av go 83 [.B [v],ZZ x] h fun u h'=>Fr [] h h'/\u=.G [ZZ ((aX (E.map d_.b) x).1:Nat),ZZ 0]:=by
 have v1:v.O=true:=Wj re;have fit:=O5 hE ok hs;have K:=mI h0 hx;have hc:=J3 fit h0 hx;rw[WG]at K;generalize aX (E.map d_.b) x=k at K hc|-;let⟨h1,ax,ab,an⟩:=au w [v];have x1:∀{h'},Fr [] h1 h'->aq h' h.i 0 1=some [v]:=fun f=>by rw[(f.c_ an).J];rfl
 have r0:Fr [] h1 h1:=Vk ab.r;refine ai ?_;simp[a_,<-ax,x1 r0];refine aa (CS ab.r (re.fr ab) (fun e m=>(ie e m).fr ab) hE ok hs) ?_;rintro _ h2 ⟨F2,q,hq,rfl,oq⟩;have xb:=eM 1 q 0 (E.length+1) (E.length+1) .i64 (((E.length+1:Nat):Int)-1) oM oM;simp only[(oM:(((E.length+1:Nat):Int)-1).toNat=E.length),WC,VR]at xb;have lt:ag h2 q E.length=some (ZZ (E.map d_.b).sum):=by rw[oq.o,gN,jU iS,if_pos (Ve _),Vm iS]
 simp(disch:=omega) only[a_,seval,ah,show decide (x<0)=false from decide_eq_false oM,xb,lt,show decide ((E.map d_.b).sum<=x)=false from decide_eq_false oM];refine aa (R:=fun u h'=>u=ZZ (k.1:Int)/\Fr [] h2 h') ?_ ?_;let⟨h3,ar,ae,af⟩:=au F2.r [.z q 0 (E.length+1) (E.length+1)];let⟨h4,aj,ac,ak⟩:=au ae.r [ZZ x];have l3:ag h4 h2.i 0=some (.z q 0 (E.length+1) (E.length+1)):=(ac.c_ af).o 0;have Z:=ae.c ac;refine ai ?_;simp(disch:=omega) only[a_,seval,ah,<-ar,<-aj,l3,(oM:((E.length+1:Nat):Int)-1=(E.length:Nat))];refine aa (Eu (k:=k.1) (ac.c_ af) ak (Z.c_ oq) iS oM K (fun i _=>?_)) ?_;grind;rintro _ _ ⟨rfl,rfl⟩;simp[a_];exact Z;rintro _ h5 ⟨rfl,F5⟩;simp[a_];exact(ab.c F2).c F5
def jM(E:List d_)(s:Int):Nat×Int×Int:=if 0<=s/\s<=max 0 ((E.map d_.b).sum-1)then(match E[(aX (E.map d_.b) s).1]? with|some e=>(e.x.A,(aX (E.map d_.b) s).2,0)|none=>(0,0,0))else(0,0,4)
abbrev vA(k:Nat)(d:Int):V:=.B [ZX (k:Int),ZZ d]
theorem Iv{s:Int}(w:WF h)(re:o_ d_.s 6 h v E)(ie:∀e∈E,q_ h e.x)(hE:E.length<=1024)(ok:V0 E)(hs:(E.map d_.b).sum<=4611686018427387904)(is:P8 s):
 av go 34 [.B [v],ZZ s] h fun u h'=>Fr [] h h'/\u=.G [vA (jM E s).1 (jM E s).2.1,ZZ (jM E s).2.2]:=by
 have v1:v.O=true:=Wj re;have t0:=ok.a;let⟨i1,i2⟩:=is;let⟨h1,ax,ar,an⟩:=au w [v];let⟨h2,ay,ak,aj⟩:=au ar.r [ZX 0,ZZ 0];have n1:=s_ ax;have ab:=ar.c ak;have x0:∀{h'},Fr [] h2 h'->ag h' h.i 0=some v:=fun f=>(f.c_ (ak.c_ an)).o 0;have x1:∀{h'},Fr [] h2 h'->aq h' h.i 0 1=some [v]:=fun f=>by rw[(f.c_ (ak.c_ an)).J];rfl
 have r0:Fr [] h2 h2:=Vk ab.r;refine ai ?_;simp[a_,<-ax,<-ay,x1 r0];refine aa (CS ab.r (re.fr ab) (fun e m=>(ie e m).fr ab) hE ok hs) ?_;rintro _ h3 ⟨F3,q,hq,rfl,oq⟩;have ac:=ab.c F3;have fin:∀{h4 h5:b_}{c},Fr [] h h4->Fr [h1.i] h4 h5->f_ h5 h1.i [ZX (c:Int×Int).1,ZZ c.2]->Fr [] h h5/\aq h5 h1.i 0 2=some [ZX c.1,ZZ c.2]:=fun f f' o=>⟨f.y f' w oM,by rw[o.J];rfl⟩;by_cases c0:s<0;simp[a_,decide_eq_true c0];apply u_ F3.r (F3.c_ aj);rintro h4 o4 F4 n4;let⟨f1,f2⟩:=fin (c:=(0,0)) ac F4 o4;simp only[a_,seval,show aq h4 h1.i 0 2=some [ZX 0,ZZ 0]from f2];rw[jM,if_neg oM];exact⟨f1,rfl⟩;simp[a_,decide_eq_false c0,x1 F3];apply aa (qR F3.r (re.fr ac) (fun e m=>(ie e m).fr ac) oM ok hs);rintro _ h4 ⟨rfl,F4⟩;have Z:=ac.c F4;have K:=F3.c F4;obtain⟨m,em⟩:∃m,m=max 0 ((E.map d_.b).sum-1):=⟨_,rfl⟩;by_cases c1:m<s;simp(disch:=omega)[a_,ah,show max 0 ((E.map d_.b).sum-1)=m from em.symm,decide_eq_true c1];apply u_ F4.r (K.c_ aj);rintro h5 o5 F5 n5;let⟨f1,f2⟩:=fin (c:=(0,0)) Z F5 o5;simp only[a_,seval,show aq h5 h1.i 0 2=some [ZX 0,ZZ 0]from f2];rw[jM,if_neg oM];exact⟨f1,rfl⟩;by_cases cE:E.length=0;simp(disch:=omega) only[a_,seval,ah,show max 0 ((E.map d_.b).sum-1)=m from em.symm,decide_eq_false c1,x0 K,(re.fr Z).M,eq_true (oM:((E.length:Nat):Int)=0)];apply u_ F4.r (K.c_ aj);rintro h5 o5 F5 n5;let⟨f1,f2⟩:=fin (c:=(0,0)) Z F5 o5;simp only[a_,seval,show aq h5 h1.i 0 2=some [ZX 0,ZZ 0]from f2];obtain rfl:=WQ cE;rw[jM,if_pos oM];exact⟨f1,rfl⟩;have hx:s<(E.map d_.b).sum:=by
  have:0<(E.map d_.b).sum:=by
   cases E with
   |nil=>simp at cE
   |cons e E=>have:=ok e iS;have:=V0.a (E:=E) fun x m=>ok x iX;simp only[VT,Xb];omega
  omega
 have h0:0<=s:=oM;have hk:=mI h0 hx;have hr:=qP h0 hx;rw[WG]at hk;simp(disch:=omega) only[a_,seval,ah,show max 0 ((E.map d_.b).sum-1)=m from em.symm,decide_eq_false c1,x0 K,x1 K,(re.fr Z).M,eq_false (oM:¬((E.length:Nat):Int)=0)];apply aa (M9 F4.r (re.fr Z) (fun e m=>(ie e m).fr Z) hE ok hs h0 hx);rintro _ h5 ⟨F5,rfl⟩;have af:=Z.c F5;have ae:=K.c F5;rw[jM,if_pos oM];generalize aX (E.map d_.b) s=k at hk hr|-;let⟨bi,oi,e,p1,p2,p3,p4⟩:=(re.fr af).ix aK .i64 (k.1:Int) oM oM;rw[pi]at p4;rw[p4];have l0:ag h5 bi oi=some (ZX (e.x.A:Int)):=p2 0 oM;have xa:=eM 1 q 0 (E.length+1) (E.length+1) .i64 (k.1:Int) oM oM;simp at xa;have lt:ag h5 q k.1=some (ZZ ((E.map d_.b).take k.1).sum):=by rw[((F4.c F5).c_ oq).o,gN,jU oO,if_pos oM]
 have tk:0<=((E.map d_.b).take k.1).sum:=by rw[<-Wf];exact(ok.c _).a
 simp(disch:=omega)[a_,g_,ah,x0 ae,p1,l0,xa,lt,<-hr.2.2];apply u_ F5.r (ae.c_ aj);rintro h6 o6 F6 n6;let⟨f1,f2⟩:=fin (c:=((e.x.A:Int),k.2)) af F6 o6;simp[a_,DF,g_,x0 ae,l0,lt,show aq h6 h1.i 0 2=some [ZX (e.x.A:Int),ZZ k.2]from f2];exact f1
end
theorem Mh{X:List e_}{E:List d_}(ev:X.map e_.Y=E.map (fun e=>e.x.Y)){i:Nat}{x:e_}(p:X[i]? =some x):∃e,E[i]? =some e/\e.x.A=x.A:=by
 have:=congrArg (·[i]?) ev;simp[p]at this;cases q:E[i]? with
 |none=>rw[q]at this;cases this
 |some e=>rw[q]at this;exact⟨e,rfl,(congrArg Prod.fst (WU this)).symm⟩
section
variable {n0 : NL} {h : b_} {b bg B bm S bl : Nat} {Ks : List w_} {cap : Int} {X : List e_} {kn st : List Bool} {vK : V} {pm : Option Nat} {mc : cJ} {E : List d_}
theorem BN{s:Int}(w:WF h)(af:H_ n0 h b Ks cap X (E.map d_.b) kn st vK bg B bm S bl pm mc)(ev:X.map e_.Y=E.map (fun e=>e.x.Y))(ok:V0 E)(is:P8 s):
 av go 33 [.u b 0,ZZ s] h fun u h'=>Fr [] h h'/\u=.G [vA (jM E s).1 (jM E s).2.1,ZZ (jM E s).2.2]:=by
 have t0:=ok.a;have lx:X.length=E.length:=by have:=congrArg List.length ev;simpa using this
 let⟨i1,i2⟩:=is;let⟨h1,a0,ak,an⟩:=au w [ZX 0,ZZ 0];have s1:=af.fr w ak;have fin:∀{h4 h5:b_}{c},Fr [] h h4->Fr [h.i] h4 h5->f_ h5 h.i [ZX (c:Int×Int).1,ZZ c.2]->Fr [] h h5/\aq h5 h.i 0 2=some [ZX c.1,ZZ c.2]:=fun f f' o=>⟨f.y f' w oM,by rw[o.J];rfl⟩;have l4:ag h1 b 4=some (.u bl 0):=s1.ob.o 4;refine ai ?_;simp[a_,<-a0];refine aa (jm s1) ?_;rintro _ _ ⟨rfl,rfl⟩;simp[a_];apply aa (mA s1);rintro _ _ ⟨rfl,rfl⟩;by_cases c0:X.length=0/\s=0;obtain⟨cx,rfl⟩:=c0;have:E=[]:=WQ oM;subst this;simp only[a_,seval,decide_eq_true (oM:((X.length:Nat):Int)=0)];apply u_ ak.r an;rintro h4 o4 F4 n4;let⟨f1,f2⟩:=fin (c:=(0,0)) ak F4 o4;simp only[a_,seval,show aq h4 h.i 0 2=some [ZX 0,ZZ 0]from f2];exact⟨f1,rfl⟩;have step:∀{K:V->b_->Prop},OQ (go 80 [.u bl 0,ZZ s] h1) K->True:=fun _=>trivial;have ab:=NC (x:=s) ak.r s1.lo.lo i1 i2;by_cases c1:X.length=0;have hs:¬s=0:=fun z=>c0 ⟨c1,z⟩;have:E=[]:=WQ oM;subst this;simp at ab;simp only[a_,seval,decide_eq_true (oM:((X.length:Nat):Int)=0),decide_eq_false hs,l4];apply aa ab;rintro _ h2 ⟨rfl,Z⟩;rw[if_neg oM];simp[a_];apply u_ Z.r (Z.c_ an);rintro h4 o4 F4 n4;let⟨f1,f2⟩:=fin (c:=(0,0)) (ak.c Z) F4 o4;simp only[a_,seval,show aq h4 h.i 0 2=some [ZX 0,ZZ 0]from f2];rw[jM,if_neg (by simp only[Xz,List.sum_nil];omega)];exact⟨f1,rfl⟩;simp only[a_,seval,decide_eq_false (oM:¬((X.length:Nat):Int)=0),l4];apply aa ab;rintro _ h2 ⟨rfl,Z⟩;have ac:=ak.c Z;have hp:0<(E.map d_.b).sum:=by
  cases E with
  |nil=>simp only[XU]at lx;omega
  |cons e E=>have:=ok e iS;have:=V0.a (E:=E) fun x m=>ok x iX;simp only[VT,Xb];omega
 by_cases c2:0<=s/\s<(E.map d_.b).sum;rw[if_pos c2];have hk:=mI c2.1 c2.2;rw[WG]at hk;rw[jM,if_pos oM];generalize aX (E.map d_.b) s=k at hk|-;have p:X[k.1]? =some X[k.1]:=Vp oM;generalize X[k.1]=x at p;have xm:=Vg p;let⟨e,pe,ek⟩:=Mh ev p;rw[pe];have s2:=s1.fr ak.r Z;have ax:=(s2.rd [] h2 iS (Vk Z.r)).2.2 x xm;let⟨v,a2,G,a1,a,g,m,kk,ec,en⟩:=s2.g;have l2:ag h2 b 2=some (.u bg 0):=s2.ob.o 2;simp[a_,l2];apply aa (uJ Z.r kk (i:=k.1) oM);rintro _ h3 ⟨F3,rfl⟩;rw[<-ec,yJ p];let⟨h4,ay,ar,aH⟩:=au F3.r Z4';have n3:=F3.i;have n2:=Z.i;have n1:=ak.i;simp[a_,<-ay];refine ao (c':=x.s) ar.r aH rfl ax.O rfl ?_;rintro h5 o5 F5 n5;have ae:Fr [] h3 h5:=ar.y F5 F3.r (Ve _);have l5:ag h5 h3.i 0=some (ZX (x.A:Int)):=o5.o 0;have aj:=(ac.c F3).c ae;simp[a_,l5];apply ao (c':=[ZX (x.A:Int),ZZ k.2]) F5.r (ae.c_ (F3.c_ (Z.c_ an))) rfl rfl rfl;rintro h6 o6 F6 n6;let⟨f1,f2⟩:=fin (c:=((x.A:Int),k.2)) aj F6 o6;simp only[a_,seval,show aq h6 h.i 0 2=some [ZX (x.A:Int),ZZ k.2]from f2];exact⟨f1,by rw[ek]⟩;rw[if_neg c2];simp[a_];apply u_ Z.r (Z.c_ an);rintro h4 o4 F4 n4;let⟨f1,f2⟩:=fin (c:=(0,0)) ac F4 o4;simp only[a_,seval,show aq h4 h.i 0 2=some [ZX 0,ZZ 0]from f2];rw[jM,if_neg oM];exact⟨f1,rfl⟩
end
open Go.Ev.St
def vP(K:List Nat)(i:Nat):List Nat:=K.drop (i+1)++(K.take i).reverse
def gL(mB mN:Nat->Option Nat)(KB KN:List Nat)(k:Nat)(d:Int):Nat×Int:=
 match mN k with
 |some _=>(k,d)
 |none=>match(match mB k with|some i=>vP KB i|none=>[]).find? fun y=>(mN y).isSome with
  |some y=>(y,0)
  |none=>(KN.headD 0,0)
abbrev ZR:List V:=[ZX 0,ZZ 0]
section
variable {n0 : NL} {h : b_} {b bg B bm S bl : Nat} {Ks : List w_} {cap : Int} {X : List e_} {l : List Int} {kn st : List Bool} {vK : V} {pm : Option Nat} {mc : cJ}
theorem IA{env:T V}{p6:Nat}{R:V->b_->Prop}(w:WF h)(s:H_ n0 h b Ks cap X l kn st vK bg B bm S bl pm mc)(o6:f_ h p6 ZR)(g0:env.c_ 0=some (.u b 0))(g6:env.c_ 6=some (.u p6 0))
 (K:∀h',Fr [p6] h h'->R (vA ((X.map e_.A).headD 0) 0) h'):W go afT env h (jz [.c 6 2 true] R):=by
 have l2:ag h b 2=some (.u bg 0):=s.ob.o 2;simp[a_,afT,g0];apply aa (mA s);rintro _ _ ⟨rfl,rfl⟩;by_cases c:X.length=0;simp only[a_,seval,g6,eq_true (oM:((X.length:Nat):Int)=0)];apply u_ w o6;rintro h4 o4 F4 n4;have l4:aq h4 p6 0 2=some ZR:=by rw[o4.J];rfl
 simp[a_,g6,l4];have:=K _ F4;obtain rfl:=WQ c;exact this;have p:X[0]? =some X[0]:=Vp oM;have hd:(X.map e_.A).headD 0=X[0].A:=by
  cases X with
  |nil=>simp at c
  |cons=>rfl
 rw[hd]at K;generalize X[0]=x at p K;have ax:=(s.rd [] h iS (Vk w)).2.2 x (Vg p);let⟨v,an,G,ak,a,g,m,kk,ec,en⟩:=s.g;simp only[a_,seval,g0,l2,eq_false (oM:¬((X.length:Nat):Int)=0)];apply aa (uJ w kk (i:=0) oM);rintro _ h3 ⟨Z,rfl⟩;rw[<-ec,yJ p];let⟨h4,af,ae,aj⟩:=au Z.r Z4';have n3:=Z.i;simp[a_,<-af];refine ao (c':=x.s) ae.r aj rfl ax.O rfl ?_;rintro h5 o5 F5 n5;have ab:Fr [] h3 h5:=ae.y F5 Z.r (Ve _);have l5:ag h5 h3.i 0=some (ZX (x.A:Int)):=o5.o 0;simp[a_,l5,g6];apply u_ F5.r (ab.c_ (Z.c_ o6));rintro h6 ac F6 n6;have l6:aq h6 p6 0 2=some [ZX (x.A:Int),ZZ 0]:=by rw[ac.J];rfl
 simp[a_,l6,g6];exact K _ (Vn (Z.c ab) F6 w iS (fun x m=>.inl m))
theorem wy{k:Nat}{d:Int}{vb:V}{mB:Nat->Option Nat}{XB:List e_}(w:WF h)(s:H_ n0 h b Ks cap X l kn st vK bg B bm S bl pm mc)(hk:k<18446744073709551616)(hz:mc.1 0=none)(hX:∀x∈XB,x.A<18446744073709551616)(hn:XB.length<=4096)
 (hF:∀h',Fr [] h h'->av go 10 [vb,ZX (k:Int)] h' fun u h''=>u=dh (mB k)/\Fr [] h' h'')
 (hL:∀i h',mB k=some i->Fr [] h h'->i<XB.length/\∃cb bg,vb=.u cb 0/\ag h' cb 2=some (.u bg 0)/\av go 65 [.u bg 0] h' fun u h''=>Fr [] h' h''/\o_ e_.s 4 h'' u XB):
 av go 36 [.u b 0,vb,vA k d] h fun u h'=>Fr [] h h'/\u=vA (gL mB mc.1 (XB.map e_.A) (X.map e_.A) k d).1 (gL mB mc.1 (XB.map e_.A) (X.map e_.A) k d).2:=by
 let⟨h1,a6,a5,a4⟩:=au w [ZX (k:Int),ZZ d];let⟨h2,a7,a3,a2⟩:=au a5.r ZR;have n1:=s_ a6;have Z:=a5.c a3;have s2:=s.fr w Z;have k0:∀{h'},Fr [] h2 h'->ag h' h.i 0=some (ZX (k:Int)):=fun f=>(f.c_ (a3.c_ a4)).o 0;have r0:Fr [] h2 h2:=Vk Z.r;have fin:∀{h4 h5:b_}{c},Fr [] h h4->Fr [h1.i] h4 h5->f_ h5 h1.i [ZX (c:Int×Int).1,ZZ c.2]->Fr [] h h5/\aq h5 h1.i 0 2=some [ZX c.1,ZZ c.2]:=fun f f' o=>⟨f.y f' w oM,by rw[o.J];rfl⟩;refine ai ?_;simp[a_,<-a6,<-a7,k0 r0];refine aa (pD Z.r s2 hk) ?_;rintro _ h3 ⟨rfl,F3⟩;cases e:mc.1 k with
 |some i=>
  have kz:¬k=0:=by grind
  have l2:aq h3 h.i 0 2=some [ZX (k:Int),ZZ d]:=by rw[(F3.c_ (a3.c_ a4)).J];rfl
  simp only[a_,seval,dh,k0 F3,l2,eq_false (oM:¬(k:Int)=0)];apply u_ F3.r (F3.c_ a2);rintro h4 o4 F4 n4;let⟨f1,f2⟩:=fin (c:=((k:Int),d)) (Z.c F3) F4 o4;simp only[a_,seval,show aq h4 h1.i 0 2=some [ZX (k:Int),ZZ d]from f2];simp only[gL,e];exact⟨f1,trivial⟩
 |none=>
  simp[a_,dh,k0 F3];apply aa (hF h3 (Z.c F3));rintro _ h4 ⟨rfl,F4⟩;have aj:=F3.c F4;have an:=Z.c aj;cases eB:mB k with
  |none=>simp[a_,dh];refine IA F4.r (s2.fr Z.r aj) (aj.c_ a2) iS iS (fun h' f=>?_);simp only[gL,e,eB,Yy];exact⟨an.y f w oM,trivial⟩
  |some i=>
   obtain⟨hi,cb,a1,rfl,lb,dl⟩:=hL i h4 eB an;simp[a_,dh,lb];apply aa dl;rintro u h5 ⟨F5,ru⟩;have ac:∀{hh},Fr [] h5 hh->o_ e_.s 4 hh u XB:=fun f=>VJ ru f;have ax:=aj.c F5;have ay:=an.c F5;simp(disch:=omega)[a_,ah];refine aC (fun n env hh=>Fr [] h5 hh/\∃j:Nat,env.c_ 12=some (ZZ j)/\env.c_ 11=some u/\env.c_ 9=some (ZZ i)/\env.c_ 0=some (.u b 0)/\env.c_ 6=some (.u h1.i 0)/\i+1<=j/\j<=XB.length/\
    (vP (XB.map e_.A) i).find? (fun y=>(mc.1 y).isSome)=((XB.map e_.A).drop j++((XB.map e_.A).take i).reverse).find? (fun y=>(mc.1 y).isSome)/\n=XB.length-j) (XB.length-(i+1)) oM ?_ ?_
   exact⟨Vk F5.r,i+1,iS,iS,iS,iS,iS,oM,oM,rfl,rfl⟩;rintro n env hh ⟨F,j,ae,K,g9,g0,g6,hj,aH,fe,rfl⟩;have ab:=ax.c F;have af:=ay.c F;have sx:=s2.fr Z.r ab;by_cases c:j<XB.length;let⟨bi,oi,x,p1,p2,p3,p4⟩:=(ac F).ix aT .i64 (j:Int) oM oM;rw[pi]at p4;have lk:ag hh bi oi=some (ZX (x.A:Int)):=p2 0 oM;have dx:(XB.map e_.A).drop j=x.A::(XB.map e_.A).drop (j+1):=by rw[<-VZ,<-VZ,aN p4];rfl
   rw[dx,Wq,YN]at fe;simp only[a_,seval,ae,K,g0,(ac F).M,(oM:(j:Int)<XB.length),p1,lk];apply aa (pD F.r sx (hX x (Vg p4)));rintro _ h6 ⟨rfl,F6⟩;cases ex:mc.1 x.A with
   |some r=>let⟨bj,oj,x',q1,q2,q3,q4⟩:=(ac (F.c F6)).ix aT .i64 (j:Int) oM oM;rw[pi,p4]at q4;cases q4;rw[p1]at q1;cases q1;have ar:ag h6 bi oi=some ( ZX (x.A:Int)):=q2 0 oM;simp only[a_,seval,dh,ae,K,g6,p1,ar];apply u_ F6.r ((ab.c F6).c_ a2);rintro h7 o7 F7 n7;let⟨f1,f2⟩:=fin (c:=((x.A:Int),0)) (af.c F6) F7 o7;simp only[a_,seval,g6,show aq h7 h1.i 0 2=some [ZX (x.A:Int), ZZ 0]from f2];simp[ex]at fe;simp only[gL,e,eB,fe];exact⟨f1,trivial⟩
   |none=>simp only[ex,YP]at fe;simp(disch:=omega) only[a_,seval,ah,dh,ae];refine t_ ⟨XB.length-(j+1),oM,F.c F6,j+1,iS,iX,iX,iX,iX,oM,oM,fe,rfl⟩
   obtain rfl:j=XB.length:=oM;rw[Vq iS,Wv]at fe;simp(disch:=omega)[a_,ah,ae,K,g9,(ac F).M];refine aC (fun n env hh=>Fr [] h5 hh/\∃(j:Nat)(z:Int),env.c_ 15=some (ZZ z)/\z=(j:Int)-1/\env.c_ 11=some u/\env.c_ 0=some (.u b 0)/\env.c_ 6=some (.u h1.i 0)/\j<=i/\
    (vP (XB.map e_.A) i).find? (fun y=>(mc.1 y).isSome)=(((XB.map e_.A).take j).reverse).find? (fun y=>(mc.1 y).isSome)/\n=j) i oM ?_ ?_
   exact⟨F,i,_,iS,rfl,iX,iX,iX,oM,fe,rfl⟩;clear F ab af sx ae K g9 g0 g6 fe hj aH c;rintro n env hh ⟨F,j,z,ak,a0,K,g0,g6,hj,fe,rfl⟩;have ab:=ax.c F;have af:=ay.c F;have sx:=s2.fr Z.r ab;cases n with
   |succ j=>
    obtain rfl:z=(j:Int):=oM;let⟨bi,oi,x,p1,p2,p3,p4⟩:=(ac F).ix aT .i64 (j:Int) oM oM;rw[pi]at p4;have lk:ag hh bi oi=some (ZX (x.A:Int)):=p2 0 oM;have dx:((XB.map e_.A).take (j+1)).reverse=x.A::((XB.map e_.A).take j).reverse:=by rw[Vs,VY,p4];simp
    rw[dx,YN]at fe;simp[a_,ak,K,g0,p1,lk];apply aa (pD F.r sx (hX x (Vg p4)));rintro _ h6 ⟨rfl,F6⟩;cases ex:mc.1 x.A with
    |some r=>let⟨bj,oj,x',q1,q2,q3,q4⟩:=(ac (F.c F6)).ix aT .i64 (j:Int) oM oM;rw[pi,p4]at q4;cases q4;rw[p1]at q1;cases q1;have ar:ag h6 bi oi=some ( ZX (x.A:Int)):=q2 0 oM;simp[a_,dh,ak,K,g6,p1,ar];apply u_ F6.r ((ab.c F6).c_ a2);rintro h7 o7 F7 n7;let⟨f1,f2⟩:=fin (c:=((x.A:Int),0)) (af.c F6) F7 o7;simp only[a_,seval,g6,show aq h7 h1.i 0 2=some [ ZX (x.A:Int),ZZ 0]from f2];simp[ex]at fe;simp only[gL,e,eB,fe];exact⟨f1,trivial⟩
    |none=>simp[ex]at fe;simp(disch:=omega)[a_,ah,dh,ak];refine t_ ⟨j,oM,F.c F6,j,_,iS,rfl,(eG K),(eG g0),(eG g6),oM,fe,rfl⟩
   |zero=>simp only[XN,List.reverse_nil,Yy]at fe;simp[a_,ak,decide_eq_false (oM:¬(0:Int)<=z)];refine IA F.r sx (ab.c_ a2) iX iX (fun h' f=>?_);simp only[gL,e,eB,fe];exact⟨af.y f w oM,trivial⟩
end
end Go.Ev.Lay
namespace Go.Ev
variable {call : aL}
theorem Fg {ov : aL} {F : T l_} {b : Nat} {vs : List V} {h : b_} {R : V -> b_ -> Prop} (hF : 2 ^ F.av <= 1099511627776) {ps : List Nat} {as bd : IC} {env : T V} (hb : h.S.c_ b = some (.b ps as bd env 0 none)) (hl : vs.length = ps.length)
    (k : W (ev ov F) as (nQ ps vs env) h fun e env1 h1 => e = .a /\ ∃ ps1 as1 bd1 en1 p1, h1.S.c_ b = some (.b ps1 as1 bd1 en1 0 p1) /\
      W (ev ov F) bd env1 (K_ h1 b (.b ps1 as1 bd1 en1 1 p1)) fun e2 _ h2 => e2 = .d /\ ∃ ps2 as2 bd2 en2 s2 p2, h2.S.c_ b = some (.b ps2 as2 bd2 en2 s2 p2) /\ R (.h false) (K_ h2 b (.b ps2 as2 bd2 en2 2 (some .d)))) :
    av (ev ov F) (YB + b) vs h R := by
  obtain ⟨_, env1, h1, e1, rfl, ps1, as1, bd1, en1, p1, hb1, _, env2, h2, e2, rfl, ps2, as2, bd2, en2, s2, p2, hb2, r⟩ := k
  refine ⟨_, _, AS (T.az F _ (by have : (1099511627776 : Nat) <= YB := (by decide); omega)) ?_, r⟩
  unfold ZV
  rw [hb]
  have hl' : Nat.beq vs.length ps.length = true := by rw [hl]; exact WO _
  simp [hl']
  rw [e1]
  simp [hb1]
  rw [e2]
  simp [hb2]
end Go.Ev
namespace Go.Ev.Lay
variable{env:T V}{Q':Nat->Prop}{h' hh:b_}{S0:List Nat}{E:List d_}{Ks:List w_}{vK vE vB:V}{p5 p8 p13 zk:Nat}{off zd:Int}{n0:NL}
open Go.Ev.St
abbrev kJ:IC:=.o [⟨none,.p .o [.v 37],some 11⟩]
section
variable {hX h : b_} {B p1 p2 p4 p6 : Nat} {en : T V} {vB vN : V} {N Bs : List d_} {mN mB : Nat -> Option Nat}
theorem wW{y:Nat}(wX:WF hX)(w:WF h)(FX:Fr [] hX h)(hB:hX.i<=B)(re:o_ d_.s 6 hX vN N)(ie:∀e∈N,q_ hX e.x)(hN:N.length<=4096)(ix:R1 mN N)(hb:h.S.c_ B=some (.b [37] kJ YZ en 0 none))
 (g4:en.c_ 4=some (.u p4 0)) (g6:en.c_ 6=some (.u p6 0)) (o4:f_ h p4 [vN]) (o6:f_ h p6 ZR) (ak:p4≠p6):
 av go (YB+B) [ZX (y:Int)] h fun u h'=>match mN y with
  |none=>u=.h true/\Q6 [] B h h'/\h'.S.c_ B=some (.b [37] kJ YZ en 0 none)
  |some _=>u=.h false/\Q6 [p6] B h h'/\f_ h' p6 [ ZX (y:Int), ZZ 0]/\∃ps as bd en,h'.S.c_ B=some (.b ps as bd en 2 (some .d)):=by
 have v1:vN.O=true:=Wj re;have X3:Q6 [] B h (K_ h B (.b [37] kJ YZ en 1 none)):=XP w hb rfl _;have K:(K_ h B (.b [37] kJ YZ en 1 none)).S.c_ B=some (.b [37] kJ YZ en 1 none):=jI _ _ _;obtain⟨h3,e3⟩:∃h3,h3=K_ h B (.b [37] kJ YZ en 1 none):=⟨_,rfl⟩;have ae:Fr [] hX h3:=e3▸YE wX FX X3 iS hB;rw[<-e3]at X3 K;have l4:aq h3 p4 0 1=some [vN]:=by rw[(X3.d _ _ iS o4).J];rfl
 have aj:=X3.d _ _ iS o6;have ac:=uv (key:=y) X3.e (re.fr ae) (fun e m=>(ie e m).fr ae) hN ix;cases e:mN y with
 |none=>apply uR ND hb rfl;simp only[nQ];simp only[a_,seval];refine⟨[37],kJ,YZ,en,none,hb,?_⟩;rw[<-e3];simp only[a_,seval,YZ,g4,l4];apply aa ac;rintro _ h4 ⟨rfl,Z⟩;have af:=Z.lp B _ rfl K;simp only[a_,seval,dh,e];exact⟨[37],kJ,YZ,en,1,none,af,(X3.a (Z.b iS)).a (XP Z.r af rfl _),jI _ _ _⟩
 |some r=>apply Fg ND hb rfl;simp only[nQ];simp only[a_,seval];refine⟨[37],kJ,YZ,en,none,hb,?_⟩;rw[<-e3];simp only[a_,seval,YZ,g4,l4];apply aa ac;rintro _ h4 ⟨rfl,Z⟩;simp only[a_,seval,dh,e,g6];apply u_ Z.r (Z.c_ aj);rintro h5 o5 F5 n5;have ab:=F5.lp B _ rfl (Z.lp B _ rfl K);simp only[a_];have X6:Q6 [] B h5 (K_ h5 B (.b [37] kJ YZ en 2 (some .d))):=XP F5.r ab rfl _;exact⟨[37],kJ,YZ,en,1,none,ab,((Q6.a (Fr.b (S:=[p6]) (S':=[]) (Vk w) iS) (e3▸XP w hb rfl _)).a (Z.b iS)).a ((F5.b iS).a (XP F5.r ab rfl _)),X6.d _ _ iS o5,[37],kJ,YZ,en,jI _ _ _⟩
theorem EU{i:Nat}(wX:WF hX)(w:WF h)(FX:Fr [] hX h)(hB:hX.i<=B)(h6:hX.i<=p6)(ay:p4≠p6)(ax:o_ d_.s 6 hX vB Bs)(a3:∀e∈Bs,q_ hX e.x)(a4:Bs.length<=4096)(nB:vB≠.F)
 (ar:o_ d_.s 6 hX vN N) (ak:∀e∈N,q_ hX e.x) (hN:N.length<=4096) (ix:R1 mN N) (hb:h.S.c_ B=some (.b [37] kJ YZ en 0 none)) (g4:en.c_ 4=some (.u p4 0)) (g6:en.c_ 6=some (.u p6 0))
 (o1:f_ h p1 [vB]) (o2:f_ h p2 [ZZ (i:Int)]) (o4:f_ h p4 [vN]) (o6:f_ h p6 ZR) (hi:i<Bs.length):
 av go 162 [.ak B,.u p1 0,.u p2 0] h fun _ h'=>Fr [] hX h'/\match(vP (aE Bs) i).find? (fun y=>(mN y).isSome)with
  |none=>Q6 [] B h h'/\h'.S.c_ B=some (.b [37] kJ YZ en 0 none)
  |some y=>f_ h' p6 [ ZX (y:Int), ZZ 0]/\∃ps as bd en,h'.S.c_ B=some (.b ps as bd en 2 (some .d)):=by
 have l1:ag h p1 0=some vB:=o1.o 0;have l2:ag h p2 0=some (ZZ (i:Int)):=o2.o 0;let⟨v',sl,ss⟩:=Sl.aO ax oM nB .i64 ((i:Int)+1) oM oM;have rt:o_ d_.s 6 hX v' (Bs.drop (i+1)):=by have e1:((i:Int)+1).toNat=i+1:=oM;rw[e1]at ss;unfold o_;rw[Xv,<-bI aK];exact ss
 have tl:(Bs.drop (i+1)).length=Bs.length-(i+1):=Xv;have fB:∀{K},Q6 [] B h K->Fr [] hX K:=fun f=>YE wX FX f iS hB;refine ai ?_;simp(disch:=omega) only[a_,seval,ah,l1,l2,sl,(rt.fr FX).M];generalize hP:(fun y=>(mN y).isSome)=P;refine aC (fun n env K=>Q6 [] B h K/\K.S.c_ B=some (.b [37] kJ YZ en 0 none)/\∃j:Nat,env.c_ 13=some (ZZ j)/\env.c_ 12=some (ZZ (Bs.drop (i+1)).length)/\env.c_ 11=some v'/\env.c_ 0=some (.ak B)/\env.c_ 1=some (.u p1 0)/\env.c_ 2=some (.u p2 0)/\j<=(Bs.drop (i+1)).length/\
  (vP (aE Bs) i).find? P=((aE (Bs.drop (i+1))).drop j++((aE Bs).take i).reverse).find? P/\n=(Bs.drop (i+1)).length-j) (Bs.drop (i+1)).length oM ?_ ?_
 exact⟨Fr.b (S':=[]) (Vk w) iS,hb,0,iS,iS,iS,iS,iS,iS,oM,by rw[vP,Xo,aE,aE,VZ],rfl⟩;rintro n env K ⟨F,lp,j,ae,af,a0,g0,g1,g2,hj,Z,rfl⟩;have Fx:=fB F;by_cases c:j<(Bs.drop (i+1)).length;let⟨bi,oi,e,q1,q2,q3,q4⟩:=(rt.fr Fx).ix aK .i64 (j:Int) oM oM;rw[pi]at q4;have em:e∈Bs:=VU (Vg q4);have dx:(aE (Bs.drop (i+1))).drop j=e.x.A::(aE (Bs.drop (i+1))).drop (j+1):=by rw[aE,<-VZ,<-VZ,aN q4];rfl
 rw[dx,Wq,YN]at Z;let⟨h3,a7,a5,a6⟩:=au F.e [ZX 0,ZY 0,.f [],.j,ZZ 0,.h false];simp only[a_,seval,ae,af,a0,(oM:(j:Int)<(Bs.drop (i+1)).length),q1,q3,<-a7];refine ao (c':=e.s) a5.r a6 rfl (dF ((a3 e em).fr Fx)) rfl ?_;rintro h4 a2 F4 n4;have aH:Fr [] K h4:=a5.y F4 F.e (Ve _);have l4:ag h4 K.i 0=some (ZX (e.x.A:Int)):=a2.o 0;have ac:=F.a (aH.b (S:=[]) (B:=B) iS);simp only[a_,seval,g0,l4,CM];refine aa (wW (y:=e.x.A) wX F4.r (fB ac) hB ar ak hN ix (aH.lp B _ rfl lp) g4 g6 (ac.d _ _ iS o4) (ac.d _ _ iS o6) ay) ?_;rintro u h5 q;cases ex:mN e.x.A with
 |none=>
  rw[ex]at q;obtain⟨rfl,F5,ab⟩:=q;have:P e.x.A=false:=by grind
  rw[this]at Z;simp(disch:=omega) only[a_,seval,ah,ae];refine t_ ⟨(Bs.drop (i+1)).length-(j+1),oM,ac.a F5,ab,j+1,iS,iX,iX,iX,iX,iX,oM,Z,rfl⟩
 |some r=>
  rw[ex]at q;obtain⟨rfl,F5,o5,ab⟩:=q;have:P e.x.A=true:=by grind
  rw[this]at Z;simp[a_];rw[Z];exact⟨YE wX (fB ac) F5 (by simp;exact h6) hB,o5,ab⟩
 rw[Vq (by rw[aE,WG];omega),Wv]at Z;have an:ag K p2 0=some (ZZ (i:Int)):=(F.d _ _ iS o2).o 0;simp(disch:=omega) only[a_,seval,ah,ae,af,g2,(oM:¬(j:Int)<(Bs.drop (i+1)).length),an];refine aC (fun n env K=>Q6 [] B h K/\K.S.c_ B=some (.b [37] kJ YZ en 0 none)/\∃(j:Nat)(z:Int),env.c_ 6=some (ZZ z)/\z=(j:Int)-1/\env.c_ 0=some (.ak B)/\env.c_ 1=some (.u p1 0)/\j<=i/\
  (vP (aE Bs) i).find? P=(((aE Bs).take j).reverse).find? P/\n=j) i oM ?_ ?_
 exact⟨F,lp,i,_,iS,rfl,iX,iX,oM,Z,rfl⟩;clear F lp ae af a0 g0 g1 g2 hj Z c Fx an;rintro n env K ⟨F,lp,j,z,aj,hz,g0,g1,hj,Z,rfl⟩;have Fx:=fB F;cases n with
 |succ j=>
  obtain rfl:z=(j:Int):=oM;let⟨bi,oi,e,q1,q2,q3,q4⟩:=(ax.fr Fx).ix aK .i64 (j:Int) oM oM;rw[pi]at q4;have lk:ag K bi oi=some (ZX (e.x.A:Int)):=q2 0 oM;have a1:ag K p1 0=some vB:=(F.d _ _ iS o1).o 0;have dx:((aE Bs).take (j+1)).reverse=e.x.A::((aE Bs).take j).reverse:=by rw[aE,Vs,VY,q4];simp
  rw[dx,YN]at Z;simp[a_,aj,g0,g1,a1,q1,lk,CM];refine aa (wW (y:=e.x.A) wX F.e Fx hB ar ak hN ix lp g4 g6 (F.d _ _ iS o4) (F.d _ _ iS o6) ay) ?_;rintro u h5 q;cases ex:mN e.x.A with
  |none=>
   rw[ex]at q;obtain⟨rfl,F5,ab⟩:=q;have:P e.x.A=false:=by grind
   rw[this]at Z;simp(disch:=omega)[a_,ah,aj];refine t_ ⟨j,oM,F.a F5,ab,j,_,iS,rfl,(eG g0),(eG g1),oM,Z,rfl⟩
  |some r=>
   rw[ex]at q;obtain⟨rfl,F5,o5,ab⟩:=q;have:P e.x.A=true:=by grind
   rw[this]at Z;simp[a_];rw[Z];exact⟨YE wX Fx F5 (by simp;exact h6) hB,o5,ab⟩
 |zero=>simp only[XN,List.reverse_nil,Yy]at Z;simp[a_,aj,decide_eq_false (oM:¬(0:Int)<=z)];rw[Z];exact⟨Fx,F,lp⟩
theorem HN{i:Nat}(w:WF h)(Z:vB.O=true):av go 86 [.B [vB],ZZ (i:Int)] h fun u h'=>Fr [] h h'/\∃a c,u=.I (.func 162) [] [.u a 0,.u c 0]/\f_ h' a [vB]/\f_ h' c [ZZ (i:Int)]/\h.i<=a/\h.i<=c:=by let⟨h1,ak,ab,af⟩:=au w [vB];let⟨h2,ae,ac,aj⟩:=au ab.r [ZZ (i:Int)];have K:=ab.i;refine ai ?_;simp only[a_,seval,<-ak,<-ae];exact⟨ab.c ac,_,_,rfl,ac.c_ af,aj,oM,oM⟩
theorem Cz{R:V->b_->Prop}(w:WF h)(re:o_ d_.s 6 h vN N)(o4:f_ h p4 [vN])(o6:f_ h p6 ZR)(g4:env.c_ 4=some (.u p4 0))(Z:env.c_ 6=some (.u p6 0))
 (K:∀h',Fr [p6] h h'->R (vA ((aE N).headD 0) 0) h'):W go afU env h (jz [.c 6 2 true] R):=by
 have l4:ag h p4 0=some vN:=o4.o 0;simp only[a_,seval,afU,g4,l4,re.M];by_cases c:N.length=0;simp only[a_,seval,Z,eq_true (oM:((N.length:Nat):Int)=0)];apply u_ w o6;rintro h4 o4 F4 n4;have l4:aq h4 p6 0 2=some ZR:=by rw[o4.J];rfl
 simp[a_,Z,l4];have:=K _ F4;obtain rfl:=WQ c;exact this;let⟨bi,oi,e,q1,q2,q3,q4⟩:=re.ix aK .i64 0 oM oM;have lk:ag h bi oi=some (ZX (e.x.A:Int)):=q2 0 oM;have hd:(aE N).headD 0=e.x.A:=by
  cases N with
  |nil=>simp at c
  |cons a l=>simp at q4;subst q4;rfl
 rw[hd]at K;simp only[a_,seval,Z,q1,lk,eq_false (oM:¬((N.length:Nat):Int)=0)];apply u_ w o6;rintro h6 ab F6 n6;have l6:aq h6 p6 0 2=some [ZX (e.x.A:Int),ZZ 0]:=by rw[ab.J];rfl
 simp[a_,l6,Z];exact K _ F6
theorem NM{Q:Ex->T V->b_->Prop}{i:Nat}(wX:WF hX)(w:WF h)(FX:Fr [] hX h)(h6:hX.i<=p6)(ab:p4≠p6)(ak:o_ d_.s 6 hX vB Bs)(ae:∀e∈Bs,q_ hX e.x)(aj:Bs.length<=4096)(nB:vB≠.F)
 (af:o_ d_.s 6 hX vN N) (an:∀e∈N,q_ hX e.x) (hN:N.length<=4096) (ix:R1 mN N) (ac:env.c_ 36=some (.I (.func 162) [] [.u p1 0,.u p2 0])) (g4:env.c_ 4=some (.u p4 0)) (g6:env.c_ 6=some (.u p6 0))
 (o1:f_ h p1 [vB]) (o2:f_ h p2 [ZZ (i:Int)]) (o4:f_ h p4 [vN]) (o6:f_ h p6 ZR) (hi:i<Bs.length)
 (kN:(vP (aE Bs) i).find? (fun y=>(mN y).isSome)=none->∀h',Fr [] hX h'->f_ h' p4 [vN]->f_ h' p6 ZR->Q .a env h')
 (kS:∀y,(vP (aE Bs) i).find? (fun y=>(mN y).isSome)=some y->∀h',Fr [] hX h'->f_ h' p6 [ZX (y:Int),ZZ 0]->Q .d env h'):W go (.s (.v 36) [37] kJ YZ) env h Q:=by
 refine Ox (f:=162) (first:=[]) (caps:=[.u p1 0,.u p2 0]) ac oM ?_;have Z:Fr [] h (T4 h (.b [37] kJ YZ env 0 none)):=Fr.aP w _;have hn:=FX.i;simp only[Wv,Wq];apply aa (EU wX Z.r (FX.c Z) hn h6 ab ak ae aj nB af an hN ix (jJ _ _) g4 g6 (Z.c_ o1) (Z.c_ o2) (Z.c_ o4) (Z.c_ o6) hi);rintro u K ⟨F2,q⟩;cases e:(vP (aE Bs) i).find? (fun y=>(mN y).isSome)with
 |none=>rw[e]at q;let⟨Fb,lp⟩:=q;have X:Q6 [] h.i K (K_ K h.i .d):=XP Fb.e lp rfl _;exact⟨_,_,_,_,_,_,lp,oM,kN e _ (YE wX F2 X iS hn) (X.d _ _ iS (Fb.d _ _ iS (Z.c_ o4))) (X.d _ _ iS (Fb.d _ _ iS (Z.c_ o6)))⟩
 |some y=>rw[e]at q;let⟨o,ps,as,bd,en,lp⟩:=q;have X:Q6 [] h.i K (K_ K h.i .d):=XP F2.r lp rfl _;exact⟨_,_,_,_,_,_,lp,oM,kS y e _ (YE wX F2 X iS hn) (X.d _ _ iS o)⟩
theorem Bw{k:Nat}{d:Int}(w:WF h)(af:o_ d_.s 6 h vB Bs)(ax:∀e∈Bs,q_ h e.x)(ar:Bs.length<=4096)(nB:vB≠.F)(K:o_ d_.s 6 h vN N)(a1:∀e∈N,q_ h e.x)(hN:N.length<=4096)
 (ay:R1 mB Bs) (a0:R1 mN N) (zB:mB 0=none) (zN:mN 0=none):
 av go 37 [.B [vB],.B [vN],vA k d] h fun u h'=>Fr [] h h'/\u=vA (gL mB mN (aE Bs) (aE N) k d).1 (gL mB mN (aE Bs) (aE N) k d).2:=by
 have b1:vB.O=true:=Wj af;have c1:vN.O=true:=Wj K;let⟨h1,bf,bg,bi⟩:=au w [vB];let⟨h2,bh,a8,bk⟩:=au bg.r [vN];let⟨h3,bc,ba,bj⟩:=au a8.r [ZX (k:Int),ZZ d];let⟨h4,a9,a7,a6⟩:=au ba.r ZR;have n1:=s_ bf;have n2:=s_ bh;have n3:=s_ bc;have a2:=a7;have an:=ba.c a7;have aH:=a8.c an;have Z:=bg.c aH;have o3:=aH.c_ bi;have o4:=an.c_ bk;have o5:=a2.c_ bj;have k0:∀{h'},Fr [] h4 h'->ag h' h2.i 0=some (ZX (k:Int)):=fun f=>(f.c_ o5).o 0;have x3:∀{h'},Fr [] h4 h'->aq h' h.i 0 1=some [vB]:=fun f=>by rw[(f.c_ o3).J];rfl
 have x4:∀{h'},Fr [] h4 h'->aq h' h1.i 0 1=some [vN]:=fun f=>by rw[(f.c_ o4).J];rfl
 have r0:Fr [] h4 h4:=Vk Z.r;refine ai ?_;simp only[a_,seval,<-bf,<-bh,<-bc,<-a9,k0 r0];by_cases kz:k=0;simp only[a_,seval,eq_true (oM:(k:Int)=0)];refine Cz Z.r (K.fr Z) o4 a6 iS iS (fun h' f=>?_);subst kz;simp only[gL,zB,zN,Yy];exact⟨Z.y f w oM,trivial⟩;simp only[a_,seval,eq_false (oM:¬(k:Int)=0),x4 r0,k0 r0];apply aa (uv Z.r (K.fr Z) (fun e m=>(a1 e m).fr Z) hN a0);rintro _ h5 ⟨rfl,F5⟩;have ac:=Z.c F5;cases e:mN k with
 |some i=>
  have l2:aq h5 h2.i 0 2=some [ZX (k:Int),ZZ d]:=by rw[(F5.c_ o5).J];rfl
  simp[a_,dh,l2];apply u_ F5.r (F5.c_ a6);rintro h6 o6 F6 n6;have l6:aq h6 h3.i 0 2=some [ZX (k:Int),ZZ d]:=by rw[o6.J];rfl
  simp only[a_,seval,l6];simp only[gL,e];exact⟨ac.y F6 w oM,trivial⟩
 |none=>
  simp[a_,dh,x3 F5,k0 F5];apply aa (uv F5.r (af.fr ac) (fun e m=>(ax e m).fr ac) ar ay);rintro _ h6 ⟨rfl,F6⟩;have ab:=F5.c F6;have aj:=ac.c F6;cases eB:mB k with
  |none=>simp[a_,dh];refine Cz F6.r (K.fr aj) (ab.c_ o4) (ab.c_ a6) iS iS (fun h' f=>?_);simp only[gL,e,eB,Yy];exact⟨aj.y f w oM,trivial⟩
  |some i=>
   have hi:i<Bs.length:=by let⟨e',q1,_⟩:=(ay k i).1 eB;exact(Vt.1 q1).1
   simp[a_,dh,x3 ab];apply aa (HN F6.r b1);rintro _ h7 ⟨F7,a,c,rfl,oa,oc,na,nc⟩;have ak:=ab.c F7;have a3:=aj.c F7;have n6:=ab.i;have n7:=F7.i;have n4:=a7.i;have a5:h3.i<h4.i:=by rw[a9];exact YA _
   simp[a_];refine NM w F7.r a3 oM oM af ax ar nB K a1 hN a0 iS iS iS oa oc (ak.c_ o4) (ak.c_ a6) hi (fun ef h8 F8 a4 ae=>?_) (fun y ef h8 F8 ae=>?_);simp[a_];refine Cz F8.r (K.fr F8) a4 ae iS iS (fun h' f=>?_);simp only[gL,e,eB,ef];exact⟨F8.y f w oM,trivial⟩;have l6:aq h8 h3.i 0 2=some [ZX (y:Int),ZZ 0]:=by rw[ae.J];rfl
   simp only[a_,seval,l6];simp only[gL,e,eB,ef];exact⟨F8,trivial⟩
end
open Go.Ev.St
def Y?(Q:Nat->Prop)(h:b_)(T:b_->Prop):Prop:=∀S h',(∀z∈S,Q z\/h.i<=z)->Fr S h h'->T h'
theorem Y?.aE{Q:Nat->Prop}{h:b_}{T:b_->Prop}(a:Y? Q h T)(w:WF h)(f:Fr S0 h h')(h0:∀z∈S0,Q z\/h.i<=z)(hq:∀z,Q' z->Q z\/h.i<=z):Y? Q' h' T:=fun S h2 hS f2=>
 a (S0++S) h2 (fun z m=>by
  have:=f.i;obtain m|m:=Vc.1 m;exact h0 z m;obtain q|q:=hS z m;exact hq z q;exact .inr oM) (Vn f f2 w (fun x m=>.inl (Vc.2 (.inl m))) (fun x m=>.inl (Vc.2 (.inr m))))
theorem IS.aE{Q:Nat->Prop}{h:b_}{x:e_}(a:IS Q h x)(w:WF h)(f:Fr S0 h h')(h0:∀z∈S0,Q z\/h.i<=z)(hq:∀z,Q' z->Q z\/h.i<=z):IS Q' h' x:=Y?.aE (T:=fun h=>q_ h x) a w f h0 hq
theorem X1.e{N:Nat}{h:b_}{x:e_}{Q:Nat->Prop}(g:X1 N h x)(w:WF h)(hQ:∀z,Q z->z<N):IS Q h x:=fun S h' hS f=>(g.a f (fun z m c=>by
 have:=g.g.vb z c;have:=g.g.lt w z c;obtain q|q:=hS z m;grind;omega)).H
def Pu(P:Nat->Prop)(u:V)(z:Nat):Prop:=P z\/z∈vb u
theorem jH{P:Nat->Prop}{B:Nat}{u:V}{O:List e_}{y:e_}{K:V->b_->Prop}(w:WF hh)(hB:B<=hh.i)(g:Gs hh B 4 u (O.flatMap e_.s))(iO:∀y∈O,IS (Pu P u) hh y)(iy:IS (Pu P u) hh y)(hO:O.length<=4096)
 (k:∀u' h6,Gs h6 B 4 u' ((O++[y]).flatMap e_.s)->(∀z∈O++[y],IS (Pu P u') h6 z)->Fr (vb u) hh h6->K u' h6):OQ (jO (k_ hh y.s) 4 56 u (.z hh.i 0 1 1)) K:=by
 have on:=(iy.H w).O;let⟨h5,ac,ab,ae⟩:=au w y.s;have n5:=s_ ac;rw[<-ac];refine WY (bytes:=56) (n:=1) ab.r (g.fr ab) (Wy ae rfl) oM oM on oM (by rw[aG aT];omega) ?_;intro u' h6 G6 e6 Z;have n6:=Z.i;refine k u' h6 (eV G6) (fun z m=>?_) (Vn ab Z w iS (fun x m=>.inl m));have iz:IS (Pu P u) hh z:=by grind
 refine(iz.aE (Q':=Pu P u) w ab iS (fun z m=>.inl m)).aE ab.r Z (fun z m=>.inl (.inr m)) fun z m=>?_;obtain m|m:=m;exact .inl (.inl m);grind
abbrev Z5:List V:=[ZY 0,ZZ 0,ZZ 0,ZZ 0,.j]
structure y?(P:Nat->Prop)(B:Nat)(h:b_)(x:Nt):Prop where
 k:x.n.k<256
 a:P8 x.n.a
 c:P8 x.n.c
 t:P8 x.n.t
 g:Gs h B 4 x.v (x.n.Y.flatMap e_.s)
 i:∀y∈x.n.Y,IS (Pu P x.v) h y
def P6(P:Nat->Prop)(p:Nat)(z:Nat):Prop:=P z\/z=p
theorem jt{Z:b_}{p B:Nat}{x:Nt}{P:Nat->Prop}{K:V->b_->Prop}(w:WF Z)(o6:f_ Z p Z5)(g:y? (P6 P p) B Z x)(hB:p<B)
 (k:∀h',f_ h' p x.s->y? P B h' x->Fr [p] Z h'->K (.G []) h'):HQ (gT Z 5 (.u p 0) (.B x.s)) K:=by
 have y1:=g.g.O;refine ao (c':=x.s) w o6 rfl (by show aw [_,_,_,_,x.v]=true;simp only[aA,aD,y1];rfl) rfl ?_;rintro h5 o5 F5 n5;refine k h5 o5 ⟨g.k,g.a,g.c,g.t,g.g.ai F5 (eV hB),fun y m=>(g.i y m).aE w F5 (fun z q=>?_) (fun z q=>?_)⟩ F5;exact .inl (.inl (.inr (Vu.1 q)));obtain q|q:=q;exact .inl (.inl (.inl q));exact .inl (.inr q)
theorem gX(k:IntKind)(a b:Nat)(Z:0<b){y:Int}(e:y=(b:Nat)):aP (.h .rem) [.C k (a:Int),.C k y]=some (.C k ((a%b:Nat):Int)):=by subst e;rw[jy _ _ _ oM];rfl
theorem Mq(a b:Nat)(K:a<256)(Z:0<b){y:Int}(e:y=(b:Nat)):aP (.h .quo) [ZY (a:Int),ZY y]=some (ZY ((a/b:Nat):Int)):=by have:a/b<=a:=YL _ _;subst e;rw[pp _ _ _ oM];show some (ZY (bF .u8 ((a/b:Nat):Int)))=_;generalize a/b=q at this;rw[pT _ oM oM]
theorem GC(a i:Nat):∃m:Nat,m<256/\bF .u8 ((a:Int)+i)=(m:Int):=by
 have:bF .u8 ((a:Int)+i)=((a:Int)+i)%256:=by rw[dO];simp only[IntKind.wrap,IntKind.bits,IntKind.signed];simp
 refine⟨(((a:Int)+i)%256).toNat,oM,oM⟩
section
variable {P : Nat -> Prop} {hX h0 hh : b_} {env : T V} {v u : V} {E : List d_} {O : List e_} {p3 p6 a c num B0 b0 b1 b2 b3 b4 : Nat} {Q : Ex -> T V -> b_ -> Prop}
theorem JS(wX:WF hX)(w0:WF h0)(FX:Fr [] hX h0)(F:Fr [] h0 hh)(kp:KQ P hX v E)(hE:E.length<=1000)(h6:hX.i<=p6/\p6<h0.i)(o6:f_ hh p6 Z5)(ha:a<=E.length)(hc:a+c<=E.length)
 (G:Gs hh h0.i 4 u (O.flatMap e_.s)) (iO:∀y∈O,IS (Pu (P6 P p6) u) hh y) (hO:O.length<=3) (g1:env.c_ 1=some v) (g6:env.c_ 6=some (.u p6 0)) (g7:env.c_ 7=some (ZZ (a:Int))) (g8:env.c_ 8=some (ZZ (c:Int))) (g9:env.c_ 9=some u)
 (K:∀env' h' x,env'.c_ 6=some (.u p6 0)->f_ h' p6 x.s->y? P h0.i h' x->Fr [] hX h'->x.n.k=5/\x.n.Y.length<=3+E.length->Q .d env' h'):W go MA env hh Q:=by
 have nX:=FX.i;simp[a_,MA];refine aC (fun n env hh=>Fr [] h0 hh/\f_ hh p6 Z5/\∃(j:Nat)(u:V)(O:List e_),env.c_ 16=some (ZZ j)/\env.c_ 9=some u/\env.c_ 1=some v/\env.c_ 6=some (.u p6 0)/\env.c_ 7=some (ZZ (a:Int))/\env.c_ 8=some (ZZ (c:Int))/\j<=c/\
  Gs hh h0.i 4 u (O.flatMap e_.s)/\(∀y∈O,IS (Pu (P6 P p6) u) hh y)/\O.length<=3+j/\n=c-j) c oM ?_ ?_
 exact⟨F,o6,0,u,O,iS,iX,iX,iX,iX,iX,oM,G,iO,oM,rfl⟩;clear F o6 G iO hO g1 g6 g7 g8 g9;rintro n env hh ⟨F,o6,j,u,O,Z,g9,g1,g6,g7,g8,hj,G,iO,hO,rfl⟩;have Fx:=FX.c F;by_cases cj:j<c;let⟨bi,oi,e,p1,p2,p3,p4⟩:=(VJ (kp.rs wX) Fx).ix aK .i64 ((a+j:Nat):Int) oM oM;rw[pi]at p4;have aj:((a+j:Nat):Int)=(a:Int)+j:=oM;rw[aj]at p1;have em:=Vg p4;have ie:IS (Pu (P6 P p6) u) hh e.x:=(kp.is em).aE wX Fx iS fun z q=>by obtain(q|q)|q:=q;exact .inl q;omega;have:=G.vb z q;exact .inr oM
 have on:=(ie.H F.r).O;have l4:aq hh bi oi 4=some e.x.s:=qQ (n:=4) (m:=2) p3;have u1:bq [ZX 0,ZY 0,.f [],.j] 0 e.x.s=some e.x.s:=rfl;simp(disch:=omega) only[a_,seval,ah,Z,g9,g1,g7,g8,eq_true (oM:(j:Int)<c),p1,l4,u1,(iR:e.x.s.length=4)];apply jH F.r F.i G iO ie oM;rintro u' ab G6 i6 f6;have F6:=Ww w0 F f6 G.vb;simp(disch:=omega) only[a_,seval,ah,Z];have ne:∀z∈vb u,z≠p6:=fun z m=>by have:=G.vb z m;omega
 refine t_ ⟨c-(j+1),oM,F6,f6.D _ _ (fun m=>ne _ m rfl) o6,j+1,u',O++[e.x],iS,iS,iX,iX,iX,iX,oM,G6,i6,by simp;omega,rfl⟩;simp[a_,Z,g9,g6,g8,eq_false (oM:¬(j:Int)<c),az G.O];apply jt (x:=⟨⟨5,0,0,0,O⟩,u⟩) F.r o6 ⟨iS,by simp[P8],by simp[P8],by simp[P8],G,iO⟩ oM;rintro h' o' g' F';simp[a_];exact K _ _ _ iX o' g' (Fx.y F' wX oM) ⟨rfl,by simp;omega⟩
end
open Go.Ev.St
theorem fX(a:Int)(h1:-100000<=a)(h2:a<=100000):P8 a:=⟨oM,oM⟩
theorem IS.ag{Q:Nat->Prop}{h:b_}{x:e_}(a:IS Q h x)(w:WF h)(hq:∀z,Q' z->Q z):IS Q' h x:=a.aE w (Vk w) (S0:=[]) iS fun z m=>.inl (hq z m)
theorem IS.on{Q:Nat->Prop}{h:b_}{x:e_}(a:IS Q h x)(w:WF h)(f:Fr [] h h'):IS Q h' x:=a.aE w f iS fun z m=>.inl m
abbrev c5(b0 b1 b2 b3 b4:Nat):List V:=[ZY (b0:Int),ZY (b1:Int),ZY (b2:Int),ZY (b3:Int),ZY (b4:Int)]
section
variable {P : Nat -> Prop} {hX h0 hh : b_} {env : T V} {v u : V} {E : List d_} {O : List e_} {p3 p6 a c num b0 b1 b2 b3 b4 : Nat} {Q : Ex -> T V -> b_ -> Prop}
theorem JT(wX:WF hX)(w0:WF h0)(FX:Fr [] hX h0)(F:Fr [] h0 hh)(hP:∀z,P z->z<hX.i)(kp:KQ P hX v E)(hE:E.length<=1000)(h6:hX.i<=p6/\p6<h0.i)(o3:f_ hh p3 (c5 b0 b1 b2 b3 b4))(hb:b3<256/\b4<256)(o6:f_ hh p6 Z5)(ha:a<=E.length)(hc:a+c<=E.length)
 (g1:env.c_ 1=some v) (g3:env.c_ 3=some (.u p3 0)) (g6:env.c_ 6=some (.u p6 0)) (g7:env.c_ 7=some (ZZ (a:Int))) (g8:env.c_ 8=some (ZZ (c:Int)))
 (K:∀env' h' x,env'.c_ 6=some (.u p6 0)->f_ h' p6 x.s->y? P h0.i h' x->Fr [] hX h'->x.n.Y.length<=3->Q .d env' h'):W go MB env hh Q:=by
 have nX:=FX.i;have nF:=F.i;have x3:aP (.g 5 1) [.u p3 0,ZZ 3]=some (.u p3 3):=rfl;have x4:aP (.g 5 1) [.u p3 0,ZZ 4]=some (.u p3 4):=rfl;let⟨h1,bf,bg,bk⟩:=au F.r Z5;have n1:=s_ bf;simp[a_,MB,g7,<-bf];apply u_ bg.r bk;rintro h2 o2 F2 n2;have ay:Fr [] hh h2:=bg.y F2 F.r (Ve _);have ba:=FX.c (F.c ay);simp[a_];refine aC (fun n env ab=>(∃(j:Nat)(u:V)(O:List e_),Fr [] hh ab/\env.c_ 14=some (ZZ j)/\env.c_ 1=some v/\env.c_ 3=some (.u p3 0)/\env.c_ 6=some (.u p6 0)/\env.c_ 7=some (ZZ (a:Int))/\env.c_ 8=some (ZZ (c:Int))/\env.c_ 13=some (.u hh.i 0)/\j<=c/\j<=3/\
  f_ ab hh.i [ZY 4,ZZ (a:Int),ZZ 0,ZZ 0,u]/\h2.i<=ab.i/\
  Gs ab h2.i 4 u (O.flatMap e_.s)/\(∀y∈O,IS (Pu (P6 (P6 P p6) hh.i) u) ab y)/\O.length=j/\n=3-j)) 3 oM ?_ ?_
 exact⟨0,.j,[],ay,iS,iX,iX,iX,iX,iX,iS,oM,oM,o2,Ve _,.inl ⟨rfl,rfl⟩,iS,rfl,rfl⟩;rintro n env hm ⟨j,u,O,Fm,ae,g1,g3,g6,g7,g8,af,hj,h3,om,nm,G,iO,lO,rfl⟩;have Fx:=FX.c (F.c Fm);have w:=Fm.r;by_cases cj:j<c/\j<3;let⟨bi,oi,e,p1,p2,br,p4⟩:=(VJ (kp.rs wX) Fx).ix aK .i64 ((a+j:Nat):Int) oM oM;rw[pi]at p4;have aj:((a+j:Nat):Int)=(a:Int)+j:=oM;rw[aj]at p1;have em:=Vg p4;have ke:=((kp.aw wX e em).fr Fx).k;have r3:ag hm p3 3=some (ZY (b3:Int)):=(Fm.c_ o3).o 3;have r4:ag hm p3 4=some (ZY (b4:Int)):=(Fm.c_ o3).o 4;let⟨m,bm,bo⟩:=GC b3 j;have fj:bF .u8 (j:Int)=(j:Int):=pT _ oM oM;simp only[a_,seval,ae,g3,g8,eq_true (oM:(j:Int)<min (c:Int) 3),x3,x4,r3,r4,fj,bo];apply aa (sM (b0:=0) w oM bm hb.2 hb.2);rintro _ hq ⟨Fq,x,rfl,gx⟩;let⟨hr,bh,bc,bj⟩:=au Fq.r Z4';have nq:=Fq.i;have nr:=s_ bh;simp only[a_,seval,<-bh];refine ao (c':=x.s) bc.r bj rfl gx.H.O rfl ?_;rintro hs os Fs ns;have ak:Fr [] hq hs:=bc.y Fs Fq.r (Ve _);have a7:=Fq.c ak;have a5:=Fx.c a7;let⟨bv,bt,e',a0,bn,bp,aH⟩:=(VJ (kp.rs wX) a5).ix aK .i64 ((a+j:Nat):Int) oM oM;rw[pi,p4]at aH;cases aH;rw[aj,p1]at a0;cases a0;have lk:ag hs bi oi=some (ZX (e.x.A:Int)):=bn 0 oM;simp(disch:=omega) only[a_,seval,ah,ae,g1,g7,p1,lk];have yk:aw ({x with A:=e.x.A}:e_).s=true:=gx.H.O;apply ao (v:=ZX (e.x.A:Int)) (c':=({x with A:=e.x.A}:e_).s) Fs.r os rfl rfl rfl;rintro ht ot Ft nt;have ar:Fr [] hq ht:=ak.y Ft Fq.r (Ve _);have Z:=Fq.c ar;have a9:=Z.c_ om;have a3:ag ht hh.i 4=some u:=a9.o 4;have a1:aq ht hq.i 0 4=some ({x with A:=e.x.A}:e_).s:=by rw[ot.J];rfl
 have u1:bq [ZX 0,ZY 0,.f [],.j] 0 ({x with A:=e.x.A}:e_).s=some ({x with A:=e.x.A}:e_).s:=rfl;have ul:=G.lt w;have pq:∀z,Pu (P6 (P6 P p6) hh.i) u z->z<hm.i:=fun z q=>by obtain((q|q)|q)|q:=q;grind;omega;omega;exact ul z q
 have iq:IS (Pu (P6 (P6 P p6) hh.i) u) hq x:=gx.e Fq.r pq;have a8:IS (Pu (P6 (P6 P p6) hh.i) u) hq {x with A:=e.x.A}:=fun S h' hS f=>⟨ke,(iq S h' hS f).t,(iq S h' hS f).m,(iq S h' hS f).n,(iq S h' hS f).l⟩;simp only[a_,seval,af,a3,a1,u1,(iR:({x with A:=e.x.A}:e_).s.length=4)];refine jH (P:=P6 (P6 P p6) hh.i) (B:=h2.i) Ft.r (by have:=Z.i;omega) (G.fr Z) (fun y m=>(iO y m).on w Z) (a8.on Fq.r ar) oM ?_;rintro u' hu G6 i6 f6;have ax:Fr (vb u) hm hu:=Vn Z f6 w iS (fun x m=>.inl m);have a4:hh.i∉vb u:=fun m=>by have:=G.vb _ m;omega
 have a2:=ax.D _ _ a4 om;have ac:=G6.O;simp only[a_,seval,af];refine ao (o:=4) (v:=u') (c':=[ZY 4,ZZ (a:Int),ZZ 0,ZZ 0,u']) f6.r a2 (by rw[az ac];rfl) (by rw[az ac];simp only[aA,aD,ac];rfl) (by rw[az ac];rfl) ?_;rintro hv ov Fv nv;have a6:Fr [] hh hv:=Ww F.r (Ww F.r Fm ax (fun x m=>by have:=G.vb x m;omega)) Fv iS;simp(disch:=omega) only[a_,seval,ah,ae];refine t_ ⟨3-(j+1),oM,j+1,u',O++[{x with A:=e.x.A}],a6,iS,iX,iX,iX,iX,iX,iX,oM,oM,ov,by have:=Z.i;have:=f6.i;omega,G6.ai Fv oO,fun y m=>(i6 y m).aE f6.r Fv (fun z q=>.inl (.inl (.inr (Vu.1 q)))) (fun z q=>.inl q),by simp;omega,rfl⟩;have an:aq hm hh.i 0 5=some (⟨⟨4,(a:Int),0,0,O⟩,u⟩:Nt).s:=by rw[om.J];rfl
 simp[a_,ae,g6,g8,af,eq_false (oM:¬(j:Int)<min (c:Int) 3),an];refine jt (P:=P) (B:=h0.i) (x:=⟨⟨4,(a:Int),0,0,O⟩,u⟩) w (Fm.c_ o6) ⟨iS,fX (a:Int) oM oM,fX 0 oM oM,fX 0 oM oM,G.le oM,fun y m=>(iO y m).ag w fun z q=>?_⟩ oM ?_;obtain q|q:=q;exact .inl (.inl q);exact .inr q;rintro h' o' g' F';simp[a_];exact K _ _ _ iX o' g' (Fx.y F' wX oM) (by show O.length<=3;omega)
end
open Go.Ev.St
section
variable {P : Nat -> Prop} {hX h0 hh : b_} {env : T V} {v u : V} {E : List d_} {O : List e_} {p3 p6 a c num B0 b0 b1 b2 b3 b4 : Nat} {Q : Ex -> T V -> b_ -> Prop}
theorem JR(wX:WF hX)(w0:WF h0)(FX:Fr [] hX h0)(F:Fr [] h0 hh)(hP:∀z,P z->z<hX.i)(kp:KQ P hX v E)(hE:E.length<=1000)(h6:hX.i<=p6/\p6<h0.i)(o3:f_ hh p3 (c5 b0 b1 b2 b3 b4))(hb:b0<256/\b1<256/\b2<256/\b3<256/\b4<256)(o6:f_ hh p6 Z5)(ha:a<=E.length)(hc:a+c<=E.length)
 (G:Gs hh h0.i 4 u (O.flatMap e_.s)) (iO:∀y∈O,IS (Pu (P6 P p6) u) hh y) (hO:O.length<=3)
 (g1:env.c_ 1=some v) (g3:env.c_ 3=some (.u p3 0)) (g6:env.c_ 6=some (.u p6 0)) (g7:env.c_ 7=some (ZZ (a:Int))) (g8:env.c_ 8=some (ZZ (c:Int))) (g9:env.c_ 9=some u)
 (K:∀env' h' x,env'.c_ 6=some (.u p6 0)->f_ h' p6 x.s->y? P h0.i h' x->Fr [] hX h'->(x.n.Y.length<=4\/x.n.k=5/\x.n.Y.length<=4+E.length)->Q .d env' h'):W go sG env hh Q:=by
 let⟨a2,a0,a1,aH,ar⟩:=hb;have nX:=FX.i;have nF:=F.i;have w:=F.r;have Fx:=FX.c F;have x0:aP (.g 5 1) [.u p3 0,ZZ 0]=some (.u p3 0):=rfl;have x1:aP (.g 5 1) [.u p3 0,ZZ 1]=some (.u p3 1):=rfl;have x2:aP (.g 5 1) [.u p3 0,ZZ 2]=some (.u p3 2):=rfl;have x3:aP (.g 5 1) [.u p3 0,ZZ 3]=some (.u p3 3):=rfl;have x4:aP (.g 5 1) [.u p3 0,ZZ 4]=some (.u p3 4):=rfl;have r0:ag hh p3 0=some (ZY (b0:Int)):=o3.o 0;have r1:ag hh p3 1=some (ZY (b1:Int)):=o3.o 1;have r2:ag hh p3 2=some (ZY (b2:Int)):=o3.o 2;have r3:ag hh p3 3=some (ZY (b3:Int)):=o3.o 3;have r4:ag hh p3 4=some (ZY (b4:Int)):=o3.o 4;have rk:=gX .u8 b0 16 oM (y:=16) rfl;have u1:=G.O;have ul:=G.lt w;have pq:∀z,Pu (P6 P p6) u z->z<hh.i:=fun z q=>by obtain(q|q)|q:=q;grind;omega;exact ul z q
 generalize hk:b0%16=k at rk;by_cases k1:k<4;simp[a_,sG,g3,x0,r0,rk,g7,g9,eq_true (oM:(k:Int)<4),az u1,g6];refine jt (P:=P) (B:=h0.i) (x:=⟨⟨1,(a:Int),0,0,O⟩,u⟩) w o6 ⟨by show 1<256;omega,fX ((a:Int)) oM oM,fX (0) oM oM,fX (0) oM oM,G,iO⟩ oM ?_;rintro h' o' g' F';simp[a_];exact K _ _ _ iX o' g' (Fx.y F' wX oM) (.inl (by show O.length<=_;omega));have ab:¬(k:Int)<4:=oM;by_cases k2:k<6;simp[a_,sG,g3,x0,r0,rk,g7,g8,eq_false ab,eq_true (oM:(k:Int)<6),g6];refine jt (P:=P) (B:=h0.i) (x:=⟨⟨2,(a:Int),min (c:Int) 3,0,[]⟩,.j⟩) w o6 ⟨by show 2<256;omega,fX ((a:Int)) oM oM,fX (min (c:Int) 3) oM oM,fX (0) oM oM,.inl ⟨rfl,rfl⟩,iS⟩ oM ?_;rintro h' o' g' F';simp[a_];exact K _ _ _ iX o' g' (Fx.y F' wX oM) (.inl (by show 0<=_;omega));have ac:¬(k:Int)<6:=oM;by_cases k3:k<8;have rm:=gX .i64 b3 (E.length-c+1) oM (y:=(E.length:Int)-c+1) oM;have rl:b3%(E.length-c+1)<=b3:=Nat.mod_le _ _;generalize b3%(E.length-c+1)=d at rm rl;simp(disch:=omega)[a_,ah,sG,g1,g3,x0,r0,x3,r3,(VJ (kp.rs wX) Fx).M,rk,g7,g8,eq_false ab,eq_false ac,eq_true (oM:(k:Int)<8),rm,g6];refine jt (P:=P) (B:=h0.i) (x:=⟨⟨3,(a:Int),(c:Int),(d:Int),[]⟩,.j⟩) w o6 ⟨by show 3<256;omega,fX ((a:Int)) oM oM,fX ((c:Int)) oM oM,fX ((d:Int)) oM oM,.inl ⟨rfl,rfl⟩,iS⟩ oM ?_;rintro h' o' g' F';simp[a_];exact K _ _ _ iX o' g' (Fx.y F' wX oM) (.inl (by show 0<=_;omega));have ae:¬(k:Int)<8:=oM;by_cases k4:k<10;simp[a_,sG,g3,x0,r0,rk,eq_false ab,eq_false ac,eq_false ae,eq_true (oM:(k:Int)<10)];refine JT (b0:=b0) (b1:=b1) (b2:=b2) (b3:=b3) (b4:=b4) (p3:=p3) (p6:=p6) (a:=a) (c:=c) wX w0 FX F hP kp hE h6 o3 ⟨aH,ar⟩ o6 ha hc iX iX iX iX iX fun env' h' x z1 z2 z3 z4 z5=>?_;simp[a_];exact K _ _ _ z1 z2 z3 z4 (.inl oM);have af:¬(k:Int)<10:=oM;by_cases k5:k<11;simp[a_,sG,g3,x0,r0,rk,eq_false ab,eq_false ac,eq_false ae,eq_false af,eq_true (oM:(k:Int)<11)];refine JS (p6:=p6) (a:=a) (c:=c) wX w0 FX F kp hE h6 o6 ha hc G iO hO iX iX iX iX iX fun env' h' x z1 z2 z3 z4 z5=>?_;simp[a_];exact K _ _ _ z1 z2 z3 z4 (.inr ⟨z5.1,oM⟩);have aj:¬(k:Int)<11:=oM;have z1:∀x:e_,bq [ZX 0,ZY 0,.f [],.j] 0 x.s=some x.s:=fun x=>rfl;have ne:∀z∈vb u,z≠p6:=fun z m=>by have:=G.vb z m;omega
 by_cases k6:k<12;simp[a_,sG,g3,x0,r0,x1,r1,x2,r2,x3,r3,x4,r4,rk,eq_false ab,eq_false ac,eq_false ae,eq_false af,eq_false aj,eq_true (oM:(k:Int)<12)];apply aa (sM w a0 a1 aH ar);rintro _ hq ⟨Fq,x,rfl,gx⟩;simp[a_,g9,z1,(iR:x.s.length=4)];refine jH (P:=P6 P p6) (B:=h0.i) Fq.r (by have:=Fq.i;omega) (G.fr Fq) (fun y m=>(iO y m).on w Fq) (gx.e Fq.r pq) oM ?_;rintro u' hu G6 i6 f6;have v1:=G6.O;have Z:Fr (vb u) hh hu:=Vn Fq f6 w iS (fun x m=>.inl m);have ak:Fr [] h0 hu:=Ww w0 F Z G.vb;simp[a_,g7,g6,az v1];refine jt (P:=P) (B:=h0.i) (x:=⟨⟨1,(a:Int),0,0,(O++[x])⟩,u'⟩) f6.r (Z.D _ _ (fun m=>ne _ m rfl) o6) ⟨by show 1<256;omega,fX ((a:Int)) oM oM,fX (0) oM oM,fX (0) oM oM,G6,i6⟩ oM ?_;rintro h' o' g' F';simp[a_];exact K _ _ _ iX o' g' ((FX.c ak).y F' wX oM) (.inl (by show(O++[x]).length<=_;simp;omega));have an:¬(k:Int)<12:=oM;by_cases k7:k=12;have ra:=gX .u8 b1 8 oM (y:=8) rfl;have rb:=gX .u8 b2 8 oM (y:=8) rfl;have rc:=gX .u8 b3 4 oM (y:=4) rfl;have rd:=gX .u8 b4 3 oM (y:=3) rfl;simp(disch:=omega)[a_,ah,sG,g3,x0,r0,x1,r1,x2,r2,x3,r3,x4,r4,rk,ra,rb,rc,rd,eq_false ab,eq_false ac,eq_false ae,eq_false af,eq_false aj,eq_false an,eq_true (oM:(k:Int)=12),g6];refine jt (P:=P) (B:=h0.i) (x:=⟨⟨b1%8,((b2%8:Nat):Int)-2,((b3%4:Nat):Int)-1,((b4%3:Nat):Int),[]⟩,.j⟩) w o6 ⟨by show b1%8<256;omega,fX (((b2%8:Nat):Int)-2) oM oM,fX (((b3%4:Nat):Int)-1) oM oM,fX (((b4%3:Nat):Int)) oM oM,.inl ⟨rfl,rfl⟩,iS⟩ oM ?_;rintro h' o' g' F';simp[a_];exact K _ _ _ iX o' g' (Fx.y F' wX oM) (.inl (by show 0<=_;omega));have ax:¬(k:Int)=12:=oM;by_cases k8:k=13;simp(disch:=omega)[a_,ah,sG,g3,x0,r0,rk,g7,g8,eq_false ab,eq_false ac,eq_false ae,eq_false af,eq_false aj,eq_false an,eq_false ax,eq_true (oM:(k:Int)=13),g6];refine jt (P:=P) (B:=h0.i) (x:=⟨⟨2,(a:Int),(c:Int)+1,0,[]⟩,.j⟩) w o6 ⟨by show 2<256;omega,fX ((a:Int)) oM oM,fX ((c:Int)+1) oM oM,fX (0) oM oM,.inl ⟨rfl,rfl⟩,iS⟩ oM ?_;rintro h' o' g' F';simp[a_];exact K _ _ _ iX o' g' (Fx.y F' wX oM) (.inl (by show 0<=_;omega));have ay:¬(k:Int)=13:=oM;have iL:∀k t:Nat,k<256->t<256->IS (Pu (P6 P p6) u) hh ⟨k,t,[],[],.j⟩:=fun k t hk ht S h' _ _=>⟨by show k<_;omega,ht,(o_.a Yo:C_ sS 1 h' .j []),iS,iS⟩;by_cases k9:k=14;simp[a_,sG,g3,x0,r0,rk,g9,eq_false ab,eq_false ac,eq_false ae,eq_false af,eq_false aj,eq_false an,eq_false ax,eq_false ay,eq_true (oM:(k:Int)=14)];apply jH (P:=P6 P p6) (y:=⟨1,0,[],[],.j⟩) (B:=h0.i) w nF G iO (iL 1 0 oM oM) oM;rintro u' hu G6 i6 Z;have v1:=G6.O;have ak:Fr [] h0 hu:=Ww w0 F Z G.vb;simp[a_,g7,g6,az v1];refine jt (P:=P) (B:=h0.i) (x:=⟨⟨4,(a:Int),0,0,(O++[⟨1,0,[],[],.j⟩])⟩,u'⟩) Z.r (Z.D _ _ (fun m=>ne _ m rfl) o6) ⟨by show 4<256;omega,fX ((a:Int)) oM oM,fX (0) oM oM,fX (0) oM oM,G6,i6⟩ oM ?_;rintro h' o' g' F';simp[a_];exact K _ _ _ iX o' g' ((FX.c ak).y F' wX oM) (.inl (by show(O++[_]).length<=_;simp;omega));simp[a_,sG,g3,x0,r0,x4,r4,rk,g9,eq_false ab,eq_false ac,eq_false ae,eq_false af,eq_false aj,eq_false an,eq_false ax,eq_false ay,eq_false (oM:¬(k:Int)=14)];apply jH (P:=P6 P p6) (y:=⟨0,b4,[],[],.j⟩) (B:=h0.i) w nF G iO (iL 0 b4 oM ar) oM;rintro u' hu G6 i6 Z;have v1:=G6.O;have ak:Fr [] h0 hu:=Ww w0 F Z G.vb;simp[a_,g7,g6,az v1];refine jt (P:=P) (B:=h0.i) (x:=⟨⟨1,(a:Int),0,0,(O++[⟨0,b4,[],[],.j⟩])⟩,u'⟩) Z.r (Z.D _ _ (fun m=>ne _ m rfl) o6) ⟨by show 1<256;omega,fX ((a:Int)) oM oM,fX (0) oM oM,fX (0) oM oM,G6,i6⟩ oM ?_;rintro h' o' g' F';simp[a_];exact K _ _ _ iX o' g' ((FX.c ak).y F' wX oM) (.inl (by show(O++[_]).length<=_;simp;omega))
theorem Hr(wX:WF hX)(hP:∀z,P z->z<hX.i)(kp:KQ P hX v E)(hE:E.length<=1000)(hb:b0<256/\b1<256/\b2<256/\b3<256/\b4<256)(hn:num<=6):
 av go 84 [.B (c5 b0 b1 b2 b3 b4),v,ZZ (num:Int)] hX fun u h'=>Fr [] hX h'/\∃x:Nt,u=.B x.s/\y? P hX.i h' x/\(x.n.Y.length<=4\/x.n.k=5/\x.n.Y.length<=4+E.length):=by
 obtain⟨K,Z⟩:∃K,K=k_ hX (c5 b0 b1 b2 b3 b4):=⟨_,rfl⟩;have ae:Fr [] hX K:=Z▸VL wX _;have af:f_ K hX.i (c5 b0 b1 b2 b3 b4):=Z▸Wi wX _;let⟨h2,aH,ay,a2⟩:=au ae.r Z5;have n1:=s_ Z;have n2:=s_ aH;have FX:=ae.c ay;have o3:=ay.c_ af;have x1:aP (.g 5 1) [.u hX.i 0,ZZ 1]=some (.u hX.i 1):=rfl;have x2:aP (.g 5 1) [.u hX.i 0,ZZ 2]=some (.u hX.i 2):=rfl;have x3:aP (.g 5 1) [.u hX.i 0,ZZ 3]=some (.u hX.i 3):=rfl;have x4:aP (.g 5 1) [.u hX.i 0,ZZ 4]=some (.u hX.i 4):=rfl;have ld:∀{hh},Fr [] h2 hh->ag hh hX.i 1=some (ZY (b1:Int))/\ag hh hX.i 2=some (ZY (b2:Int))/\ag hh hX.i 3=some (ZY (b3:Int))/\ag hh hX.i 4=some (ZY (b4:Int)):=fun f=>⟨(f.c_ o3).o 1,(f.c_ o3).o 2,(f.c_ o3).o 3,(f.c_ o3).o 4⟩;let⟨r1,r2,_⟩:=ld (Vk ay.r);have len:=(VJ (kp.rs wX) FX).M;let⟨ba,a7,bc,a4,a5⟩:=hb;have rm:=gX .i64 b1 (E.length+1) oM (y:=(E.length:Int)+1) oM;have ha:b1%(E.length+1)<E.length+1:=WN _ oM;generalize b1%(E.length+1)=a at rm ha;have ak:=gX .i64 b2 (E.length-a+1) oM (y:=(E.length:Int)-a+1) oM;have hc:b2%(E.length-a+1)<E.length-a+1:=WN _ oM;generalize b2%(E.length-a+1)=c at ak hc;have r4:=gX .u8 b2 4 oM (y:=4) rfl;have h4:b2%4<4:=WN _ oM;generalize b2%4=nf at r4 h4;have qu:=Mq b4 2 a5 oM (y:=2) rfl;have qb:b4/2<=b4:=YL _ _;generalize b4/2=bh at qu qb;have w0:=ay.r;refine ai ?_;simp(disch:=omega)[a_,ah,<-Z,<-aH,x1,x2,r1,r2,len,rm,ak];refine aC (fun n env hh=>Fr [] h2 hh/\∃(j:Nat)(u:V)(O:List e_),env.c_ 10=some (ZZ j)/\env.c_ 9=some u/\env.c_ 1=some v/\env.c_ 2=some (ZZ (num:Int))/\env.c_ 3=some (.u hX.i 0)/\env.c_ 6=some (.u K.i 0)/\env.c_ 7=some (ZZ (a:Int))/\env.c_ 8=some (ZZ (c:Int))/\j<=nf/\
  Gs hh h2.i 4 u (O.flatMap e_.s)/\(∀y∈O,IS (Pu (P6 P K.i) u) hh y)/\O.length=j/\n=nf-j) nf oM ?_ ?_
 exact⟨Vk w0,0,.j,[],iS,iS,iS,iS,iS,iS,iS,iS,oM,.inl ⟨rfl,rfl⟩,iS,rfl,rfl⟩;rintro n env hm ⟨F,j,u,O,ab,g9,g1,g2,g3,g6,g7,g8,hj,G,iO,lO,rfl⟩;let⟨r1,r2,r3,a8⟩:=ld F;have w:=F.r;have Fx:=FX.c F;by_cases cj:j<nf;let⟨m,a6,a9⟩:=GC b4 j;have fj:bF .u8 (j:Int)=(j:Int):=pT _ oM oM;simp(disch:=omega) only[a_,seval,ah,ab,g3,x2,x3,x4,r2,r3,a8,r4,eq_true (oM:(j:Int)<nf),fj,a9,qu];refine aa (sM (b0:=0) w oM a6 a4 (oM:bh<256)) ?_;rintro _ hq ⟨Fq,x,rfl,gx⟩;let⟨hr,a1,a0,a3⟩:=au Fq.r Z4';have nq:=Fq.i;have nr:=s_ a1;simp only[a_,seval,<-a1];refine ao (c':=x.s) a0.r a3 rfl gx.H.O rfl ?_;rintro hs os Fs ns;have f1:bF .u64 (10*(num:Int)+(j:Int))=((10*num+j:Nat):Int):=by rw[bY _ oM oM];omega
 have f2:bF .u64 (100+((10*num+j:Nat):Int))=((100+(10*num+j):Nat):Int):=by rw[bY _ oM oM];omega
 simp(disch:=omega) only[a_,seval,ah,ab,g2,f1,f2];refine ao (v:=ZX ((100+(10*num+j):Nat):Int)) (c':=({x with A:=100+(10*num+j)}:e_).s) Fs.r os rfl rfl rfl ?_;generalize hy:({x with A:=100+(10*num+j)}:e_)=y;rintro ht ot Ft nt;have yk:aw y.s=true:=by rw[<-hy];exact gx.H.O
 have aj:Fr [] hq ht:=(a0.y Fs Fq.r (Ve _)).y Ft Fq.r (Ve _);have ac:=Fq.c aj;have an:aq ht hq.i 0 4=some y.s:=by rw[ot.J];rfl
 have u1:bq [ZX 0,ZY 0,.f [],.j] 0 y.s=some y.s:=rfl;have ul:=G.lt w;have pq:∀z,Pu (P6 P K.i) u z->z<hm.i:=fun z q=>by have:=Fx.i;have:=F.i;obtain(q|q)|q:=q;grind;omega;exact ul z q
 have iq:IS (Pu (P6 P K.i) u) hq x:=gx.e Fq.r pq;have ax:IS (Pu (P6 P K.i) u) hq y:=by rw[<-hy];exact fun S h' hS f=>⟨(oM:100+(10*num+j)<_),(iq S h' hS f).t,(iq S h' hS f).m,(iq S h' hS f).n,(iq S h' hS f).l⟩
 simp only[a_,seval,g9,an,u1,(iR:y.s.length=4)];refine jH (P:=P6 P K.i) (B:=h2.i) Ft.r (by have:=ac.i;have:=F.i;omega) (G.fr ac) (fun z m=>(iO z m).on w ac) (ax.on Fq.r aj) oM ?_;rintro u' hu G6 i6 f6;have ar:Fr (vb u) hm hu:=Vn ac f6 w iS (fun x m=>.inl m);have FN:Fr [] h2 hu:=Ww w0 F ar G.vb;simp(disch:=omega) only[a_,seval,ah,ab];refine t_ ⟨nf-(j+1),oM,FN,j+1,u',O++[y],iS,iS,iX,iX,iX,iX,iX,iX,oM,G6,i6,by simp;omega,rfl⟩;simp(disch:=omega)[a_,ah,ab,g3,x2,r2,r4,eq_false (oM:¬(j:Int)<nf)];refine JR (p3:=hX.i) (p6:=K.i) (a:=a) (c:=c) wX w0 FX F hP kp hE oM (F.c_ o3) ⟨ba,a7,bc,a4,a5⟩ (F.c_ a2) oM oM G iO oM iX iX iX iX iX iX fun env' h' x z1 z2 z3 z4 z5=>?_;have l6:aq h' K.i 0 5=some x.s:=by rw[z2.J];rfl
 simp only[a_,z1,l6];exact⟨z4,x,rfl,⟨z3.k,z3.a,z3.c,z3.t,z3.g.le oM,z3.i⟩,z5⟩
end
open Go.Ev.St
abbrev B5:=Nat×Nat×Nat×Nat×Nat
def q5(q:B5):List V:=c5 q.1 q.2.1 q.2.2.1 q.2.2.2.1 q.2.2.2.2
def An(q:B5):Prop:=q.1<256/\q.2.1<256/\q.2.2.1<256/\q.2.2.2.1<256/\q.2.2.2.2<256
def ZN(Q:Nat->Prop)(h:b_)(x:Nt):Prop:=Y? Q h (fun h'=>o_ e_.s 4 h' x.v x.n.Y/\∀y∈x.n.Y,q_ h' y)/\x.n.k<256/\P8 x.n.a/\P8 x.n.c/\P8 x.n.t
theorem y?.s{P:Nat->Prop}{B:Nat}{h:b_}{x:Nt}(g:y? P B h x)(w:WF h)(Z:∀z,P z->z<B):ZN P h x:=by
 refine⟨fun S K hS f=>⟨?_,fun y m=>?_⟩,g.k,g.a,g.c,g.t⟩;have:=g.g.dj f (fun z m c=>by
  have:=g.g.vb z c;have:=g.g.lt w z c;obtain q|q:=hS z m;have:=Z z q;omega;omega)
 exact YT (n:=x.n.Y.length) this (aG aT _) oM;exact((g.i y m).ag w (fun z q=>.inl q):IS P h y) S K hS f
theorem ZN.aE{Q:Nat->Prop}{h:b_}{x:Nt}(a:ZN Q h x)(w:WF h)(f:Fr S0 h h')(h0:∀z∈S0,Q z\/h.i<=z)(hq:∀z,Q' z->Q z\/h.i<=z):ZN Q' h' x:=⟨a.1.aE w f h0 hq,a.2⟩
theorem ZN.is{Q:Nat->Prop}{h:b_}{x:Nt}(a:ZN Q h x):∀y∈x.n.Y,IS Q h y:=fun y m S h' hS f=>(a.1 S h' hS f).2 y m
theorem ZN.rs{Q:Nat->Prop}{h:b_}{x:Nt}(a:ZN Q h x)(w:WF h):o_ e_.s 4 h x.v x.n.Y:=(a.1 [] h iS (Vk w)).1
theorem KQ.aE{Q:Nat->Prop}{h:b_}{v:V}(a:KQ Q h v E)(w:WF h)(f:Fr S0 h h')(h0:∀z∈S0,Q z\/h.i<=z)(hq:∀z,Q' z->Q z\/h.i<=z):KQ Q' h' v E:=Y?.aE (T:=fun h=>o_ d_.s 6 h v E/\∀e∈E,q_ h e.x) a w f h0 hq
theorem EV.aE{Q:Nat->Prop}{h:b_}{e:d_}(a:EV Q h e)(w:WF h)(f:Fr S0 h h')(h0:∀z∈S0,Q z\/h.i<=z)(hq:∀z,Q' z->Q z\/h.i<=z):EV Q' h' e:=⟨a.1.aE w f h0 hq,a.2⟩
def NSL(Q:Nat->Prop)(h:b_)(v:V)(L:List Nt):Prop:=(∃B,(∀z,Q z->z<B)/\Gs h B 5 v (L.flatMap Nt.s))/\∀x∈L,ZN Q h x
theorem NSL.na{Q:Nat->Prop}{h:b_}{v:V}{L:List Nt}(a:NSL Q h v L)(w:WF h){S:List Nat}{Z:b_}(hS:∀z∈S,Q z\/h.i<=z)(f:Fr S h Z):NA Z v L:=by let⟨⟨B,hB,g⟩,i⟩:=a;refine⟨o_.a (YT (n:=L.length) (g.dj f (fun z m c=>?_)) (aG yw _) oM),fun x m=>?_⟩;have:=g.vb z c;have:=g.lt w z c;obtain q|q:=hS z m;grind;omega;let⟨s,r⟩:=i x m;let⟨s1,K⟩:=s S Z hS f;exact⟨⟨s1.a,K⟩,r⟩
theorem NSL.nv{Q W:Nat->Prop}{h:b_}{v:V}{L:List Nt}(a:NSL Q h v L)(w:WF h){S0:List Nat}{h1:b_}(h0:∀z∈S0,Q z\/h.i<=z)(f0:Fr S0 h h1)(hW:∀z,W z->Q z\/h.i<=z):NV W h1 v L:=by
 have key:∀(Z:List Nat)(K:b_),(∀z∈Z,W z\/h1.i<=z)->Fr Z h1 K->NA K v L:=fun Z K hZ f=>a.na w (S:=S0++Z) (fun z m=>by
  have:=f0.i;obtain m|m:=Vc.1 m;exact h0 z m;obtain q|q:=hZ z m;exact hW z q;exact .inr oM) (Vn f0 f w (fun x m=>.inl (Vc.2 (.inl m))) (fun x m=>.inl (Vc.2 (.inr m))))
 exact⟨fun Z K hZ f=>(key Z K hZ f).1,fun x m=>⟨fun Z K hZ f=>((key Z K hZ f).2 x m).1,(a.2 x m).2⟩⟩
theorem zS(L:List Nt)(x:Nt):eY (L++[x])=eY L+x.n.Y.length:=by simp[eY]
theorem ME{P:Nat->Prop}{hX:b_}{Lb:List B5}(wX:WF hX)(hP:∀z,P z->z<hX.i)(rk:o_ w_.s 9 hX vK Ks)(kh:∀q∈Ks,Q4 hX q)(r:RK Ks)
 (kp:KQ P hX vE E) (ev:∀e∈E,EV P hX e) (hE:E.length<=12) (ab:C_ q5 5 hX vB Lb) (hb:∀q∈Lb,An q):
 av go 35 [.B [vB],.B [vK,ZZ 12],.B [vE]] hX fun u h'=>Fr [] hX h'/\∃L:List Nt,L.length<=6/\eY L<=240/\NSL P h' u L:=by
 have k1:vK.O=true:=Wj rk;have e1:vE.O=true:=Wj (kp.rs wX);have b1:vB.O=true:=Yu ab;let⟨h1,bj,bm,bp⟩:=au wX [vB];let⟨h2,bh,ba,bo⟩:=au bm.r [vK,ZZ 12];let⟨h3,bk,a9,bn⟩:=au ba.r [vE];have n1:=s_ bj;have n2:=s_ bh;have n3:=s_ bk;have FX:=(bm.c ba).c a9;have w3:=a9.r;have l3:∀{K},Fr [] h3 K->ag K hX.i 0=some vB:=fun f=>(((ba.c a9).c f).c_ bp).o 0;have l4:∀{K},Fr [] h3 K->aq K h1.i 0 2=some [vK,ZZ 12]:=fun f=>by rw[((a9.c f).c_ bo).J];rfl
 have l5:ag h3 h2.i 0=some vE:=bn.o 0;have a4:∀x,(q5 x).length=5:=fun _=>rfl;refine ai ?_;simp[a_,<-bj,<-bh,<-bk,l5];refine aC (fun n env K=>Fr [] h3 K/\∃(i:Nat)(vo vn:V)(L:List Nt)(N:List d_),env.c_ 9=some (ZZ i)/\env.c_ 7=some vo/\env.c_ 8=some vn/\env.c_ 3=some (.u hX.i 0)/\env.c_ 4=some (.u h1.i 0)/\i<=6/\
  Gs K h3.i 5 vo (L.flatMap Nt.s)/\(∀x∈L,ZN (Pu P vo) K x)/\L.length=i/\eY L<=i*40/\KQ (Pu P vo) K vn N/\(∀e∈N,EV (Pu P vo) K e)/\N.length<=12+i*4/\n=6-i) 6 oM ?_ ?_
 have hq:∀z,Pu P .j z->P z\/hX.i<=z:=fun z q=>q.elim .inl (fun m=>by simp[vb]at m);exact⟨Vk w3,0,.j,vE,[],E,iS,iS,iS,iS,iS,oM,.inl ⟨rfl,rfl⟩,iS,rfl,by simp[eY],kp.aE wX FX iS hq,fun e m=>(ev e m).aE wX FX iS hq,oM,rfl⟩;rintro n env K ⟨F,i,vo,vn,L,N,g9,g7,g8,g3,g4,hi,G,iL,lL,tL,kn,en,lN,rfl⟩;have w:=F.r;have Fx:=FX.c F;have len:=(ab.fr Fx).A_;have ul:=G.lt w;have nX:=FX.i;have nF:=F.i;have hQ:∀z,Pu P vo z->z<K.i:=fun z q=>by obtain q|q:=q;grind;exact ul z q
 by_cases c1:i<Lb.length;by_cases c2:i<6;let⟨bi,oi,q,p1,_,p3,p4⟩:=(ab.fr Fx).ix a4 .i64 (i:Int) oM oM;rw[pi]at p4;simp only[a_,seval,g9,g8,g3,l3 F,len,eq_true (oM:(i:Int)<Lb.length),eq_true (oM:(i:Int)<6),p1,p3];refine aa (Hr (num:=i) w hQ kn oM (hb q (Vg p4)) oM) ?_;rintro _ h4 ⟨F4,x,rfl,gx,lx⟩;have xs:=gx.s F4.r hQ;have x1:aw x.s=true:=by have y1:=gx.g.O;show aw [_,_,_,_,x.v]=true;simp only[aA,aD,y1];rfl
 let⟨h5,bf,bg,br⟩:=au F4.r Z5;have n4:=F4.i;have n5:=s_ bf;simp only[a_,seval,<-bf];refine ao (c':=x.s) bg.r br rfl x1 rfl ?_;rintro h6 o6 F6 n6;have ar:Fr [] h4 h6:=bg.y F6 F4.r (Ve _);have ay:=F4.c ar;have a2:aq h6 h4.i 0 5=some x.s:=by rw[o6.J];rfl
 have u1:bq Z5 0 x.s=some x.s:=rfl;let⟨h7,bc,a8,bt⟩:=au F6.r x.s;have n7:=s_ bc;simp only[a_,seval,g7,a2,u1,(iR:x.s.length=5),<-bc];refine WY (bytes:=56) (n:=1) a8.r ((G.fr ay).fr a8) (Wy bt rfl) oM oM x1 oM (by rw[aG yw];omega) ?_;intro Z h8 G8 e8 F8;have n8:=F8.i;have af:Fr (vb vo) K h8:=Vn (ay.c a8) F8 w iS (fun x m=>.inl m);have ae:Fr [] h3 h8:=Ww w3 F af G.vb;have s8:∀z∈vb vo,Pu P vo z\/K.i<=z:=fun z m=>.inl (.inr m);have q8:∀z,Pu P Z z->Pu P vo z\/K.i<=z:=fun z q=>by obtain q|q:=q;exact .inl (.inl q);grind
 have a1:∀z,Pu P Z z->Pu P vo z\/h4.i<=z:=fun z q=>by obtain q|q:=q;exact .inl (.inl q);grind
 have aH:Fr (vb vo) h4 h8:=Vn (ar.c a8) F8 F4.r iS (fun x m=>.inl m);have ac:ZN (Pu P Z) h8 x:=xs.aE F4.r aH (fun z m=>.inl (.inr m)) a1;have a5:∀y∈L,ZN (Pu P Z) h8 y:=fun y m=>(iL y m).aE w af s8 q8;have aj:=kn.aE w af s8 q8;have ak:∀e∈N,EV (Pu P Z) h8 e:=fun e m=>(en e m).aE w af s8 q8;have a6:∀z,Pu P Z z->z<h8.i:=fun z q=>by obtain q|q:=q;grind;exact G8.lt F8.r z q
 have a3:f_ h8 h4.i x.s:=F8.D _ _ (fun m=>by have:=ul _ m;omega) (a8.c_ o6);have a0:aq h8 h4.i 0 5=some x.s:=by rw[a3.J];rfl
 have ax:=FX.c ae;have nv:x.v≠.F:=by obtain⟨e,_⟩|⟨_,_,e,_⟩:=gx.g<;>rw[e]<;>simp
 simp only[a_,seval,g4,g8,a0,l4 ae];refine aa (Cv F8.r a6 (VJ rk ax) (fun q m=>(kh q m).fr ax) r aj ak oM (ac.rs F8.r) ac.is oM nv ac.2.1 ac.2.2.1 ac.2.2.2.1 ac.2.2.2.2) ?_;rintro _ h9 ⟨F9,un,t,O,rfl,ko,eo,lo,a7⟩;have q9:∀z,Pu P Z z->Pu P Z z\/h8.i<=z:=fun z q=>.inl q;have an:∀y∈L++[x],ZN (Pu P Z) h9 y:=fun y m=>by obtain m|m:=Vc.1 m;exact(a5 y m).aE F8.r F9 iS q9;rw[Vu.1 m];exact ac.aE F8.r F9 iS q9
 have G9:Gs h9 h3.i 5 Z ((L++[x]).flatMap Nt.s):=by have:=G8.fr F9;simpa using this
 by_cases ct:t=0;simp(disch:=omega) only[a_,seval,ah,g9,eq_true ct];refine t_ ⟨6-(i+1),oM,ae.c F9,i+1,Z,un,L++[x],O,iS,iS,iS,iX,iX,oM,G9,an,by simp;omega,by rw[zS];omega,ko,eo,oM,rfl⟩;simp(disch:=omega) only[a_,seval,ah,g9,eq_false ct];refine t_ ⟨6-(i+1),oM,ae.c F9,i+1,Z,vn,L++[x],N,iS,iS,iX,iX,iX,oM,G9,an,by simp;omega,by rw[zS];omega,aj.aE F8.r F9 iS q9,fun e m=>(ak e m).aE F8.r F9 iS q9,oM,rfl⟩;simp[a_,g9,g7,g3,l3 F,len,eq_true (oM:(i:Int)<Lb.length),eq_false (oM:¬(i:Int)<6)];exact⟨Fx,L,oM,oM,⟨h3.i,fun z q=>by have:=hP z q;omega,G⟩,fun x m=>(iL x m).aE w (Vk w) (S0:=[]) iS fun z q=>.inl (.inl q)⟩;simp[a_,g9,g7,g3,l3 F,len,eq_false (oM:¬(i:Int)<Lb.length)];exact⟨Fx,L,oM,oM,⟨h3.i,fun z q=>by have:=hP z q;omega,G⟩,fun x m=>(iL x m).aE w (Vk w) (S0:=[]) iS fun z q=>.inl (.inl q)⟩
theorem yR{X:List e_}(ev:X.map e_.Y=E.map (fun e=>e.x.Y)):X.map e_.A=aE E:=by have:=congrArg (List.map Prod.fst) ev;rw[VW,VW]at this;exact this
theorem R1.bN{m Z:Nat->Option Nat}(a:R1 m E)(b:R1 Z E):m=Z:=by
 funext k;cases e:m k with
 |some j=>exact((b k j).2 ((a k j).1 e)).symm
 |none=>
  cases K:Z k with
  |none=>rfl
  |some j=>have:=(a k j).2 ((b k j).1 K);rw[e]at this;cases this
theorem Ht{h:b_}:av go 44 [.K] h fun u h'=>u=.h true/\h=h':=by refine ai ?_;simp[a_]
theorem H5{h:b_}{k:Nat}(w:WF h):av go 10 [.K,ZX (k:Int)] h fun u h'=>u=dh none/\Fr [] h h':=by refine ai ?_;simp[a_];refine aa Ht ?_;rintro _ _ ⟨rfl,rfl⟩;simp[a_,dh];exact Vk w
section
variable {Ks : List w_} {h : b_} {b c k : Nat} {d : Int} {E N : List d_} {mB mN : Nat -> Option Nat}
theorem JE(w:WF h)(sN:SA Ks h b N)(sB:SA Ks h c E)(ab:R1 mN N)(Z:R1 mB E)(hE:E.length<=1024)(hk:k<18446744073709551616)(zN:mN 0=none):
 av go 36 [.u b 0,.u c 0,vA k d] h fun u h'=>Fr [] h h'/\u=vA (gL mB mN (aE E) (aE N) k d).1 (gL mB mN (aE E) (aE N) k d).2:=by
 let⟨n0,K,X,st,vK,bg,B,bm,S,bl,pm,mc,s,_,ev,_,ix⟩:=sN;let⟨an,K',X',ar,ak,af,B',aj,S',bl',ay,ax,s',_,ac,_,ae⟩:=sB;obtain rfl:=ix.bN ab;obtain rfl:=ae.bN Z;have lx:X'.length=E.length:=by have:=congrArg List.length ac;simpa using this
 have xh:=(s'.rd [] h iS (Vk w)).2.2;rw[<-yR ev,<-yR ac];refine wy w s hk zN (fun x m=>(xh x m).k) oM (fun h' f=>pD f.r (s'.fr w f) hk) fun i h' e f=>?_;have s2:=s'.fr w f;refine⟨?_,c,af,rfl,s2.ob.o 2,?_⟩;let⟨e',q,_⟩:=(Z k i).1 e;have:=(Vt.1 q).1;omega;apply Xk (AK f.r s2.g);rintro u h2 ⟨b',_,tb,F⟩;exact⟨F,tb.sl⟩
theorem GN(w:WF h)(sN:SA Ks h b N)(Z:R1 mN N)(hk:k<18446744073709551616)(zN:mN 0=none):
 av go 36 [.u b 0,.K,vA k d] h fun u h'=>Fr [] h h'/\u=vA (gL (fun _=>none) mN (aE []) (aE N) k d).1 (gL (fun _=>none) mN (aE []) (aE N) k d).2:=by
 let⟨n0,K,X,st,vK,bg,B,bm,S,bl,pm,mc,s,_,ev,_,ix⟩:=sN;obtain rfl:=ix.bN Z;rw[<-yR ev];exact wy (XB:=[]) (mB:=fun _=>none) w s hk zN iS iS (fun h' f=>H5 f.r) iS
end
theorem Dh{m:Nat->Option Nat}(lv:LV Ks E)(ix:R1 m E):m 0=none:=by
 cases e:m 0 with
 |none=>rfl
 |some j=>let⟨x,q,Z⟩:=(ix 0 j).1 e;have:=(lv.o x (Vg q)).1;simp only[P0,Vd,decide_eq_true_eq]at this;omega
theorem K2:R1 (fun _=>none) []:=fun k j=>by simp
theorem tJ(k:Nat)(d:Int):aP (.I true [0,0]) [vA k d,vA k d]=some (.h false):=by
 have i:∀x:Int,Zl x x=true:=fun x=>(fC x x).trans iS;have e:i5 [0,0] [ZX (k:Int),ZZ d] [ZX (k:Int),ZZ d]=some true:=by show(bif lE IntKind.u64 IntKind.u64 then bif Zl (k:Int) k then bif lE IntKind.i64 IntKind.i64 then bif Zl d d then some true else some false else none else some false else none)=_;rw[i,i];rfl
 show(i5 [0,0] _ _).map _=_;rw[e];rfl
theorem Lu(a:Int){m:Int}(h:0<m):-m<a.tmod m/\a.tmod m<m:=⟨Int.lt_tmod_of_pos a h,Int.tmod_lt_of_pos a h⟩
theorem Nc{b c an k:Nat}{d:Int}{N N':List d_}{mB mN:Nat->Option Nat}{vN:V}{Q:Ex->T V->b_->Prop}
 (w:WF hh) (sN:SA Ks hh b N) (sB:SA Ks hh c E) (ar:R1 mN N) (ay:R1 mB E) (hE:E.length<=1024) (hN:N'.length<=1024) (kN:aE N'=aE N) (zN:mN 0=none) (zB:mB 0=none)
 (a1:o_ d_.s 6 hh vE E) (a2:∀e∈E,q_ hh e.x) (nE:vE≠.F) (aH:o_ d_.s 6 hh vN N') (ax:∀e∈N',q_ hh e.x) (hk:k<18446744073709551616) (hz:zk<18446744073709551616)
 (o5:f_ hh p5 [ZZ off,ZX (zk:Int),ZZ zd]) (o8:f_ hh p8 [vE]) (a6:f_ hh p13 [ZX (k:Int),ZZ d]) (a8:f_ hh an [vN])
 (g5:env.c_ 5=some (.u p5 0)) (g8:env.c_ 8=some (.u p8 0)) (g9:env.c_ 9=some (.u b 0)) (ae:env.c_ 13=some (.u p13 0)) (ak:env.c_ 17=some (.u c 0)) (af:env.c_ 19=some (.u an 0))
 (K:∀h',Fr [] hh h'->Q .a ((env.B_ 139 (.h false)).B_ 9 (.u c 0)) h'):W go anC env hh Q:=by
 have aj:R1 mN N':=gH.2 (show g? mN (aE N') by rw[kN];exact gH.1 ar);have L5:∀{h'},Fr [] hh h'->aq h' p5 1 2=some [ZX (zk:Int),ZZ zd]:=fun f=>by rw[(f.c_ o5).J];rfl
 have L8:∀{h'},Fr [] hh h'->aq h' p8 0 1=some [vE]:=fun f=>by rw[(f.c_ o8).J];rfl
 have ab:∀{h'},Fr [] hh h'->aq h' p13 0 2=some [ZX (k:Int),ZZ d]:=fun f=>by rw[(f.c_ a6).J];rfl
 have Z:∀{h'},Fr [] hh h'->aq h' an 0 1=some [vN]:=fun f=>by rw[(f.c_ a8).J];rfl
 have A1:∀{h'}(k:Nat)(d:Int),k<18446744073709551616->Fr [] hh h'->av go 36 [.u b 0,.u c 0,vA k d] h' fun u ac=>Fr [] h' ac/\u=vA (gL mB mN (aE E) (aE N) k d).1 (gL mB mN (aE E) (aE N) k d).2:=
  fun k d hk f=>JE f.r (sN.fr w f) (sB.fr w f) ar ay hE hk zN
 have A0:∀{h'}(k:Nat)(d:Int),k<18446744073709551616->Fr [] hh h'->av go 36 [.u b 0,.K,vA k d] h' fun u ac=>Fr [] h' ac/\u=vA (gL (fun _=>none) mN (aE []) (aE N) k d).1 (gL (fun _=>none) mN (aE []) (aE N) k d).2:=
  fun k d hk f=>GN f.r (sN.fr w f) ar hk zN
 have A2:∀{h'}(k:Nat)(d:Int),Fr [] hh h'->av go 37 [.B [vE],.B [vN],vA k d] h' fun u ac=>Fr [] h' ac/\u=vA (gL mB mN (aE E) (aE N) k d).1 (gL mB mN (aE E) (aE N) k d).2:=
  fun k d f=>kN▸Bw f.r (a1.fr f) (fun e m=>(a2 e m).fr f) oM nE (aH.fr f) (fun e m=>(ax e m).fr f) oM ay aj zB zN
 have A3:∀{h'}(k:Nat)(d:Int),Fr [] hh h'->av go 37 [.B [.j],.B [vN],vA k d] h' fun u ac=>Fr [] h' ac/\u=vA (gL (fun _=>none) mN (aE []) (aE N) k d).1 (gL (fun _=>none) mN (aE []) (aE N) k d).2:=
  fun k d f=>kN▸Bw (Bs:=[]) f.r Yo iS iS iS (aH.fr f) (fun e m=>(ax e m).fr f) oM K2 aj rfl zN
 have r0:Fr [] hh hh:=Vk w;simp[a_,g_,anC,g9,ae,ak,ab r0];apply aa (A1 k d hk r0);rintro _ h1 ⟨F1,rfl⟩;simp[a_,g_,g8,ae,af,L8 F1,ab F1,Z F1];apply aa (A2 k d F1);rintro _ h2 ⟨a5,rfl⟩;have F2:=F1.c a5;simp[a_,g_,g5,g9,ak,L5 F2,tJ];apply aa (A1 zk zd hz F2);rintro _ h3 ⟨a4,rfl⟩;have F3:=F2.c a4;simp[a_,g_,g5,g8,af,L5 F3,L8 F3,Z F3];apply aa (A2 zk zd F3);rintro _ h4 ⟨a7,rfl⟩;have F4:=F3.c a7;simp[a_,g_,g9,ae,ab F4,tJ];apply aa (A0 k d hk F4);rintro _ h5 ⟨a0,rfl⟩;have F5:=F4.c a0;simp[a_,g_,ae,af,ab F5,Z F5];apply aa (A3 k d F5);rintro _ h6 ⟨a3,rfl⟩;have F6:=F5.c a3;simp[a_,DF,g_,g8,ae,ak,af,tJ,ab r0,ab F1,ab F4,ab F5,L8 r0,L8 F1,L8 F2,L8 F3,Z r0,Z F1,Z F2,Z F3,Z F4,Z F5,L5 F2,L5 F3];exact K _ F6
theorem KW{Wp:Nat->Prop}{N M D b c ab k ak:Nat}{d ae:Int}{E2 Zn:List d_}{L:List Nt}{vN vn:V}{Q:Ex->T V->b_->Prop}
 (w:WF hh) (r:RK Ks) (lv:LV Ks E) (hE:E.length<=12) (tL:L.length<=6/\eY L<=240) (nE:vE≠.F) (hW:∀y,Wp y->N<=y/\y<M) (sw:SWD n0 D Wp 1024 Ks hh b E) (gD:P_ hh D) (nv:NV Wp hh vn L) (eR:Zq Ks L E=(ak,ae,E2))
 (cB:∀Z h',(∀z∈Z,Wp z\/hh.i<=z)->Fr Z hh h'->SW n0 (fun y=>N<=y) 1024 Ks h' c E) (kE:∀Z h',(∀z∈Z,Wp z\/hh.i<=z)->Fr Z hh h'->o_ d_.s 6 h' vE E/\∀e∈E,q_ h' e.x)
 (kN:∀Z h',(∀z∈Z,Wp z\/hh.i<=z)->Fr Z hh h'->o_ d_.s 6 h' vN Zn/\∀e∈Zn,q_ h' e.x) (kZ:aE Zn=aE E2) (aH:Zn.length<=1024) (hk:k<18446744073709551616) (hz:zk<18446744073709551616)
 (o5:f_ hh p5 [ZZ off,ZX (zk:Int),ZZ zd]) (o8:f_ hh p8 [vE]) (ar:f_ hh p13 [ZX (k:Int),ZZ d]) (ax:f_ hh ab [vN]) (hp:p5<N/\p8<N/\M<=p13/\M<=ab)
 (g5:env.c_ 5=some (.u p5 0)) (g8:env.c_ 8=some (.u p8 0)) (g9:env.c_ 9=some (.u b 0)) (a2:env.c_ 13=some (.u p13 0)) (a0:env.c_ 17=some (.u c 0)) (ay:env.c_ 18=some vn) (a1:env.c_ 19=some (.u ab 0)) (an:env.c_ 21=some (ZZ ae))
 (K:∀env' h',env'.c_ 4=env.c_ 4->env'.c_ 5=env.c_ 5->env'.c_ 7=env.c_ 7->env'.c_ 8=env.c_ 8->env'.c_ 10=env.c_ 10->env'.c_ 11=env.c_ 11->env'.c_ 9=some (.u c 0)->(∃Z,(∀z∈Z,Wp z\/hh.i<=z)/\Fr Z hh h')->SW n0 (fun y=>N<=y) 1024 Ks h' c E->Q .a env' h'):
 W go KY env hh Q:=by
 have al:=GB w sw lv r oM oM oM nv gD;have af:=Mb (L:=L) r lv;rw[eR]at al af;simp[a_,KY,g9,ay];apply aa al;rintro _ h8 ⟨rfl,⟨Z,hZ,fZ⟩,s8⟩;have nz:∀{p},¬Wp p->f_ hh p=f_ hh p:=fun _=>rfl;have keep:∀{p x},(p<N\/M<=p)->f_ hh p x->f_ h8 p x:=fun q o=>fZ.D _ _ (fun m=>by
  have:=o.lt w;obtain z|z:=hZ _ m;grind;omega) o
 let⟨a4,a8⟩:=kE Z h8 hZ fZ;let⟨a7,a3⟩:=kN Z h8 hZ fZ;have sB:=cB Z h8 hZ fZ;have sA:=s8.a;let⟨K8,X8,bi,bf,ba,B8,bg,S8,bo,a9,bc,t8,_,_,a5,_⟩:=s8;let⟨KB,XB,bh,bk,br,BB,bm,SB,bj,bp,bn,tB,_,_,a6,_⟩:=id sB;have aj:=gH.2 a5;have ac:=gH.2 a6;simp[a_,an];refine Nc fZ.r sA sB.a aj ac oM aH kZ (Dh af.1 aj) (Dh lv ac) a4 a8 nE a7 a3 hk hz (keep (.inl hp.1) o5) (keep (.inl hp.2.1) o8) (keep (.inr hp.2.2.1) ar) (keep (.inr hp.2.2.2) ax) iX iX iX iX iX iX fun h9 F9=>?_;refine K _ _ iS iS iS iS iS iS iS ⟨Z,hZ,fZ.bL F9⟩ (sB.fr fZ.r F9)
theorem Nd{h2:b_}{a N M D b p4 p7 k:Nat}{d:Int}{Lb:List B5}{Q:Ex->T V->b_->Prop}
 (w2:WF h2) (F:Fr [] h2 hh) (r:RK Ks) (lv:LV Ks E) (hE:E.length<=12) (rk:o_ w_.s 9 h2 vK Ks) (kh:∀q∈Ks,Q4 h2 q) (kl:KL a h2 vE E) (nE:vE≠.F) (ab:C_ q5 5 h2 vB Lb) (hb:∀q∈Lb,An q)
 (ha:a<=h2.i) (hN:h2.i<=N/\N<=M/\M<=hh.i) (sw:SWD n0 D (fun y=>N<=y/\y<M) 1024 Ks hh b E) (gD:P_ hh D) (hD:N<=D) (hk:k<18446744073709551616) (hz:zk<18446744073709551616)
 (o4:f_ hh p4 [vB]) (o5:f_ hh p5 [ZZ off,ZX (zk:Int),ZZ zd]) (o7:f_ hh p7 [vK,ZZ 12]) (o8:f_ hh p8 [vE]) (bA:f_ hh p13 [ZX (k:Int),ZZ d])
 (hp:p4<N/\p5<N/\p7<N/\p8<N/\M<=p13)
 (g4:env.c_ 4=some (.u p4 0)) (g5:env.c_ 5=some (.u p5 0)) (g7:env.c_ 7=some (.u p7 0)) (g8:env.c_ 8=some (.u p8 0)) (g9:env.c_ 9=some (.u b 0)) (bV:env.c_ 13=some (.u p13 0))
 (K:∀env' h' c,env'.c_ 4=env.c_ 4->env'.c_ 5=env.c_ 5->env'.c_ 7=env.c_ 7->env'.c_ 8=env.c_ 8->env'.c_ 10=env.c_ 10->env'.c_ 11=env.c_ 11->env'.c_ 9=some (.u c 0)->(∃Z,(∀z∈Z,N<=z)/\Fr Z hh h')->SW n0 (fun y=>N<=y) 1024 Ks h' c E->Q .a env' h'):
 W go anB env hh Q:=by
 let⟨Kk,X,st,b7,bg,B,bm,S,bl,pm,mc,s,sk,ev,ix,b9,hW,ca,cb⟩:=sw;have w:=F.r;have bf:b7.O=true:=Wj (s.rd [] hh iS (Vk w)).1;have bC:vK.O=true:=Wj rk;have lx:X.length=E.length:=by have:=congrArg List.length ev;simpa using this
 have nF:=F.i;simp[a_,anB,g9];apply aa (Ad w s bf oM gD cb ca);rintro _ h1 ⟨F1,c,a9,B',bv,S',bl',bp,rfl,ge,bB,a6⟩;have n1:=F1.i;have aj:=F.c F1;have L4:∀{h'},Fr [] hh h'->aq h' p4 0 1=some [vB]:=fun f=>by rw[(f.c_ o4).J];rfl
 have L7:∀{h'},Fr [] hh h'->aq h' p7 0 2=some [vK,ZZ 12]:=fun f=>by rw[(f.c_ o7).J];rfl
 have L8:∀{h'},Fr [] hh h'->aq h' p8 0 1=some [vE]:=fun f=>by rw[(f.c_ o8).J];rfl
 have kp:KQ (fun z=>z<a\/(h2.i<=z/\z<h1.i)) h1 vE E:=fun S h' hS f=>kl S h' (fun z m=>by obtain(q|q)|q:=hS z m<;>omega) (Vn aj f w2 iS (fun x m=>.inl m))
 have br:=lv.d r;simp[a_,g4,g7,g8,L4 F1,L7 F1,L8 F1];apply aa (ME (P:=fun z=>z<a\/(h2.i<=z/\z<h1.i)) F1.r (fun z q=>by omega) (VJ rk aj) (fun q m=>(kh q m).fr aj) r kp (fun e m=>⟨kp.is m,br _ (VK.2 ⟨e,m,rfl⟩)⟩) hE (ab.fr aj) hb);rintro vn h3 ⟨F3,L,lL,tL,ns⟩;have n3:=F3.i;have ay:=F1.c F3;have ar:=aj.c F3;have d3:DB h3 Ks vK vE E:=⟨F3.r,VJ rk ar,fun q m=>(kh q m).fr ar,(kl [] h3 iS ar).1,lv.i r (kl [] h3 iS ar).2 oM⟩;have na:=ns.na F3.r (S:=[]) iS (Vk F3.r);obtain⟨ak,ae,E2,eR⟩:∃ak ae E2,Zq Ks L E=(ak,ae,E2):=⟨_,_,_,rfl⟩;have nl:=Hv d3 nE na oM oM;rw[eR]at nl;simp[a_,g7,g8,L7 ay,L8 ay];apply aa nl;rintro _ h4 ⟨F4,vW,rfl,bT,bw,qW⟩;have n4:=F4.i;have a3:=ay.c F4;let⟨h5,bW,b6,ch⟩:=au F4.r [.j];have n5:=s_ bW;simp[a_,<-bW];refine ao (o:=0) (v:=.B [vW]) (c':=[vW]) b6.r ch rfl (by show aw [_]=true;simp only[aA,aD,bw];rfl) rfl ?_;rintro h6 o6 F6 n6;have an:Fr [] h4 h6:=b6.y F6 F4.r (Ve _);have bi:=a3.c an;have bj:=Mb (L:=L) r lv;rw[eR]at bj;have a2:vE.O=true:=Wj d3.d;have lt:=s.aL w;have nh:∀{p},p∈Wr b bg B bm S bl pm->N<=p/\p<M:=fun m=>hW _ m;have fin:∀(ac:T V)(h7:b_)(vN:V)(Zn:List d_),Fr [] h1 h7->Fr [h4.i] h6 h7->f_ h7 h4.i [vN]->aE Zn=aE E2->Zn.length<=1024->(∀Z h',(∀z∈Z,z∈Wr b bg B bm S bl pm\/h7.i<=z)->Fr Z h7 h'->o_ d_.s 6 h' vN Zn/\∀e∈Zn,q_ h' e.x)->
  ac.c_ 5=some (.u p5 0)->ac.c_ 8=some (.u p8 0)->ac.c_ 9=some (.u b 0)->ac.c_ 13=some (.u p13 0)->ac.c_ 17=some (.u c 0)->ac.c_ 18=some vn->ac.c_ 19=some (.u h4.i 0)->ac.c_ 21=some (ZZ ae)->
  ac.c_ 4=env.c_ 4->ac.c_ 7=env.c_ 7->ac.c_ 10=env.c_ 10->ac.c_ 11=env.c_ 11->W go KY ac h7 Q:=by
  intro ac h7 vN Zn ax aH a4 kZ a5 kN e5 e8 e9 a7 bc bz bn bo c4 c7 bt bk;have af:=F1.c ax;have n7:=ax.i;have bE:=aH.i;have w7:=ax.r;have bh:Fr [] h3 h7:=Ww F3.r (F4.c an) aH (fun z m=>by rw[Vu.1 m];omega);refine KW (Wp:=fun y=>y∈Wr b bg B bm S bl pm) (N:=N) (M:=M) w7 r lv hE ⟨lL,tL⟩ nE (fun y m=>hW y m) ⟨Kk,X,st,b7,bg,B,bm,S,bl,pm,mc,s.fr w af,sk,ev,ix,b9,fun y m=>m,ca,cb⟩ (gD.fr af iS)
   (ns.nv F3.r (S0:=[]) iS bh (fun z m=>.inl (.inr (by have:=nh m;have:=lt z m;omega)))) eR (fun Z h' hZ f=>?_) (fun Z h' hZ f=>kl Z h' (fun z m=>.inr (by obtain q|q:=hZ z m;have:=nh q;omega;omega)) (Vn (F.c af) f w2 iS (fun x m=>.inl m))) kN kZ a5 hk hz
   (af.c_ o5) (af.c_ o8) (af.c_ bA) a4 ⟨hp.2.1,hp.2.2.2.1,hp.2.2.2.2,oM⟩ e5 e8 e9 a7 bc bz bn bo fun env' h' d4 d5 d7 d8 a8 a1 d9 dz ds=>?_
  exact⟨Kk,X,st,b7,a9,B',bv,S',bl',bp,mc,a6 Z h' (fun z m=>by obtain q|q:=hZ z m;exact .inl q;exact .inr oM) (Vn ax f F1.r iS (fun x m=>.inl m)),sk,ev,ix,b9,fun y m=>by obtain q|q:=ge y m<;>omega⟩
  let⟨Z,hZ,fZ⟩:=dz;exact K env' h' c (d4.trans c4) (d5.trans (e5.trans g5.symm)) (d7.trans c7) (d8.trans (e8.trans g8.symm)) (a8.trans bt) (a1.trans bk) d9 ⟨Z,fun z m=>by obtain q|q:=hZ z m;exact(nh q).1;omega,Vn af fZ w iS (fun x m=>.inl m)⟩ ds
 by_cases ce:ae=0;let⟨Zn,ci,cc,cj⟩:=qW ce;have ba:=ci.kl F4.r cj;have bD:=yd cc;simp[a_,eq_true ce];refine fin _ h6 vW Zn ((F3.c F4).c an) (Vk F6.r) o6 (pz cc) oM (fun Z h' hZ f=>ba Z h' (fun z m=>?_) (Vn an f F4.r iS (fun x m=>.inl m))) iX iX iX iX iS iS iS iS iS iS iS iS;obtain q|q:=hZ z m;have:=lt z q;omega;omega;have e2:E2=E:=by have:=Nh (Ks:=Ks) (L:=L) (E:=E);rw[eR]at this;exact this ce
 subst e2;simp[a_,eq_false ce,g8,L8 bi];refine ao (o:=0) (v:=.B [vE]) (c':=[vE]) F6.r o6 rfl (by show aw [_]=true;simp only[aA,aD,a2];rfl) rfl ?_;rintro h7 o7 F7 n7;have a0:Fr [] h1 h7:=Ww F1.r ((F3.c F4).c an) F7 (fun z m=>by rw[Vu.1 m];omega);simp[a_];refine fin _ h7 vE E2 a0 F7 o7 rfl oM (fun Z h' hZ f=>kl Z h' (fun z m=>?_) (Vn (aj.c a0) f w2 iS (fun x m=>.inl m))) iX iX iX iX iS iS iS iS iS iS iS iS;obtain q|q:=hZ z m;have:=nh q;exact .inr oM;exact .inr oM
theorem Nb{s:Int}(h:∀e∈E,e.x.A<18446744073709551616):(jM E s).1<18446744073709551616:=by unfold jM;split;grind;show 0<_;omega
theorem MT{h:b_}{p:Nat}{k d:Int}(o:f_ h p [ZX k,ZZ d]):P_ h p:=⟨_,o,iS,fun L hL e=>by
 cases L with
 |nil=>simp at hL
 |cons x L=>simp[sp]at e⟩
theorem Nf{h2:b_}{a N b p4 p7:Nat}{s:Int}{Lb:List B5}{Q:Ex->T V->b_->Prop}
 (w2:WF h2) (F:Fr [] h2 hh) (r:RK Ks) (lv:LV Ks E) (hE:E.length<=12) (rk:o_ w_.s 9 h2 vK Ks) (kh:∀q∈Ks,Q4 h2 q) (kl:KL a h2 vE E) (nE:vE≠.F) (ab:C_ q5 5 h2 vB Lb) (hb:∀q∈Lb,An q)
 (ha:a<=h2.i) (hN:h2.i<=N/\N<=hh.i) (sw:SW n0 (fun y=>N<=y) 1024 Ks hh b E) (is:P8 s) (hz:zk<18446744073709551616)
 (o4:f_ hh p4 [vB]) (o5:f_ hh p5 [ZZ off,ZX (zk:Int),ZZ zd]) (o7:f_ hh p7 [vK,ZZ 12]) (o8:f_ hh p8 [vE]) (hp:p4<N/\p5<N/\p7<N/\p8<N)
 (g4:env.c_ 4=some (.u p4 0)) (g5:env.c_ 5=some (.u p5 0)) (g7:env.c_ 7=some (.u p7 0)) (g8:env.c_ 8=some (.u p8 0)) (g9:env.c_ 9=some (.u b 0)) (ay:env.c_ 12=some (ZZ s))
 (K:∀env' h' c n0,env'.c_ 4=env.c_ 4->env'.c_ 5=env.c_ 5->env'.c_ 7=env.c_ 7->env'.c_ 8=env.c_ 8->env'.c_ 10=env.c_ 10->env'.c_ 11=env.c_ 11->env'.c_ 9=some (.u c 0)->(∃Z,(∀z∈Z,N<=z)/\Fr Z hh h')->SW n0 (fun y=>N<=y) 1024 Ks h' c E->Q .a env' h'):
 W go anA env hh Q:=by
 let⟨Kk,X,st,bp,bg,B,bm,S,bl,pm,mc,bj,sk,ev,ix,bo,hW⟩:=sw;have w:=F.r;have a1:=lv.d r;have ok:=a1.a;have ub:=a1.b E.length;rw[Wz]at ub;let⟨re,ie⟩:=kl [] hh iS F;have hk:=Nb (E:=E) (s:=s) fun e m=>(ie e m).k;simp[a_,anA,g9,ay];apply aa (BN w bj ev ok is);rintro _ h1 ⟨F1,rfl⟩;let⟨h3,bf,bc,bk⟩:=au F1.r ZR;have n1:=F1.i;have n3:=s_ bf;simp[a_,<-bf];apply u_ bc.r bk;rintro h4 ax F4 n4;have a9:Fr [] h1 h4:=bc.y F4 F1.r (Ve _);have an:=F1.c a9;have l8:aq h4 p8 0 1=some [vE]:=by rw[(an.c_ o8).J];rfl
 simp[a_,g8,l8,ay];apply aa (Iv F4.r (re.fr an) (fun e m=>(ie e m).fr an) oM ok oM is);rintro _ h5 ⟨F5,rfl⟩;let⟨h6,bh,bi,bn⟩:=au F5.r ZR;have n5:=F5.i;have n6:=s_ bh;simp[a_,<-bh];apply u_ bi.r bn;rintro h7 af F7 n7;have a8:Fr [] h5 h7:=bi.y F7 F5.r (Ve _);have aH:=F5.c a8;have ar:=an.c aH;have aj:=aH.c_ ax;have a0:aq h7 h1.i 0 2=some [ZX ((jM E s).1:Int),ZZ (jM E s).2.1]:=by rw[aj.J];rfl
 have ak:aq h7 h5.i 0 2=some [ZX ((jM E s).1:Int),ZZ (jM E s).2.1]:=by rw[af.J];rfl
 generalize jM E s=A at *;have lt:=bj.aL w;have fin:∀(ac:T V)(h8:b_)(k:Nat)(d:Int),Fr [] hh h8->f_ h8 h1.i [ZX (k:Int),ZZ d]->f_ h8 h5.i [ZX (A.1:Int),ZZ A.2.1]->k<18446744073709551616->
  ac.c_ 5=some (.u p5 0)->ac.c_ 8=some (.u p8 0)->ac.c_ 9=some (.u b 0)->ac.c_ 13=some (.u h1.i 0)->
  ac.c_ 4=env.c_ 4->ac.c_ 7=env.c_ 7->ac.c_ 10=env.c_ 10->ac.c_ 11=env.c_ 11->W go anB ac h8 Q:=by
  intro ac h8 k d ae ax af hk e5 e8 e9 a4 c4 c7 a3 a5;have n8:=ae.i;have ak:=af.lt ae.r;refine Nd (n0:=(n0.1,some h5.i)) (N:=N) (M:=hh.i) (D:=h5.i) w2 (F.c ae) r lv hE rk kh kl nE ab hb ha ⟨hN.1,hN.2,n8⟩
   ⟨Kk,X,st,bp,bg,B,bm,S,bl,pm,mc,bj.cf w ae oM ak,sk,ev,ix,bo,fun y m=>⟨hW y m,lt y m⟩,.inr rfl,fun m=>by have:=lt _ m;omega⟩ (MT af) oM hk hz (ae.c_ o4) (ae.c_ o5) (ae.c_ o7) (ae.c_ o8) ax ⟨hp.1,hp.2.1,hp.2.2.1,hp.2.2.2,oM⟩
   (c4.trans g4) e5 (c7.trans g7) e8 e9 a4 fun env' h' c d4 d5 d7 d8 a6 a2 d9 dz ds=>?_
  let⟨Z,hZ,fZ⟩:=dz;exact K env' h' c _ (d4.trans c4) (d5.trans (e5.trans g5.symm)) (d7.trans c7) (d8.trans (e8.trans g8.symm)) (a6.trans a3) (a2.trans a5) d9 ⟨Z,hZ,Vn ae fZ w iS (fun x m=>.inl m)⟩ ds
 by_cases ce:A.2.2=0;simp[a_,a0,ak,tJ,eq_true ce];exact fin _ h7 A.1 A.2.1 ar aj af hk iX iX iX iS iS iS iS iS;have l5:aq h7 p5 1 2=some [ZX (zk:Int),ZZ zd]:=by rw[(ar.c_ o5).J];rfl
 simp[a_,a0,ak,tJ,eq_false ce,g5,l5];apply u_ F7.r aj;rintro h8 a7 F8 n8;have ba:Fr [] hh h8:=ar.y F8 w oM;simp[a_];exact fin _ h8 zk zd ba a7 (F8.D _ _ oO af) hz iX iX iX iS iS iS iS iS
theorem sF{h:b_}{vI vH:V}{kb:Nat}{L:List (Nat×Nat×Nat×Nat)}{H:List Nat}{Lb:List B5}(w:WF h)(a:C_ q4 4 h vI L)(hb:∀q∈L,q.1<256/\q.2.1<256/\q.2.2.1<256/\q.2.2.2<256)
 (aH:C_ b8 1 h vH H) (hH:∀n∈H,n<256) (hk:kb<256) (ab:C_ q5 5 h vB Lb) (hB:∀q∈Lb,An q) (io:P8 off) (hz:zk<18446744073709551616):
 av go 7 [.B [vI,vH,ZY (kb:Int)],.B [vB],.B [ZZ off,ZX (zk:Int),ZZ zd]] h fun u h'=>u=.h true/\Fr [] h h':=by
 have v1:=a.O;have v2:=aH.O;have v3:=ab.O;let⟨bC,bT⟩:=io;let⟨h1,bj,bo,bA⟩:=au w [vI,vH,ZY (kb:Int)];let⟨h2,bh,bi,bv⟩:=au bo.r [vB];let⟨h3,bn,bk,br⟩:=au bi.r [ZZ off,ZX (zk:Int),ZZ zd];have n1:=s_ bj;have n2:=s_ bh;have n3:=s_ bn;have a1:=bi.c bk;have aj:=bo.c a1;have l3:aq h3 h.i 0 3=some [vI,vH,ZY (kb:Int)]:=by rw[(a1.c_ bA).J];rfl
 refine ai ?_;simp[a_,<-bj,<-bh,<-bn,l3];refine aa (Id aj.r (a.fr aj) hb (aH.fr aj) hH hk) ?_;rintro _ h4 ⟨F4,vK,Ks,X,vE,E,rfl,rk,kh,d⟩;have a5:vK.O=true:=Wj rk;have a4:=d.g.O;let⟨h5,bc,bf,bB⟩:=au F4.r [.j,ZZ 0];let⟨h6,bp,ba,bt⟩:=au bf.r [.j];have n4:=F4.i;have n5:=s_ bc;have n6:=s_ bp;simp[a_,<-bc,<-bp];refine ao (o:=0) (v:=.B [vK,ZZ 12]) (c':=[vK,ZZ 12]) ba.r (ba.c_ bB) rfl (by show aw [_,_]=true;simp only[aA,aD,a5];rfl) rfl ?_;rintro h7 o7 F7 n7;simp[a_];refine ao (o:=0) (v:=.B [vE]) (c':=[vE]) F7.r (F7.D _ _ oO bt) rfl (by show aw [_]=true;simp only[aA,aD,a4];rfl) rfl ?_;rintro h8 o8 F8 n8;have ak:Fr [] h4 h8:=((bf.c ba).y F7 F4.r (Ve _)).y F8 F4.r oM;have a2:=F8.D _ _ oO o7;have l7:aq h8 h4.i 0 2=some [vK,ZZ 12]:=by rw[a2.J];rfl
 have l8:aq h8 h5.i 0 1=some [vE]:=by rw[o8.J];rfl
 have d8:=d.a ak iS;simp[a_,l7,l8];apply aa (GF F8.r (VJ rk ak) (fun q m=>(kh q m).fr ak) d8.d d8.c);rintro _ h9 ⟨b,rfl,F9,s9⟩;have d9:=d8.a F9 iS;have lv:=d9.c.d;have r:=d9.c.r;have ay:=lv.d r;have x8:ag h9 h5.i 0=some vE:=(F9.c_ o8).o 0;have el:=d.n;simp[a_,x8,d9.d.M];apply aa (KG d9.d oM ay (Ve _));rintro _ _ ⟨rfl,rfl⟩;have ub:=ay.b E.length;have nn:=ay.a.a;rw[Wz]at ub|-;generalize(E.map d_.b).sum=tot at ub nn;have nE:vE≠.F:=by obtain⟨e,_⟩|⟨_,_,e,_⟩:=d8.g<;>rw[e]<;>simp
 obtain⟨m,em⟩:∃m,m=max tot 1:=⟨_,rfl⟩;have r1:aP (.h .rem) [ZZ off,ZZ m]=some (ZZ (off.tmod m)):=jy _ _ _ oM;have r2:aP (.h .rem) [ZZ (off.tmod m+m),ZZ m]=some (ZZ ((off.tmod m+m).tmod m)):=jy _ _ _ oM;have t1:=Lu off (m:=m) oM;have t2:=Lu (off.tmod m+m) (m:=m) oM;generalize off.tmod m=q1 at r1 r2 t1 t2;generalize(q1+m).tmod m=q2 at r2 t2;have ar:=ak.c F9;have a7:=ak.i;have a9:=F9.i;have a8:=(aj.c F4).c ar;let⟨n0,Kk,XX,st,bD,bg,B,bm,S,bl,pm,mc,bw,sk,ev,nz,ix,bz,ge,bE⟩:=s9;have o4:f_ h9 h1.i [vB]:=(((bk.c F4).c ar)).c_ bv;have o5:f_ h9 h2.i [ZZ off,ZX (zk:Int),ZZ zd]:=((F4.c ar)).c_ br;simp[a_];refine aC (fun k env hh=>Fr [] h4 hh/\∃(i:Nat)(b:Nat)(n0:NL),env.c_ 11=some (ZZ i)/\env.c_ 4=some (.u h1.i 0)/\env.c_ 5=some (.u h2.i 0)/\env.c_ 7=some (.u h4.i 0)/\env.c_ 8=some (.u h5.i 0)/\env.c_ 9=some (.u b 0)/\env.c_ 10=some (ZZ tot)/\i<=2/\
  f_ hh h1.i [vB]/\f_ hh h2.i [ZZ off,ZX (zk:Int),ZZ zd]/\f_ hh h4.i [vK,ZZ 12]/\f_ hh h5.i [vE]/\SW n0 (fun y=>h8.i<=y) 1024 Ks hh b E/\h9.i<=hh.i/\k=2-i) 2 oM ?_ ?_
 exact⟨ar,0,b,n0,iS,iS,iS,iS,iS,iS,iS,oM,o4,o5,F9.c_ a2,F9.c_ o8,⟨Kk,XX,st,bD,bg,B,bm,S,bl,pm,mc,bw,sk,ev,gH.1 ix,bz,ge⟩,Ve _,rfl⟩;clear o4 o5 bw sk ev nz ix bz ge bE;rintro k env hh ⟨F,i,b,n0,ax,g4,g5,g7,g8,g9,a3,hi,o4,o5,o7,o8,sw,nh,rfl⟩;by_cases ci:i<2;have l0:ag hh h2.i 0=some (ZZ off):=o5.o 0;have step:∀(ae:T V)(s:Int)(Q:Ex->T V->b_->Prop),P8 s->ae.c_ 12=some (ZZ s)->ae.c_ 4=env.c_ 4->ae.c_ 5=env.c_ 5->ae.c_ 7=env.c_ 7->ae.c_ 8=env.c_ 8->ae.c_ 9=env.c_ 9->ae.c_ 10=env.c_ 10->ae.c_ 11=env.c_ 11->
  (∀ac h' b' af,ac.c_ 11=some (ZZ i)->ac.c_ 4=some (.u h1.i 0)->ac.c_ 5=some (.u h2.i 0)->ac.c_ 7=some (.u h4.i 0)->ac.c_ 8=some (.u h5.i 0)->ac.c_ 9=some (.u b' 0)->ac.c_ 10=some (ZZ tot)->Fr [] h4 h'->
   f_ h' h1.i [vB]->f_ h' h2.i [ZZ off,ZX (zk:Int),ZZ zd]->f_ h' h4.i [vK,ZZ 12]->f_ h' h5.i [vE]->SW af (fun y=>h8.i<=y) 1024 Ks h' b' E->h9.i<=h'.i->Q .a ac h')->W go anA ae hh Q:=by
  intro ae s Q is a6 e4 e5 e7 e8 e9 a0 an K;refine Nf (a:=h3.i) (N:=h8.i) F4.r F r lv el rk kh d.b nE (ab.fr (aj.c F4)) hB oM ⟨oM,oM⟩ sw is hz o4 o5 o7 o8 oM (e4.trans g4) (e5.trans g5) (e7.trans g7) (e8.trans g8) (e9.trans g9) a6 fun ac h' c af d4 d5 d7 d8 d10 d11 d9 dz ds=>?_;let⟨Z,hZ,fZ⟩:=dz;have ne:∀{p},p<h8.i->p∉Z:=fun q m=>by have:=hZ _ m;omega
  exact K ac h' c af (d11.trans (an.trans ax)) (d4.trans (e4.trans g4)) (d5.trans (e5.trans g5)) (d7.trans (e7.trans g7)) (d8.trans (e8.trans g8)) d9 (d10.trans (a0.trans a3)) (Ww F4.r F fZ (fun z m=>by have:=hZ z m;omega))
   (fZ.D _ _ (ne oM) o4) (fZ.D _ _ (ne oM) o5) (fZ.D _ _ (ne oM) o7) (fZ.D _ _ (ne oM) o8) ds (VC nh fZ.i)
 by_cases c0:0<i;simp(disch:=omega) only[a_,seval,ah,ax,g5,a3,l0,eq_true (oM:(i:Int)<2),eq_true (oM:(0:Int)<i),show max tot 1=m from em.symm,r1,r2];refine step _ q2 _ ⟨oM,oM⟩ iS iS iS iS iS iS iS iS fun ac h' b' af an e4 e5 e7 e8 e9 a0 f p4 p5 p7 p8 ps ph=>?_;simp(disch:=omega) only[a_,ah,an];refine t_ ⟨2-(i+1),oM,f,i+1,b',af,iS,iX,iX,iX,iX,iX,iX,oM,p4,p5,p7,p8,ps,ph,rfl⟩;simp only[a_,seval,ax,g5,l0,eq_true (oM:(i:Int)<2),eq_false (oM:¬(0:Int)<i)];refine step _ off _ ⟨bC,bT⟩ iS iS iS iS iS iS iS iS fun ac h' b' af an e4 e5 e7 e8 e9 a0 f p4 p5 p7 p8 ps ph=>?_;simp(disch:=omega) only[a_,ah,an];refine t_ ⟨2-(i+1),oM,f,i+1,b',af,iS,iX,iX,iX,iX,iX,iX,oM,p4,p5,p7,p8,ps,ph,rfl⟩;obtain rfl:i=2:=oM;simp[a_,ax];apply aa (J4 _);rintro _ _ ⟨rfl,rfl⟩;simp[a_];exact(aj.c F4).c F
end Go.Ev.Lay
