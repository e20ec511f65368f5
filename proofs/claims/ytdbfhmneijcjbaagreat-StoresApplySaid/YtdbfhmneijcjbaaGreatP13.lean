/- An evaluator of the program, and contracts over it: StcA to StcQ. -/
import Derived.Test.YtdbfhmneijcjbaaGreatP12
set_option linter.unusedSimpArgs false
set_option linter.unusedVariables false
set_option linter.constructorNameAsVariable false
set_option linter.unnecessarySimpa false
namespace Go.Ev.Lay
variable{xs:List V}{n0:NL}{bg bm bl B' S' C:Nat}{Ks:List Knd}{cap:Int}{X:List Itm}{kn st:List Bool}{vK:V}{pm:Option Nat}{h' h2:Heap}{α:Type}{E:List Ent}
open Go.Ev.St
set_option maxRecDepth 4000
theorem nT{n p q:Nat}(h:p+q<=n):wX n p q=0:=by unfold wX;rw[if_neg];omega
theorem sG{h:Heap}{b B n p q:Nat}{l:List V}(w:WF h)(k:Gp h b B n l)(hp:p+q<=n):
 ao go 98 [.ptr b 0,ZZ (p:Int),ZZ (q:Int)] h fun z h'=>z=ZZ 0/\Gp h' b B (n-q) (l.take (p*4)++l.drop ((p+q) *4))/\Fr [b,B] h h'/\(Good h B->Good h' B):=by
 obtain⟨v,c1,G,c2,a,g,m,k,rfl,rfl⟩:=k;have am:=k.am;by_cases c0:q=0;subst c0;refine ag ?_;simp only[evs,↓reduceIte,Nat.reduceEqDiff,Nat.reduceAdd];refine aa (d9 k (p:Int) (0:Nat)) ?_;rintro _ _ ⟨rfl,rfl⟩;simp only[evs,↓reduceIte,Nat.reduceEqDiff,nT hp,(iS:(((0:Nat):Int)=0)=True)];exact⟨⟨v,c1,G,c2,a,g,m,k,iS,oM⟩,Sn w,id⟩;have nz:(q:Int)=0↔False:=by simp;omega
 refine ag ?_;simp only[evs,↓reduceIte,Nat.reduceEqDiff,Nat.reduceAdd];refine aa (d9 k (p:Int) (q:Int)) ?_;rintro _ _ ⟨rfl,rfl⟩;simp only[evs,↓reduceIte,Nat.reduceEqDiff,nT hp,nz];apply aa (zF w k (p:=p) oM);rintro _ h1 ⟨rfl,Z,F1⟩;have l0:ab h1 b 0=some v:=Z.ob.ld1 0;have l2:ab h1 b 2=some (ZZ (g:Int)):=Z.ob.ld1 2;have ae:=Z.nb;let⟨u3,e3,s3,d3⟩:=Z.tb.range oM .i64 .i64 ((p:Int)+g) ((p:Int)+g+q) (p+g) (p+g+q) oM oM oM oM;simp(disch:=omega) only[evs,↓reduceIte,Nat.reduceEqDiff,eff,ah,l0,l2,e3];apply AJ F1.wf d3 rfl rfl Z.tb;rintro h2 t2 F2 n2;have K:=F2.own b _ (eV Z.ne.symm) Z.ob;have ac:ab h2 b 2=some (ZZ (g:Int)):=K.ld1 2;simp(disch:=omega) only[evs,↓reduceIte,Nat.reduceEqDiff,Nat.reduceAdd,DF,Nat.reduceSub,ah,l0,l2,ac];refine ai (c':=[v,ZZ (p:Int),ZZ ((g+q:Nat):Int)]) F2.wf K rfl rfl (by rw[(oM:((g+q:Nat):Int)=(g:Int)+q)];rfl) ?_;rintro h3 o3 F3 n3;simp only[evs,↓reduceIte];have t3:=t2.fr F3 (eV Z.ne);generalize hL:c1++c2=L at Z t3;have x1:=Z.l1;have x2:=Z.lg;have x3:=Z.l2;have lL:L.length=(a+m) *4:=by grind
 have e1:(L.take (p*4)++aU Z4 g++L.drop (p*4)).take ((p+g) *4)=L.take (p*4)++aU Z4 g:=by grind
 have e2:(L.take (p*4)++aU Z4 g++L.drop (p*4)).drop ((p+g) *4+(p+g+q-(p+g)) *4)=L.drop ((p+q) *4):=by rw[show(p+g) *4+(p+g+q-(p+g)) *4=(L.take (p*4)++aU Z4 g).length+q*4 by rw[Sv];omega,Tg,Tl];congr 1;omega
 rw[e1,e2,(oM:p+g+q-(p+g)=q)]at t3;have n6:=Z.n6;have gd:Good h3 B:=by
  obtain⟨hl,⟨_,z⟩|⟨_,o⟩⟩:=id t3;omega;refine⟨_,o,oM,wJ (Vw (Vw (n6.sub fun x m=>by rw[pi]at m;obtain m|m:=m<;>simp[m]) (NoI.rep NoI.z4 q)) (n6.sub fun x m=>?_))⟩
  have:x∈L.drop (p*4):=by rw[(oM:(p+q) *4=p*4+q*4),<-Tl]at m;exact Tc m
  simp[this]
 refine⟨⟨v,L.take (p*4),aU Z4 g++aU Z4 q,L.drop ((p+q) *4),p,g+q,a+m-p-q,⟨o3,?_,x1,?_,?_,Z.o1,?_,Z.ne,oM,oM,?_⟩,rfl,oM⟩,?_,fun _=>gd⟩;rw[(oM:p+(g+q)+(a+m-p-q)=p+g+(a+m-p)),<-SM];exact t3;rw[Sv,cP,cP];simp;omega;grind;have:=bq (q*4) Z.o2;rw[Tl]at this;rw[(oM:(p+q) *4=p*4+q*4)];exact this;refine Vw (Vw (n6.sub fun x m=>by simp[m]) (Vw (NoI.rep NoI.z4 g) (NoI.rep NoI.z4 q))) (n6.sub fun x m=>?_);have:x∈L.drop (p*4):=by rw[(oM:(p+q) *4=p*4+q*4),<-Tl]at m;exact Tc m
 simp[this];refine Sj (T:=[b,B]) (Sj (T:=[b,B]) F1 F2 w ?_ ?_) F3 w ?_ ?_<;>intro x hx<;>simp at hx|- <;>omega
theorem Me{D:List V}{q i:Nat}(hD:D.length=q*4)(hi:i<q):bu (D.take (i*4)++aU Z4 (q-i)) (i*4) ((D.drop (i*4)).take 4)=some (D.take ((i+1) *4)++aU Z4 (q-(i+1))):=by
 have l1:(D.take (i*4)).length=i*4:=by simp;omega
 have l2:((D.drop (i*4)).take 4).length=4:=by simp;omega
 rw[bQ _ _ _ (by rw[l2,Sv,cP,l1];simp;omega),l2];congr 1;have K:(D.take (i*4)++aU Z4 (q-i)).take (i*4)=D.take (i*4):=by grind
 have Z:(D.take (i*4)++aU Z4 (q-i)).drop (i*4+4)=aU Z4 (q-(i+1)):=by rw[(oM:i*4+4=(D.take (i*4)).length+4),Tg,(oM:q-i=q-(i+1)+1),eW];rfl
 rw[K,Z,(oM:(i+1) *4=i*4+4),List.take_add]
theorem Fp{h:Heap}{b B n p q t:Nat}{l:List V}(w:WF h)(k:Gp h b B n l)(hp:p+q<=n)(ht:t+q<=n):
 ao go 101 [.ptr b 0,ZZ (p:Int),ZZ (q:Int),ZZ (t:Int)] h fun z h'=>z=ZZ 0/\∃B',(B'=B\/h.next<=B')/\
  Gp h' b B' n ((l.take (p*4)++l.drop ((p+q) *4)).take (t*4)++(l.drop (p*4)).take (q*4)++(l.take (p*4)++l.drop ((p+q) *4)).drop (t*4))/\Fr [b,B] h h'/\(Good h B->Good h' B'):=by
 let⟨ll,ln,lo⟩:=k.len;let⟨v,c1,G,c2,a,g,m,k0,el,en⟩:=id k;have am:=k0.am;have t0:¬(t:Int)<0:=oM;have tq:¬((a+m:Nat):Int)-(q:Int)<(t:Int):=oM;by_cases c0:q=0;subst c0;refine ag ?_;simp only[evs,↓reduceIte,Nat.reduceEqDiff,Nat.reduceAdd];refine aa (d9 k0 (p:Int) (0:Nat)) ?_;rintro _ _ ⟨rfl,rfl⟩;simp only[evs,↓reduceIte,Nat.reduceEqDiff,nT (oM:p+0<=a+m),t0];apply aa (dk k0);rintro _ _ ⟨rfl,rfl⟩;simp(disch:=omega) only[evs,↓reduceIte,Nat.reduceEqDiff,ah,tq,(iS:(((0:Nat):Int)=0)=True)];refine⟨B,.inl rfl,?_,Sn w,id⟩;simp only[SB];exact k;have nz:(q:Int)=0↔False:=by simp;omega
 refine ag ?_;simp only[evs,↓reduceIte,Nat.reduceEqDiff,Nat.reduceAdd];refine aa (d9 k0 (p:Int) (q:Int)) ?_;rintro _ _ ⟨rfl,rfl⟩;simp only[evs,↓reduceIte,Nat.reduceEqDiff,nT (oM:p+q<=a+m),t0];apply aa (dk k0);rintro _ _ ⟨rfl,rfl⟩;simp(disch:=omega) only[evs,↓reduceIte,Nat.reduceEqDiff,ah,tq,nz];refine(de _ _ _ _ _ _ _ _ oM oM oM oM).2 ?_;simp only[RX];let⟨h1,e_h1,F1,o1⟩:=aq w (aU Z4 q);have n1:=hnx e_h1;rw[<-e_h1];clear e_h1;have bl:=k0.ob.lt w;have Bl:B<h.next:=by obtain⟨hl,⟨_,z⟩|⟨_,o⟩⟩:=k0.tb;omega;exact o.lt w
 generalize hD:(l.drop (p*4)).take (q*4)=D;have lD:D.length=q*4:=by grind
 simp only[evs,↓reduceIte];refine aC (fun n' env K=>Fr [h.next] h1 K/\∃i:Nat,env.get 35=some (ZZ i)/\env.get 34=some (ZZ q)/\env.get 10=some (.slice h.next 0 q q)/\env.get 0=some (.ptr b 0)/\env.get 1=some (ZZ (p:Int))/\env.get 2=some (ZZ (q:Int))/\env.get 3=some (ZZ (t:Int))/\
  i<=q/\Own K h.next (D.take (i*4)++aU Z4 (q-i))/\n'=q-i) q oM ?_ ?_
 exact⟨Sn F1.wf,0,iS,iS,iS,iS,iS,iS,iS,oM,by simpa using o1,rfl⟩;rintro n' env K ⟨F,i,Z,ae,ac,g0,g1,g2,g3,hi,oo,rfl⟩;have kh:=(k0.fr F1 iS iS).fr F oO oO;have F0:Fr [] h K:=TL w F1 F iS;by_cases c:i<q;have l0:ab K b 0=some v:=kh.ob.ld1 0;simp(disch:=omega) only[evs,↓reduceIte,Nat.reduceEqDiff,eff,ah,Z,ae,ac,g0,g1,(oM:(i:Int)<q),l0,(oM:(p:Int)+i=((p+i:Nat):Int))];apply aa (rS kh (p+i) oM);rintro _ _ ⟨rfl,rfl⟩;have⟨a1,a2⟩:=kh.at' (i:=p+i) oM;have ec:((c1++c2).drop ((p+i) *4)).take 4=(D.drop (i*4)).take 4:=by rw[<-hD,<-el,Va,Tl,TQ,TM oM];congr 2;omega
 rw[ec]at a2;have lc:((D.drop (i*4)).take 4).length=4:=by simp;omega
 have oD:au ((D.drop (i*4)).take 4)=true:=by rw[<-hD];exact bL _ (bq _ (bL _ (bq _ lo)))
 have px:aP (.ixs 4) [.slice h.next 0 q q,ZZ (i:Int)]=some (.ptr h.next (i*4)):=by rw[gw _ _ _ _ _ _ _ oM oM];simp
 obtain⟨x,y,z,u,ed⟩:∃x y z u,(D.drop (i*4)).take 4=[x,y,z,u]:=by
  generalize(D.drop (i*4)).take 4=cs at lc;match cs,lc with
  |[x,y,z,u],_=>exact⟨x,y,z,u,rfl⟩
 have up:=Me lD c;rw[ed]at a2 oD up;simp only[evs,eff,a1,a2,px];apply ai (v:=.agg [x,y,z,u]) F.wf oo rfl oD up;rintro h2 o2 F2 n2;have af:ab h2 b 0=some v:=(F2.own b _ oO kh.ob).ld1 0;simp(disch:=omega) only[evs,↓reduceIte,Nat.reduceEqDiff,Nat.reduceAdd,DF,Nat.reduceSub,ah,Z,l0,a2];refine rqn ⟨q-(i+1),oM,Sj F F2 F1.wf (fun x m=>.inl m) (fun x m=>.inl m),i+1,iS,iX,iX,iX,iX,iX,iX,oM,o2,rfl⟩;have:i=q:=oM;subst this;have eD:D.take (i*4)++aU Z4 (i-i)=D:=by rw[<-lD,TZ,TN];simp[fH]
 rw[eD]at oo;have kg:Gp K b B n l:=(k.fr F1 iS iS).fr F oO oO;simp only[evs,↓reduceIte,Nat.reduceEqDiff,Z,ae,g0,g1,g2,(oM:¬(i:Int)<i)];apply aa (sG F.wf kg hp);rintro _ h3 ⟨rfl,k3,F3,_⟩;simp only[evs,↓reduceIte,Nat.reduceEqDiff,ac,g0,g3];have n3:=F.next;have o3:=F3.own h.next _ oO oo;have n6:NoI D:=by rw[<-hD,el];exact k0.n6.sub fun x m=>by grind
 refine Uu (mY (p:=t) (q:=i) (xs:=D) F3.wf k3 (fun h' f=>TH (f.own _ _ oO o3) lD) (by rw[<-hD];exact bL _ (bq _ lo)) n6 oM oM) ?_;rintro _ h4 ⟨rfl,B',hB,k4,F4⟩;rw[(oM:n-i+i=n)]at k4;have n4:=F3.next;simp only[evs,↓reduceIte];refine⟨B',hB.imp id (fun z=>by omega),k4,Sj (Sj F0 F3 w iS (fun x m=>.inl m)) F4 w (fun x m=>.inl m) (fun x m=>.inl m),fun _=>k4.good oM⟩
theorem AK{h:Heap}{n:Nat}{x:V}(w:WF h)(a:ASl h 3 x n xs)(z:nZ x=true)(K:n<=100000):ao go 127 [x] h fun u h'=>Gn 3 h' h.next u n xs/\Fr [] h h':=by by_cases c:x=.nils;subst c;have:n=0:=a.2;subst this;have q:aP (.nil 1 false) [.nils,.nils]=some (.bool true):=rfl;refine ag ?_;simp only[evs,seval,q];exact⟨⟨a.1,.inl ⟨rfl,.inl rfl⟩⟩,Sn w⟩;refine ag ?_;simp only[evs,seval,(a.src z).2.2 c];apply gY (bytes:=24) w a z oM oM;intro Z h' g f;simp only[evs,seval];exact⟨g,f⟩
theorem Dl{h:Heap}:ao go 127 [.nils] h fun u h'=>u=.nils/\h=h':=by have q:aP (.nil 1 false) [.nils,.nils]=some (.bool true):=rfl;refine ag ?_;simp only[evs,seval,q]
theorem EZ{h:Heap}{b S c:Nat}{m:Nat->Option Nat}(w:WF h)(k:Km h b S m c)(gS:Good h S):
 ao go 66 [.ptr b 0] h fun u h'=>∃b' S',u=.ptr b' 0/\h.next<=b'/\h.next<=S'/\S'<h'.next/\Km h' b' S' m c/\Fr [] h h'/\Good h' S':=by
 have q:aP (.nil 0 false) [.ptr b 0,.nilp]=some (.bool false):=rfl;obtain⟨o,x⟩|⟨v,sl,t,k,x⟩:=k;have l0:ab h b 0=some .nils:=o.ld1 0;have l1:ab h b 1=some (ZZ 0):=o.ld1 1;have l2:ab h b 2=some (ZZ 0):=o.ld1 2;refine ag ?_;simp only[evs,seval,eff,q,l0];refine aa Dl ?_;rintro _ _ ⟨rfl,rfl⟩;let⟨K,e1,Z,o1⟩:=aq w [.nils,ZZ 0,ZZ 0];have n1:=hnx e1;simp only[evs,seval,DF,eff,l1,l2,l0,<-e1];have k1:Km K h.next h.next m c:=.inl ⟨o1,x⟩;exact⟨h.next,h.next,rfl,RW _,RW _,oM,k1,Z,k1.bmgood⟩;have l0:ab h b 0=some v:=k.ob.ld1 0;have l1:ab h b 1=some (ZZ (c:Int)):=k.ob.ld1 1;have l2:ab h b 2=some (ZZ (t:Int)):=k.ob.ld1 2;have n8:=k.n8;have nb:=k.nb;have z:nZ v=true:=by obtain e|e:=k.tb.1<;>rw[e]<;>rfl
 refine ag ?_;simp only[evs,seval,eff,q,l0];refine aa (AK w (Sl.a k.tb.recs) z oM) ?_;rintro u K ⟨g,Z⟩;obtain⟨_,⟨e,_⟩|⟨S',hS,rfl,oS⟩⟩:=g;omega;have m1:ab K b 1=some (ZZ (c:Int)):=(Z.get k.ob).ld1 1;have m2:ab K b 2=some (ZZ (t:Int)):=(Z.get k.ob).ld1 2;have ls:=oS.lt Z.wf;have n1:=Z.next;let⟨h2,e2,F2,o2⟩:=aq Z.wf [.sliceU S' 0 sl.length 3,ZZ (c:Int),ZZ (t:Int)];have n2:=hnx e2;simp only[evs,seval,DF,eff,l1,l2,l0,m1,m2,<-e2];have ac:=F2.get oS;have k2:Km h2 K.next S' m c:=.inr ⟨_,sl,t,{k with ob:=o2,tb:=⟨.inr rfl,ac⟩},x⟩;let⟨cS,og,g6,gs⟩:=gS;have eS:=og.uniq k.tb.2;subst eS;exact⟨K.next,S',rfl,n1,hS,oM,k2,Z.then F2,⟨_,ac,g6,gs⟩⟩
theorem Sto.wo{h:Heap}{b B S:Nat}{l:List Int}{mc:cC}(s:Sto n0 h b Ks cap X l kn st vK bg B bm S bl pm mc):Oth h (Wr b bg B bm S bl pm):=by have a:=(((((Oth.own s.ob iS (fJ (n:=2) rfl)).app (A:=[b]) s.g.ob.1.oth).app s.gB.oth).app s.k.bmgood.oth).app s.gS.oth).app s.lo.oth;intro x m;apply a x;simp only[Wr,pi,Sk,SH,or_false]at m|-;obtain(m|m|m|m|m|m)|m:=m<;>simp[m]
theorem Gp.spare{h:Heap}{b B D n:Nat}{l:List V}(g:Gp h b B n l)(gD:Good h D)(Z:D≠b):∃B',(B'=D\/B'=B)/\Gp h b B' n l/\Good h B':=by let⟨v,c1,G,c2,a,gg,m,k,x⟩:=g;obtain⟨K,⟨e,z⟩|⟨e,o⟩⟩:=id k.tb;exact⟨D,.inl rfl,⟨v,c1,G,c2,a,gg,m,{k with tb:=⟨K,.inl ⟨e,z⟩⟩,ne:=Z},x⟩,gD⟩;exact⟨B,.inr rfl,⟨v,c1,G,c2,a,gg,m,k,x⟩,⟨_,o,oM,wJ k.n6⟩⟩
theorem yg{D:Nat}{h:Heap}{b B S:Nat}{l:List Int}{mc:cC}(w:WF h)(s:Sto n0 h b Ks cap X l kn st vK bg B bm S bl pm mc)(v1:vK.one=true)(hx:X.length<=1024)
 (gD:Good h D) (hD:D∉Wr b bg B bm S bl pm) (bf:Lx n0 D):
 ao go 22 [.ptr b 0] h fun u h'=>Fr [] h h'/\∃c bg' B' bm' S' bl' pm',u=.ptr c 0/\(∀y∈Wr c bg' B' bm' S' bl' pm',h.next<=y\/y=D)/\h.next<=c/\
  ∀(Z:List Nat)(h2:Heap),(∀z∈Z,z∈Wr b bg B bm S bl pm\/h'.next<=z)->Fr Z h' h2->Sto n0 h2 c Ks cap X l kn st vK bg' B' bm' S' bl' pm' mc:=by
 have b2:ab h b 2=some (.ptr bg 0):=s.ob.ld1 2;refine ag ?_;simp only[evs,seval];refine aa (iA s) ?_;rintro _ _ ⟨rfl,rfl⟩;simp only[evs,seval,b2];apply aa (yQ w s.g);rintro vG h1 ⟨b',a8,tb,F1⟩;let⟨gl,_,go1⟩:=s.g.len;let⟨gv,c1,G,c2,ga,gg,gm,gk,ge,gn⟩:=id s.g;have a1:NoI (X.flatMap Itm.cells):=by rw[ge];exact gk.n6.sub fun x m=>by simp at m|-;obtain m|m:=m<;>simp[m]
 simp only[evs];apply aa (Iv F1.wf tb.sl go1 a1 oM);rintro _ h2 ⟨bg',B1,rfl,hg,hB,g2,F2⟩;have K:=F1.then F2;have s2:=s.fr w K;have b3:ab h2 b 3=some (.ptr bm 0):=s2.ob.ld1 3;have b4:ab h2 b 4=some (.ptr bl 0):=s2.ob.ld1 4;have b0:aj h2 b 0 2=some [vK,ZZ cap]:=by rw[s2.ob.ld];rfl
 simp only[evs,seval,eff,b3,b0];apply aa (EZ F2.wf s2.k s2.gS);rintro _ h3 ⟨bm',S',rfl,hm,hS,lS,k3,F3,ay⟩;have s3:=s2.fr F2.wf F3;have ak:ab h3 b 4=some (.ptr bl 0):=s3.ob.ld1 4;have az:aj h3 b 0 2=some [vK,ZZ cap]:=by rw[s3.ob.ld];rfl
 simp only[evs,seval,eff,ak];apply aa (lT F3.wf s3.lo);rintro _ h4 ⟨bl',pm',rfl,hl,hp,ac,F4⟩;have s4:=s3.fr F3.wf F4;have ar:aj h4 b 0 2=some [vK,ZZ cap]:=by rw[s4.ob.ld];rfl
 let⟨h5,e5,F5,o5⟩:=aq F4.wf [vK,ZZ cap,.ptr bg' 0,.ptr bm' 0,.ptr bl' 0];have n5:=hnx e5;simp only[evs,seval,DF,eff,b3,b4,b0,ak,az,ar,<-e5];have a4:=gD.lt w;have bc:=K.next;have a9:=F1.next;have a3:=F2.next;have a2:=F3.next;have a6:=F4.next;have a7:=g2.ob.1.lt F2.wf;have ba:=k3.lt F3.wf;let⟨pl,bll⟩:=ac.pmlt F4.wf;have a0:=ac.ne;have ae:=F3.then (F4.then F5);have an:=F4.then F5;let⟨B',eB,gz,gBz⟩:=g2.spare (gD.fr K iS) oM;have g5:=gz.fr ae iS iS;have ax:=gBz.fr ae iS;have a5:(B'=D\/h1.next<=B')/\B'<h2.next:=⟨oM,gBz.lt F2.wf⟩;have af:=K.then ae;have s5:=s.fr w af;have wl:=s.wrlt w;refine⟨af,h4.next,bg',B',bm',S',bl',pm',rfl,?_,oM,?_⟩;intro y m;simp only[Wr,pi,Sk,SH,or_false]at m;obtain(m|m|m|m|m|m)|m:=m;omega;omega;omega;omega;omega;omega;grind;intro Z hz hZ f;have nz:∀y,(h.next<=y/\y<h5.next)\/y=D->y∉Z:=by grind
 have xc:=nz h4.next (.inl oM);have xg:=nz bg' (.inl oM);have xm:=nz bm' (.inl oM);have xS:=nz S' (.inl oM);have xl:=nz bl' (.inl oM);have xp:∀q,pm'=some q->q∉Z:=fun q e=>nz q (.inl (by have:=hp q e;have:=pl q e;omega));have xB:B'∉Z:=by grind
 have oZ:Oth h5 Z:=by intro z m c o;obtain q|q:=hZ z m;exact s5.wo z q c o;have:=o.lt F5.wf;omega
 have fz:=f.next;have n0l:=s.n0l;refine⟨f.own _ _ xc o5,g5.fr f xg xB,ax.fr f xB,(k3.fr an).frS f xm xS,(ay.fr an iS).fr f xS,(ac.fr F5).frS f oZ xl xp,s.len,?_,?_,oM,fun q e=>by have:=pl q e;omega,oM,fun z q=>by have:=n0l z q;omega⟩;intro Z2 h6 aH f2;refine s.rd (Z++Z2) h6 (fun z m=>?_) (Sj (Sj af f w iS (fun x m=>.inl (pi.2 (.inl m)))) f2 w (fun x m=>.inl m) (fun x m=>.inl (pi.2 (.inr m))));obtain m|m:=pi.1 m;grind;obtain q|q|q:=aH z m;simp only[Wr,pi,Sk,SH,or_false]at q;obtain(q|q|q|q|q|q)|q:=q;omega;omega;grind;omega;omega;omega;grind;omega;exact .inr (.inr q);refine⟨oM,oM,oM,oM,oM,oM,oM,oM,oM,oM,oM,oM,oM,fun q e=>?_⟩;have:=hp q e;have:=a0 q e;have:=pl q e;omega
theorem Sto.step{h:Heap}{b B S:Nat}{X':List Itm}{l l':List Int}{ac ae:List Bool}{mc K:cC}(w:WF h)(s:Sto n0 h b Ks cap X l kn st vK bg B bm S bl pm mc)
 (f:Fr (Wr b bg B bm S bl pm) h h') (ob:Own h' b [vK,ZZ cap,.ptr bg 0,.ptr bm 0,.ptr bl 0]) (g:Gp h' bg B' X'.length (X'.flatMap Itm.cells)) (gB:Good h' B') (k:Km h' bm S' K.1 K.2) (gS:Good h' S') (lo:LoP h' bl pm l' ac ae)
 (len:l'.length=X'.length) (hB:B'=B\/h.next<=B') (hS:S'=S\/h.next<=S') (sub:∀x∈X',x∈X) (dB:B'≠S'):Sto n0 h' b Ks cap X' l' ac ae vK bg B' bm S' bl pm K:=by
 have d:=s.d;have fn:=f.next;have n0l:=s.n0l;have lb:=s.ob.lt w;have lg:bg<h.next:=s.g.ob.1.lt w;have lm:=s.k.lt w;have ll:=s.bl';have pl:=s.pl;refine⟨ob,g,gB,k,gS,lo,len,?_,?_,gS.lt f.wf,fun q e=>by have:=pl q e;omega,oM,fun z q=>by have:=n0l z q;omega⟩;intro Z h2 hZ f2;have r:=s.rd (Wr b bg B bm S bl pm++Z) h2 (fun z m=>?_) (Sj f f2 w (fun x m=>.inl (pi.2 (.inl m))) (fun x m=>.inl (pi.2 (.inr m))));grind;obtain m|m:=pi.1 m;exact .inl m;obtain q|q|q:=hZ z m;simp only[Wr,pi,Sk,SH,or_false]at q|-;obtain(q|q|q|q|q|q)|q:=q;omega;omega;omega;omega;omega;omega;exact .inl (.inr q);omega;exact .inr (.inr q);have nB:∀y,y<h.next->y≠B->y≠B':=fun y a c=>by obtain rfl|q:=hB<;>omega
 have nS:∀y,y<h.next->y≠S->y≠S':=fun y a c=>by obtain rfl|q:=hS<;>omega
 refine⟨d.b1,nB b lb d.b2,d.b3,nS b lb d.b4,d.b5,d.g1,nS bg lg d.g2,d.g3,(nB bm lm d.t1.symm).symm,dB,(nB bl ll d.t3.symm).symm,d.m1,(nS bl ll d.m2.symm).symm,fun q e=>?_⟩;let⟨y1,y2,y3,y4,y5,y6⟩:=d.p q e;exact⟨y1,y2,nB q (pl q e) y3,y4,nS q (pl q e) y5,y6⟩
def fD(mc:cC):List Itm->cC
 |[]=>mc
 |x::r=>fD (fun y=>if y=x.key then none else mc.1 y,mc.2-1) r
theorem vF:∀(A:List Itm)(mc:cC)(x:Itm),fD mc (A++[x])=(fun y=>if y=x.key then none else(fD mc A).1 y,(fD mc A).2-1)
 |[],_,_=>rfl
 |_::A,_,x=>vF A _ x
theorem lK:∀(A:List Itm)(mc:cC)(k:Nat),(fD mc A).1 k=if k∈A.map Itm.key then none else mc.1 k
 |[],_,_=>by simp[fD]
 |x::A,mc,k=>by simp only[fD];rw[lK A];by_cases c:k∈A.map Itm.key;grind;grind
theorem pR:∀(A:List Itm)(mc:cC),(fD mc A).2<=mc.2
 |[],_=>RW _
 |_::A,_=>SD (pR A _) (Nat.sub_le _ _)
theorem DY{a i:Nat}{x:Itm}(nd:(X.map Itm.key).Nodup)(e:X[a+i]? =some x):x.key∉((X.drop a).take i).map Itm.key:=by
 intro m;let⟨y,ym,hy⟩:=SX.1 m;let⟨j,Z⟩:=Ue.1 ym;rw[Uf]at Z;split at Z;rename_i c;rw[To]at Z;have K:(X.map Itm.key)[a+j]? =some x.key:=by grind
 have a2:(X.map Itm.key)[a+i]? =some x.key:=by grind
 have:=(List.getElem?_inj (Ss.1 K).1 nd).1 (K.trans a2.symm);omega;cases Z
theorem Lz{h:Heap}{S:Nat}{sl:List aX}(K:8<=sl.length)(o:Own h S (sl.flatMap sc)):Good h S:=by
 have Z:=nU sl;refine⟨_,o,?_,?_⟩;omega;intro L p e;cases sl with
 |nil=>simp at K
 |cons s r=>
  cases L with
  |nil=>simp at p
  |cons q L=>rw[SL,SL]at e;simp[sc,sp]at e
theorem CZ{h:Heap}{b S key x:Nat}{m:Nat->Option Nat}{c:Nat}(w:WF h)(k:Km h b S m c)(hk:key<18446744073709551616)(Z:m key=some x):
 ao go 97 [.ptr b 0,ZX (key:Int)] h fun u h'=>u=.bool true/\Km h' b S (fun y=>if y=key then none else m y) (c-1)/\Fr [b,S] h h'/\∃sl:List aX,8<=sl.length/\Own h' S (sl.flatMap sc):=by
 have k0:=k;obtain⟨o,_,h1⟩|⟨v,sl,t,k,fill⟩:=k;grind;have cp:=k.some_c Z;refine ag ?_;simp only[evs,seval];refine aa (Bv k0) ?_;rintro _ _ ⟨rfl,hh⟩;replace hh:=hh.symm;subst hh;simp only[evs,seval,eq_false (oM:¬(c:Int)=0)];refine aa (nL w k.ob k.tb k.op (by have:=k.nb;omega) hk) ?_;rintro _ h2 ⟨at',found,rfl,L,F⟩;cases found;let⟨i,K⟩:=(k.mp key x).1 Z;exact absurd K ((L.no rfl).1 i x);let⟨y,hy⟩:=L.yes rfl;have k2:=k.fr F;have ix:=k2.tb.ix _ L.lt;have ne:=k2.ne;have l0:ab h2 b 0=some v:=k2.ob.ld1 0;simp only[evs,seval,l0,ix];apply ai (c':=(sl.set at' (2,0,0)).flatMap sc) F.wf k2.tb.2 rfl rfl (kB (2,0,0) sl at' L.lt);rintro h3 o3 F3 n3;have ae:Own h3 b [v,ZZ (c:Int),ZZ (t:Int)]:=F3.own b _ (eV ne) k2.ob;have l1:ab h3 b 1=some (ZZ (c:Int)):=ae.ld1 1;have cb:c<=20000/\t<=20000:=by have:=k.sum;have:=k.nb;omega
 simp(disch:=omega) only[evs,seval,ah,l1];apply stu F3.wf ae;rintro h4 o4 F4 n4;have l2:ab h4 b 2=some (ZZ (t:Int)):=o4.ld1 2;simp(disch:=omega) only[evs,seval,ah,l2];apply stu F4.wf o4;rintro h5 o5 F5 n5;simp only[evs,seval];have ac:Tb h5 v S (sl.set at' (2,0,0)):=⟨by rw[Ta];exact k.tb.1,F5.own S _ (by simp;exact fun e=>ne e.symm) (F4.own S _ (by simp;exact fun e=>ne e.symm) o3)⟩;have e1:=gE (c:=1) (x:=(2,0,0)) hy;have e2:=gE (c:=2) (x:=(2,0,0)) hy;simp at e1 e2;refine⟨.inr ⟨v,_,t+1,⟨?_,ac,k.op.drop hy 0 0,by rw[Ta];exact k.n8,by rw[Ta];exact k.nb,by have:=k.c1;omega,by have:=k.c2;omega,?_,jA k.kb ⟨iS,iS⟩⟩,by rw[Ta];omega⟩,?_,_,by rw[Ta];exact k.n8,ac.2⟩;grind;intro k' x';constructor;intro e;by_cases ck:k'=key;simp[ck]at e;rw[if_neg ck]at e;let⟨i,K⟩:=(k.mp k' x').1 e;refine⟨i,?_⟩;rw[Tx];exact K;grind;rintro⟨i,K⟩;obtain⟨_,e,_⟩|⟨ci,K⟩:=fQ _ _ _ _ _ K;cases e;have ck:k'≠key:=by rintro rfl;exact ci (k.op.uniq _ _ _ _ _ K hy)
 rw[if_neg ck];exact(k.mp k' x').2 ⟨i,K⟩;have A:Fr [b,S] h2 h4:=F3.trans F4 F.wf (fun x Z=>.inl (by simp at Z;simp[Z])) (fun x Z=>.inl (by simp at Z;simp[Z]));have B:Fr [b,S] h2 h5:=A.trans F5 F.wf (fun x Z=>.inl Z) (fun x Z=>.inl (by simp at Z;simp[Z]));exact F.trans B w (fun x Z=>by simp at Z) (fun x Z=>.inl Z)
theorem yk{a c:Nat}:(X.flatMap Itm.cells).take (a*4)++(X.flatMap Itm.cells).drop ((a+c) *4)=(aS X a c).flatMap Itm.cells:=by rw[dd aZ,bJ aZ,aS,Tz,Tl]
theorem kY{X:List α}{a c:Nat}(h:a+c<=X.length):(aS X a c).length=X.length-c:=by unfold aS;simp;omega
theorem jY{X:List α}{a c:Nat}{x:α}(m:x∈aS X a c):x∈X:=(gM X a c).subset m
theorem Ae{h:Heap}{b B S:Nat}{a c:Int}{l:List Int}{mc:cC}{k0 t0 v:V}(w:WF h)(s:Sto n0 h b Ks cap X l kn st vK bg B bm S bl pm mc)
 (ha:-9223372036854775808<=a/\a<=9223372036854775807) (hc:-9223372036854775808<=c/\c<=9223372036854775807) (hX:∀x∈X,0<x.key) (nd:(X.map Itm.key).Nodup) (hm:∀x∈X,(mc.1 x.key).isSome=true) (hx:X.length<=1024) (hk:mc.2+1024<=4096)
 (ones:au [k0,ZZ a,ZZ c,t0,v]=true):
 ao go 47 [.ptr b 0,.agg [k0,ZZ a,ZZ c,t0,v]] h fun u h'=>u=ZZ (if bN X.length a c then 4 else 0)/\(bN X.length a c->Fr (bl::pm.toList) h h'/\Sto n0 h' b Ks cap X l kn st vK bg B bm S bl pm mc)/\
  (¬bN X.length a c->Fr (Wr b bg B bm S bl pm) h h'/\∃S',(S'=S\/h.next<=S')/\Sto n0 h' b Ks cap (aS X a.toNat c.toNat) (aS l a.toNat c.toNat) (aS kn a.toNat c.toNat) (aS st a.toNat c.toNat) vK bg B bm S' bl pm
   (dJ (fD mc ((X.drop a.toNat).take c.toNat)) ((aS X a.toNat c.toNat).drop a.toNat) a.toNat)):=by
 have xh:=(s.rd [] h iS (Sn w)).2.2;have sl:=s.len;let⟨h1,e_h1,F_h1,o_h1⟩:=aq w [k0,ZZ a,ZZ c,t0,v];have n1:=hnx e_h1;have s1:=s.fr w F_h1;have l1:ab h1 h.next 1=some (ZZ a):=o_h1.ld1 1;have l2:ab h1 h.next 2=some (ZZ c):=o_h1.ld1 2;have b4:ab h1 b 4=some (.ptr bl 0):=s1.ob.ld1 4;refine ag ?_;simp only[evs,seval,eff,<-e_h1,l1,l2,b4];refine aa (Hy F_h1.wf s1.lo ha.1 ha.2 hc.1 hc.2) ?_;rintro _ h2 ⟨F2,rfl,Z⟩;rw[sl]at Z|-;have wl:=s.wrlt w;have nn:h.next∉bl::pm.toList:=fun m=>by
  have:h.next∈Wr b bg B bm S bl pm:=by obtain q|q:=Sk.1 m;simp[Wr,q];exact pi.2 (.inr q)
  have:=wl _ this;omega
 have af:Fr (bl::pm.toList) h h2:=Sj F_h1 F2 w iS (fun x m=>.inl m);by_cases cc:bN X.length a c;rw[if_pos cc]at Z|-;simp only[evs,seval,DF,eff,l1,l2,b4];exact⟨fun _=>⟨af,s.lay w af Z sl (.inl rfl)⟩,fun n=>absurd cc n⟩;rw[if_neg cc]at Z|-;have cn:=cc;unfold bN at cn;obtain⟨p,rfl⟩:∃p:Nat,a=p:=⟨a.toNat,oM⟩;obtain⟨q,rfl⟩:∃q:Nat,c=q:=⟨c.toNat,oM⟩;simp only[RX]at Z|-;have ar:p+q<=X.length:=oM;have a7:=F2.own _ _ nn o_h1;have ba:ab h2 h.next 2=some (ZZ (q:Int)):=a7.ld1 2;have d:=s.d;have nb:∀y,y≠bl->(∀q,pm=some q->q≠y)->y∉bl::pm.toList:=by grind
 have xb:=nb b d.b5 fun q e=>(d.p q e).1;have xg:=nb bg d.g3 fun q e=>(d.p q e).2.1;have xB:=nb B d.t3 fun q e=>(d.p q e).2.2.1;have xm:=nb bm d.m1 fun q e=>(d.p q e).2.2.2.1;have xS:=nb S d.m2 fun q e=>(d.p q e).2.2.2.2.1;have bf:=F2.own _ _ xb s1.ob;have g2:=s1.g.fr F2 xg xB;have aH:=s1.gB.fr F2 xB;have k2:=s1.k.frS F2 xm xS;have a3:=s1.gS.fr F2 xS;have n2:=af.next;have bB:=s.k.lt w;have lS:=s.Sl';have lg:=s.g.ob.1.lt w;have lB:=s.gB.lt w;have br:=s.ob.lt w;have ll:=s.bl';simp only[evs,seval,DF,eff,l1,l2,b4,ba];refine aC (fun n env hh=>Fr [bm,S] h2 hh/\∃(i:Nat),env.get 24=some (ZZ i)/\env.get 23=some (ZZ q)/\env.get 0=some (.ptr b 0)/\env.get 3=some (.ptr h.next 0)/\
  i<=q/\Km hh bm S (fD mc ((X.drop p).take i)).1 (fD mc ((X.drop p).take i)).2/\Good hh S/\n=q-i) q oM ?_ ?_
 exact⟨Sn F2.wf,0,iS,iS,iS,iS,oM,by simpa[fD]using k2,a3,rfl⟩;rintro n env hh ⟨F,i,an,a4,g0,g3,hi,kh,bk,rfl⟩;have K:=F.own _ _ (by simp;exact⟨d.b3,d.b4⟩) bf;have gh:=g2.fr F (by simp;exact⟨d.g1,d.g2⟩) (by simp;exact⟨d.t1,d.t2⟩);have ae:=F.own h.next _ oO a7;have nF:=F.next;by_cases ci:i<q;simp only[evs,seval,an,a4,(oM:(i:Int)<q)];apply tJ [⟨none,.p .mv [.v 0],none⟩,⟨none,.p .nilck [.l 0],none⟩,⟨none,.p (.faddr 2) [.l 0],none⟩,⟨none,.ld 1 false (.l 0),none⟩,⟨none,.p (.faddr 1) [.v 3],none⟩,⟨none,.ld 1 false (.l 0),none⟩,⟨none,.p .mv [.v 6],none⟩,⟨none,.p (.ib .add) [.l 1,.l 0],none⟩,⟨none,.cf 70 [.l 4,.l 0],none⟩,⟨none,.p .mv [.l 0],none⟩,⟨none,.p (.ext 0) [.l 0],none⟩,⟨none,.p (.ext 1) [.l 1],none⟩] _ rfl;have F6:=SO F.wf [ZX 0,ZY 0,.str [],.nils];have o6:=Ts F.wf [ZX 0,ZY 0,.str [],.nils];generalize halloc hh [ZX 0,ZY 0,.str [],.nils]=h6 at F6 o6|-;obtain⟨x,ex⟩:∃x,X[p+i]? =some x:=⟨_,Sm oM⟩;let⟨v9,c1',G,c2',a9,g9,m9,k9,ec,en⟩:=gh.fr F6 iS iS;have a0:=RZ ex;have xk:=xh x a0;have b2:ab h6 b 2=some (.ptr bg 0):=(F6.get K).ld1 2;have az:=F6.get ae;have a6:ab h6 h.next 1=some (ZZ (p:Int)):=az.ld1 1;have ea:(p:Int)+i=((p+i:Nat):Int):=oM;simp(disch:=omega) only[evs,seval,eff,ah,g0,g3,b2,a6,ea];apply aa (Aw F6.wf k9 (i:=p+i) oM);rintro _ h7 ⟨F7,rfl⟩;rw[<-ec,zC ex];have bp:ab h7 b 2=some (.ptr bg 0):=(F7.get (F6.get K)).ld1 2;have bw:ab h7 h.next 1=some (ZZ (p:Int)):=(F7.get az).ld1 1;simp only[evs,eff,cK,jD];have nH:=F6.next;refine ai (c':=x.cells) F7.wf (F7.get o6) rfl xk.one rfl ?_;rintro h8 o8 F8 bt;have ac:Fr [] hh h8:=(F6.then F7).fresh F8 F.wf (RW _);have x0:ab h8 hh.next 0=some (ZX (x.key:Int)):=o8.ld1 0;have b3:ab h8 b 3=some (.ptr bm 0):=(ac.get K).ld1 3;simp only[evs,seval,DF,eff,g0,b2,a6,x0,b3];have k8:=kh.frS ac iS iS;have ek:(fD mc ((X.drop p).take i)).1 x.key=mc.1 x.key:=by rw[lK,if_neg (DY nd ex)]
 let⟨j,hj⟩:=UD.1 (hm x a0);apply aa (CZ ac.wf k8 xk.k (ek.trans hj));rintro _ h9 ⟨rfl,a8,F9,s9,l9,o9⟩;have bv:ab h9 b 3=some (.ptr bm 0):=(F9.own _ _ (by simp;exact⟨d.b3,d.b4⟩) (ac.get K)).ld1 3;have bC:ab h9 hh.next 0=some (ZX (x.key:Int)):=(F9.own _ _ oO o8).ld1 0;have et:(X.drop p).take (i+1)=(X.drop p).take i++[x]:=by rw[Sr,To,ex];rfl
 have ks:Km h9 bm S (fD mc ((X.drop p).take (i+1))).1 (fD mc ((X.drop p).take (i+1))).2:=by rw[et,vF];exact a8
 simp(disch:=omega) only[evs,seval,DF,ah,an,b3,x0];refine rqn ⟨q-(i+1),oM,Sj (Sj F ac F2.wf (fun x m=>.inl m) iS) F9 F2.wf (fun x m=>.inl m) (fun x m=>.inl m),i+1,iS,iX,iX,iX,oM,ks,Lz l9 o9,rfl⟩;have:i=q:=oM;subst this;have b2:ab hh b 2=some (.ptr bg 0):=K.ld1 2;have ay:ab hh h.next 1=some (ZZ (p:Int)):=ae.ld1 1;have a5:ab hh h.next 2=some (ZZ (i:Int)):=ae.ld1 2;simp only[evs,seval,eff,an,a4,g0,g3,(oM:¬(i:Int)<i),b2,ay,a5];apply aa (sG F.wf gh ar);rintro _ h3 ⟨rfl,ak,F3,bi⟩;rw[yk,<-kY ar]at ak;have ax:=F3.own _ _ (by simp;exact⟨d.b1,d.b2⟩) K;have a1:=F3.own h.next _ oO ae;have bA:ab h3 b 2=some (.ptr bg 0):=ax.ld1 2;have bn:ab h3 h.next 1=some (ZZ (p:Int)):=a1.ld1 1;have bz:ab h3 h.next 2=some (ZZ (i:Int)):=a1.ld1 2;have k3:=kh.frS F3 (by simp;exact⟨d.g1.symm,d.t1.symm⟩) (by simp;exact⟨d.g2.symm,d.t2.symm⟩);have a2:=bk.fr F3 (by simp;exact⟨d.g2.symm,d.t2.symm⟩);simp only[evs,seval,DF,eff,g0,g3,bn,b2,ay,a5];have rl:=kY ar;have dc:=pR ((X.drop p).take i) mc;have n3:=F3.next;apply aa (wY F3.wf ax ak k3 (fun x m=>⟨hX x (jY m),(xh x (jY m)).k⟩) oM oM d.b3 d.b4 d.g1 d.g2 d.t1 d.t2 oM a2);rintro _ h4 ⟨rfl,S',hS,k4,F4,bh⟩;simp only[evs,seval];have n4:=F4.next;have FW:Fr (Wr b bg B bm S bl pm) h h4:=by
  refine Sj (Sj (Sj af F w (fun x m=>.inl ?_) (fun x m=>.inl ?_)) F3 w (fun x m=>.inl m) (fun x m=>.inl ?_)) F4 w (fun x m=>.inl m) (fun x m=>.inl ?_);obtain m|m:=Sk.1 m;simp[Wr,m];exact pi.2 (.inr m);all_goals
   simp at m;obtain m|m:=m<;>simp[Wr,m]
 have bc:Oth hh [bg,B]:=(gh.ob.1.oth).app (A:=[bg]) ((aH.fr F (by simp;exact⟨d.t1,d.t2⟩)).oth);have bj:=((Z.frS F (k2.bmgood.oth.app (A:=[bm]) a3.oth) (by simp;exact⟨d.m1.symm,d.m2.symm⟩) (fun z e=>by simp;exact⟨(d.p z e).2.2.2.1,(d.p z e).2.2.2.2.1⟩)).frS F3 bc (by simp;exact⟨d.g3.symm,d.t3.symm⟩) (fun z e=>by simp;exact⟨(d.p z e).2.1,(d.p z e).2.2.1⟩)).frS F4 (k3.bmgood.oth.app (A:=[bm]) a2.oth) (by simp;exact⟨d.m1.symm,d.m2.symm⟩) (fun z e=>by simp;exact⟨(d.p z e).2.2.2.1,(d.p z e).2.2.2.2.1⟩);have bo:=ak.fr F4 (by simp;exact⟨d.g1,d.g2⟩) (by simp;exact⟨d.t1,d.t2⟩);refine⟨fun n=>absurd n cc,fun _=>⟨FW,S',hS.imp id (fun z=>by omega),s.step w FW (F4.own _ _ (by simp;exact⟨d.b3,d.b4⟩) ax) bo ((bi (aH.fr F (by simp;exact⟨d.t1,d.t2⟩))).fr F4 (by simp;exact⟨d.t1,d.t2⟩)) k4 bh bj (by rw[kY oM,rl,sl]) (.inl rfl) (hS.imp id fun z=>by omega) (fun x m=>jY m) ?_⟩⟩;obtain rfl|z:=hS;exact d.t2;omega
theorem EM{a c t:Nat}:((X.flatMap Itm.cells).take (a*4)++(X.flatMap Itm.cells).drop ((a+c) *4)).take (t*4)++((X.flatMap Itm.cells).drop (a*4)).take (c*4)++((X.flatMap Itm.cells).take (a*4)++(X.flatMap Itm.cells).drop ((a+c) *4)).drop (t*4)=(cx X a c t).flatMap Itm.cells:=by rw[yk,dd aZ,bJ aZ,bJ aZ,dd aZ,cx,Tz,Tz]
theorem dD(X:List α)(a c t:Nat):(cx X a c t).Perm X:=by
 have h:=uF X a c;refine List.Perm.trans ?_ h;unfold cx;have e:aS X a c++(X.drop a).take c=((aS X a c).take t++(aS X a c).drop t)++(X.drop a).take c:=by rw[SB]
 rw[e,SM,SM];exact Vz _ UW
theorem Ec{h:Heap}{b B S:Nat}{a c t:Int}{l:List Int}{mc:cC}{k0 v:V}(w:WF h)(s:Sto n0 h b Ks cap X l kn st vK bg B bm S bl pm mc)
 (ha:-9223372036854775808<=a/\a<=9223372036854775807) (hc:-9223372036854775808<=c/\c<=9223372036854775807) (ht:-9223372036854775808<=t/\t<=9223372036854775807) (hX:∀x∈X,0<x.key) (hx:X.length<=1024) (hk:mc.2+1024<=4096)
 (ones:au [k0,ZZ a,ZZ c,ZZ t,v]=true):
 ao go 48 [.ptr b 0,.agg [k0,ZZ a,ZZ c,ZZ t,v]] h fun u h'=>u=ZZ (if c7 X.length a c t then 4 else 0)/\(c7 X.length a c t->Fr (bl::pm.toList) h h'/\Sto n0 h' b Ks cap X l kn st vK bg B bm S bl pm mc)/\
  (¬c7 X.length a c t->Fr (Wr b bg B bm S bl pm) h h'/\∃B' S',(B'=B\/h.next<=B')/\(S'=S\/h.next<=S')/\Sto n0 h' b Ks cap (cx X a.toNat c.toNat t.toNat) (cx l a.toNat c.toNat t.toNat) (cx kn a.toNat c.toNat t.toNat) (cx st a.toNat c.toNat t.toNat) vK bg B' bm S' bl pm
   (dJ mc ((cx X a.toNat c.toNat t.toNat).drop (min a.toNat t.toNat)) (min a.toNat t.toNat))):=by
 have xh:=(s.rd [] h iS (Sn w)).2.2;have sl:=s.len;let⟨h1,e_h1,F_h1,o_h1⟩:=aq w [k0,ZZ a,ZZ c,ZZ t,v];have n1:=hnx e_h1;have s1:=s.fr w F_h1;have l1:ab h1 h.next 1=some (ZZ a):=o_h1.ld1 1;have l2:ab h1 h.next 2=some (ZZ c):=o_h1.ld1 2;have l3:ab h1 h.next 3=some (ZZ t):=o_h1.ld1 3;have b4:ab h1 b 4=some (.ptr bl 0):=s1.ob.ld1 4;refine ag ?_;simp only[evs,seval,eff,<-e_h1,l1,l2,l3,b4];refine aa (Hz F_h1.wf s1.lo ha.1 ha.2 hc.1 hc.2 ht.1 ht.2) ?_;rintro _ h2 ⟨F2,rfl,Z⟩;rw[sl]at Z|-;have wl:=s.wrlt w;have nn:h.next∉bl::pm.toList:=fun m=>by
  have:h.next∈Wr b bg B bm S bl pm:=by obtain q|q:=Sk.1 m;simp[Wr,q];exact pi.2 (.inr q)
  have:=wl _ this;omega
 have ae:Fr (bl::pm.toList) h h2:=Sj F_h1 F2 w iS (fun x m=>.inl m);by_cases cc:c7 X.length a c t;rw[if_pos cc]at Z|-;simp only[evs,seval,DF,eff,l1,l2,l3,b4];exact⟨fun _=>⟨ae,s.lay w ae Z sl (.inl rfl)⟩,fun n=>absurd cc n⟩;rw[if_neg cc]at Z|-;have cn:=cc;unfold c7 bN at cn;obtain⟨p,rfl⟩:∃p:Nat,a=p:=⟨a.toNat,oM⟩;obtain⟨q,rfl⟩:∃q:Nat,c=q:=⟨c.toNat,oM⟩;obtain⟨r,rfl⟩:∃r:Nat,t=r:=⟨t.toNat,oM⟩;simp only[RX]at Z|-;have af:=F2.own _ _ nn o_h1;have ax:ab h2 h.next 1=some (ZZ (p:Int)):=af.ld1 1;have ay:ab h2 h.next 2=some (ZZ (q:Int)):=af.ld1 2;have a1:ab h2 h.next 3=some (ZZ (r:Int)):=af.ld1 3;have d:=s.d;have nb:∀y,y≠bl->(∀q,pm=some q->q≠y)->y∉bl::pm.toList:=by grind
 have xb:=nb b d.b5 fun q e=>(d.p q e).1;have xg:=nb bg d.g3 fun q e=>(d.p q e).2.1;have xB:=nb B d.t3 fun q e=>(d.p q e).2.2.1;have xm:=nb bm d.m1 fun q e=>(d.p q e).2.2.2.1;have xS:=nb S d.m2 fun q e=>(d.p q e).2.2.2.2.1;have a0:=F2.own _ _ xb s1.ob;have g2:=s1.g.fr F2 xg xB;have ar:=s1.gB.fr F2 xB;have k2:=s1.k.frS F2 xm xS;have a6:=s1.gS.fr F2 xS;have n2:=ae.next;have aH:=s.k.lt w;have lS:=s.Sl';have lg:=s.g.ob.1.lt w;have lB:=s.gB.lt w;have a8:=s.ob.lt w;have ll:=s.bl';have b2:ab h2 b 2=some (.ptr bg 0):=a0.ld1 2;simp only[evs,seval,DF,eff,l1,l2,l3,b4,ax,ay,a1,b2];apply aa (Fp F2.wf g2 (p:=p) (q:=q) (t:=r) oM oM);rintro _ h3 ⟨rfl,B',hB,g3,F3,K⟩;rw[EM]at g3;have pl:=(dD X p q r).length_eq;rw[<-pl]at g3;have K:=K ar;have an:=F3.own _ _ (by simp;exact⟨d.b1,d.b2⟩) a0;have ak:=F3.own h.next _ oO af;have a3:ab h3 h.next 1=some (ZZ (p:Int)):=ak.ld1 1;have ba:ab h3 h.next 2=some (ZZ (q:Int)):=ak.ld1 2;have a4:ab h3 h.next 3=some (ZZ (r:Int)):=ak.ld1 3;have a7:ab h3 b 2=some (.ptr bg 0):=an.ld1 2;have k3:=k2.frS F3 (by simp;exact⟨d.g1.symm,d.t1.symm⟩) (by simp;exact⟨d.g2.symm,d.t2.symm⟩);have az:=a6.fr F3 (by simp;exact⟨d.g2.symm,d.t2.symm⟩);have n3:=F3.next;have ac:∀x,x<h.next->x≠B->B'≠x:=fun x a c=>by omega
 have me:min (p:Int) (r:Int)=((min p r:Nat):Int):=oM;simp only[evs,seval,DF,eff,a3,a4,ax,ay,a1,b2,me];have pX:∀x∈cx X p q r,x∈X:=fun x m=>(dD X p q r).subset m;apply aa (wY F3.wf an g3 k3 (fun x m=>⟨hX x (pX x m),(xh x (pX x m)).k⟩) oM oM d.b3 d.b4 d.g1 d.g2 (ac bm aH d.t1.symm) (ac S lS d.t2.symm) (K.lt F3.wf) az);rintro _ h4 ⟨rfl,S',hS,k4,F4,a5⟩;simp only[evs,seval];have n4:=F4.next;have a9:=K.lt F3.wf;have FW:Fr (Wr b bg B bm S bl pm) h h4:=by
  refine Sj (Sj ae F3 w (fun x m=>.inl ?_) (fun x m=>.inl ?_)) F4 w (fun x m=>.inl m) (fun x m=>.inl ?_);obtain m|m:=Sk.1 m;simp[Wr,m];exact pi.2 (.inr m);all_goals
   simp at m;obtain m|m:=m<;>simp[Wr,m]
 have a2:=(Z.frS F3 ((g2.ob.1.oth).app (A:=[bg]) ar.oth) (by simp;exact⟨d.g3.symm,d.t3.symm⟩) (fun z e=>by simp;exact⟨(d.p z e).2.1,(d.p z e).2.2.1⟩)).frS F4 (k3.bmgood.oth.app (A:=[bm]) az.oth) (by simp;exact⟨d.m1.symm,d.m2.symm⟩) (fun z e=>by simp;exact⟨(d.p z e).2.2.2.1,(d.p z e).2.2.2.2.1⟩);have nB:B'∉[bm,S]:=by simp;exact⟨ac bm aH d.t1.symm,ac S lS d.t2.symm⟩
 refine⟨fun n=>absurd n cc,fun _=>⟨FW,B',S',hB.imp id (fun z=>by omega),hS.imp id (fun z=>by omega),s.step w FW (F4.own _ _ (by simp;exact⟨d.b3,d.b4⟩) an) (g3.fr F4 (by simp;exact⟨d.g1,d.g2⟩) nB) (K.fr F4 nB) k4 a5 a2 (by rw[pl,(dD l p q r).length_eq,sl]) (hB.imp id fun z=>by omega) (hS.imp id fun z=>by omega) pX ?_⟩⟩;obtain rfl|z:=hS;grind;omega
def In40(l:List Int):Prop:=∀x∈l,1<=x/\x<=40
theorem In40.app{a b:List Int}(h:In40 a)(g:In40 b):In40 (a++b):=fun x m=>(pi.1 m).elim (h x) (g x)
theorem In40.take{a:List Int}(h:In40 a)(n:Nat):In40 (a.take n):=fun x m=>h x (Tw m)
theorem In40.drop{a:List Int}(h:In40 a)(n:Nat):In40 (a.drop n):=fun x m=>h x (Tc m)
theorem CA{l:List Int}{i:Nat}{s:Int}(h:In40 l)(hl:l.length<=1000)(K:1<=s/\s<=40)(Z:i<l.length):eU l i s=0:=by
 have sl:=jT h;have:0<=l.getD i 0:=by rw[Tf,Sm Z];have:=h _ (List.getElem_mem Z);simp only[Vc];omega
 unfold eU;rw[if_pos ⟨oM,oM⟩,if_neg oM,RX,if_neg oM]
theorem qL{old:List Int}{r:Bool}:∀(m:List Int)(i:Nat)(l:List Int)(kn:List Bool),In40 l→In40 m→l.length≤1000→i+m.length≤l.length→kn.length=l.length→
 ∃l' kn',chP old r i m l kn=(0,l',kn')∧In40 l'∧l'.length=l.length∧kn'.length=l.length∧∀j:Nat,(l'[j]? =if i≤j∧j<i+m.length∧decide (old.getD j 0<m.getD (j-i) 0)=r then some (m.getD (j-i) 0)else l[j]?)∧
  (kn'[j]? =if i≤j∧j<i+m.length∧decide (old.getD j 0<m.getD (j-i) 0)=r then some false else kn[j]?)
 |[],i,l,kn,h,_,_,_,hk=>⟨l,kn,rfl,h,rfl,hk,fun j=>by rw[if_neg oO,if_neg oO];exact⟨rfl,rfl⟩⟩
 |s::m,i,l,kn,h,hm,hl,hi,hk=>by
  have hs:=hm s iS;have hm':In40 m:=fun x q=>hm x iX;rw[List.length_cons]at hi;have nx:∀j,i<j→(s::m).getD (j-i) 0=m.getD (j-(i+1)) 0:=by intro j hj;rw[(oM:j-i=(j-(i+1))+1),List.getD_cons_succ]
  have x1:∀j,j<i+1→¬(i+1≤j∧j<i+1+m.length∧decide (old.getD j 0<m.getD (j-(i+1)) 0)=r):=fun j hj q=>by omega
  have x2:∀j,j<i→¬(i≤j∧j<i+(s::m).length∧decide (old.getD j 0<(s::m).getD (j-i) 0)=r):=fun j hj q=>by omega
  have iff:∀j,i<j→((i+1≤j∧j<i+1+m.length∧decide (old.getD j 0<m.getD (j-(i+1)) 0)=r)↔(i≤j∧j<i+(s::m).length∧decide (old.getD j 0<(s::m).getD (j-i) 0)=r)):=by intro j hj;rw[nx j hj,List.length_cons];exact⟨fun q=>⟨oM,oM,q.2.2⟩,fun q=>⟨oM,oM,q.2.2⟩⟩
  by_cases c:decide (old.getD i 0<s)=r;have hset:In40 (l.set i s):=fun x q=>by obtain q|rfl:=List.mem_or_eq_of_mem_set q;exact h x q;exact hs
  obtain⟨l',kn',e,g,n1,n2,f⟩:=qL m (i+1) (l.set i s) (kn.set i false) hset hm' (eV hl) oO (eV hk);simp only[List.length_set]at n1 n2;refine⟨l',kn',?_,g,n1,n2,fun j=>?_⟩;simp only[chP];rw[if_pos c,if_pos (CA h hl hs oM)];exact e;let⟨f1,f2⟩:=f j;rw[f1,f2];obtain lt|rfl|gt:=Nat.lt_trichotomy j i;rw[if_neg (x1 j oM),if_neg (x1 j oM),if_neg (x2 j lt),if_neg (x2 j lt),List.getElem?_set_ne oM,List.getElem?_set_ne oM];exact⟨rfl,rfl⟩;have p2:j≤j∧j<j+(s::m).length∧decide (old.getD j 0<(s::m).getD (j-j) 0)=r:=⟨Nat.le_refl _,iS,by rw[Nat.sub_self];exact c⟩;rw[if_neg (x1 j oM),if_neg (x1 j oM),if_pos p2,if_pos p2,List.getElem?_set_self oM,List.getElem?_set_self oM,Nat.sub_self];exact⟨rfl,rfl⟩;by_cases d:i+1≤j∧j<i+1+m.length∧decide (old.getD j 0<m.getD (j-(i+1)) 0)=r;rw[if_pos d,if_pos d,if_pos ((iff j gt).1 d),if_pos ((iff j gt).1 d),nx j gt];exact⟨rfl,rfl⟩;rw[if_neg d,if_neg d,if_neg (fun q=>d ((iff j gt).2 q)),if_neg (fun q=>d ((iff j gt).2 q)),List.getElem?_set_ne oM,List.getElem?_set_ne oM];exact⟨rfl,rfl⟩;obtain⟨l',kn',e,g,n1,n2,f⟩:=qL m (i+1) l kn h hm' hl oM hk;refine⟨l',kn',?_,g,n1,n2,fun j=>?_⟩;simp only[chP];rw[if_neg c];exact e;let⟨f1,f2⟩:=f j;rw[f1,f2];obtain lt|rfl|gt:=Nat.lt_trichotomy j i;rw[if_neg (x1 j oM),if_neg (x1 j oM),if_neg (x2 j lt),if_neg (x2 j lt)];exact⟨rfl,rfl⟩;have p2:¬(j≤j∧j<j+(s::m).length∧decide (old.getD j 0<(s::m).getD (j-j) 0)=r):=fun q=>c (by have:=q.2.2;rw[Nat.sub_self]at this;exact this);rw[if_neg (x1 j oM),if_neg (x1 j oM),if_neg p2,if_neg p2];exact⟨rfl,rfl⟩;by_cases d:i+1≤j∧j<i+1+m.length∧decide (old.getD j 0<m.getD (j-(i+1)) 0)=r;rw[if_pos d,if_pos d,if_pos ((iff j gt).1 d),if_pos ((iff j gt).1 d),nx j gt];exact⟨rfl,rfl⟩;rw[if_neg d,if_neg d,if_neg (fun q=>d ((iff j gt).2 q)),if_neg (fun q=>d ((iff j gt).2 q))];exact⟨rfl,rfl⟩
theorem wB{l M:List α}{a:Nat}(ha:a+M.length<=l.length)(j:Nat):(l.take a++M++l.drop (a+M.length))[j]? =if a<=j/\j<a+M.length then M[j-a]? else l[j]? :=by by_cases c1:j<a;grind;grind
theorem IM{old M l:List Int}{a:Nat}(h:In40 l)(Z:In40 M)(hl:l.length<=1000)(ha:a+M.length<=l.length)(hk:kn.length=l.length):
 chR old a M 2 l kn=(0,l.take a++M++l.drop (a+M.length),kn.take a++List.replicate M.length false++kn.drop (a+M.length)):=by
 let⟨l1,k1,e1,g1,n1,m1,f1⟩:=qL (old:=old) (r:=false) M a l kn h Z hl ha hk;let⟨l2,k2,e2,g2,n2,m2,f2⟩:=qL (old:=old) (r:=true) M a l1 k1 g1 Z oM oM oM;have e:chR old a M 2 l kn=(0,l2,k2):=by have z1:((1:Nat)==0)=false:=rfl;have z0:((0:Nat)==0)=true:=rfl;simp only[chR,z1,z0,e1,e2,if_pos]
 rw[e];have gm:∀j,j-a<M.length->M[j-a]? =some (M.getD (j-a) 0):=fun j hj=>by rw[Tf,Sm hj];rfl
 congr 1;congr 1;refine Vx fun j=>?_;rw[(f2 j).1,(f1 j).1,wB ha];by_cases c:a<=j/\j<a+M.length;grind;grind;refine Vx fun j=>?_;have K:(List.replicate M.length false).length=M.length:=by simp
 have sg:=wB (l:=kn) (M:=List.replicate M.length false) (a:=a) (by rw[K];omega) j;rw[K]at sg;rw[(f2 j).2,(f1 j).2,sg];by_cases c:a<=j/\j<a+M.length;grind;grind
theorem HF{l M:List Int}{a:Nat}(h:In40 l)(Z:In40 M)(ha:a<=l.length)(K:l.length+M.length<=1000):bZ l a M=0:=by have s1:=jT h;have s2:=jT Z;unfold bZ;rw[if_pos ⟨oM,oM⟩,if_neg oM,if_pos (pA Z oM),if_neg oM]
def IxL(m:Nat->Option Nat)(L:List Nat):Prop:=∀k j:Nat,m k=some j↔L[j]? =some k
theorem kj{m:Nat->Option Nat}:IxOf m E↔IxL m (E.map fun e=>e.x.key):=by
 unfold IxOf IxL;refine forall_congr' fun k=>forall_congr' fun j=>?_;rw[SY];cases E[j]? with
 |none=>simp
 |some e=>simp
theorem HT(X:List Itm)(mc:cC)(i:Nat)(Z:(X.map Itm.key).Nodup)(k j:Nat):(dJ mc X i).1 k=some j↔(∃n,(X.map Itm.key)[n]? =some k/\j=i+n)\/(k∉X.map Itm.key/\mc.1 k=some j):=by
 rw[rO X mc i Z];refine or_congr ?_ (and_congr_left' ?_);refine exists_congr fun n=>?_;rw[SY];cases X[n]? with
 |none=>simp
 |some x=>simp
 grind
theorem qH{mc ae:cC}{X':List Itm}{L:List Nat}{a:Nat}{D:List Nat}(ix:IxL mc.1 L)(nd:L.Nodup)(Z:(X'.map Itm.key).Nodup)(tk:(X'.map Itm.key).take a=L.take a)(mD:∀k,ae.1 k=if k∈D then none else mc.1 k)
 (hD:∀k∈D,k∈L.drop a) (hd:∀k∈L.drop a,k∈D\/k∈(X'.map Itm.key).drop a):IxL (dJ ae (X'.drop a) a).1 (X'.map Itm.key):=by
 intro k j;rw[HT _ _ _ (by rw[<-Tp]at *;exact Z.sublist (List.Sublist.map _ (Uc _ _))),Tp,mD];generalize X'.map Itm.key=L' at Z tk hd|-;have ac:∀{L:List Nat},L.Nodup->∀{j k:Nat},L[j]? =some k->j<a->k∉L.drop a:=by intro L nd j k e K m;let⟨n,hn⟩:=Ue.1 m;rw[To]at hn;have:=(List.getElem?_inj (Ss.1 e).1 nd).1 (e.trans hn.symm);omega
 have pre:∀j,j<a->L'[j]? =L[j]? :=by intro j K;have:=congrArg (fun l=>l[j]?) tk;simpa only[Uf,if_pos K]using this
 constructor;rintro(⟨n,e,rfl⟩|⟨h1,h2⟩);grind;split at h2;cases h2;rename_i kD;have e:=(ix k j).1 h2;by_cases K:j<a;grind;exfalso;have:k∈L.drop a:=Ue.2 ⟨j-a,by rw[To,(oM:a+(j-a)=j)];exact e⟩;obtain q|q:=hd k this;exact kD q;exact h1 q;intro e;by_cases K:j<a;refine .inr ⟨ac Z e K,?_⟩;rw[pre j K]at e;rw[if_neg (fun q=>ac nd e K (hD k q))];exact(ix k j).2 e;exact .inl ⟨j-a,by rw[To,(oM:a+(j-a)=j)];exact e,oM⟩
theorem pI:∀(X:List Itm)(mc:cC)(i:Nat),(dJ mc X i).2≤mc.2+(X.filter fun x=>(mc.1 x.key).isNone).length
 |[],_,_=>by simp[dJ]
 |x::r,mc,i=>by
  have ih:=pI r (lY mc x.key i) (i+1);simp only[dJ];have mono:(r.filter fun y=>((lY mc x.key i).1 y.key).isNone).length≤(r.filter fun y=>(mc.1 y.key).isNone).length:=by rw[←List.countP_eq_length_filter,←List.countP_eq_length_filter];refine List.countP_mono_left fun y _ hy=>?_;simp only[lY,j7]at hy;split at hy;cases hy;exact hy
  rw[List.filter_cons];cases e:mc.1 x.key with
  |none=>simp only[lY,e]at ih⊢;simp only[lY]at mono;simp at ih⊢;omega
  |some j=>simp only[lY,e]at ih⊢;simp only[lY]at mono;simp at ih⊢;omega
structure Ntc where
 k:Nat
 a:Int
 c:Int
 t:Int
 Y:List Itm
def aM(Ks:List Knd)(Y:List Itm):List Ent:=Y.map fun y=>⟨y,aF Ks y,false⟩
def aQ(E:List Ent):List Nat:=E.map fun e=>e.x.key
def tY(E:List Ent)(k:Nat):Bool:=decide (k∈aQ E)
def mW(Ks:List Knd)(a:Int)(E:List Ent)(Y:List Itm):Int:=if a<0\/(E.length:Int)<a then 4 else dQ Ks 12 (tY E) [] Y
def cgE(Ks:List Knd)(a:Int)(E:List Ent)(Y:List Itm):Int:=if a<0\/(E.length:Int)<a\/(E.length:Int)-a<Y.length then 4 else bP Ks 12 (E.map Ent.x) a.toNat Y
def kdE(Ks:List Knd)(n:Ntc)(E:List Ent):Int:=match n.k with
 |1=>mW Ks n.a E n.Y
 |2=>if bN E.length n.a n.c then 4 else 0
 |3=>if c7 E.length n.a n.c n.t then 4 else 0
 |4=>cgE Ks n.a E n.Y
 |_=>dQ Ks 12 (fun _=>false) [] n.Y
def kdL(Ks:List Knd)(n:Ntc)(E:List Ent):List Ent:=match n.k with
 |1=>E.take n.a.toNat++aM Ks n.Y++E.drop n.a.toNat
 |2=>aS E n.a.toNat n.c.toNat
 |3=>cx E n.a.toNat n.c.toNat n.t.toNat
 |4=>E.take n.a.toNat++aM Ks n.Y++E.drop (n.a.toNat+n.Y.length)
 |_=>aM Ks n.Y
def apX(Ks:List Knd)(n:Ntc)(E:List Ent):Int:=if dq n.k n.a n.c n.t n.Y.length≠0 then dq n.k n.a n.c n.t n.Y.length else kdE Ks n E
def apL(Ks:List Knd)(n:Ntc)(E:List Ent):List Ent:=if apX Ks n E=0 then kdL Ks n E else E
def RK(Ks:List Knd):Prop:=okR Ks 12=true/\Ks.length=3/\GK Ks
structure LV(Ks:List Knd)(E:List Ent):Prop where
 o:∀e∈E,okI e.x 3=true/\bO Ks 12 e.x=0
 b:∀e∈E,e.kn=false->e.b=aF Ks e.x
 c:∀e∈E,e.kn=true->1<=e.b/\e.b<=40
 n:(aQ E).Nodup
theorem RK.base(r:RK Ks){x:Itm}(o:okI x 3=true):1<=aF Ks x/\aF Ks x<=40:=by simp only[okI,RU,decide_eq_true_eq]at o;have p:Ks[x.type]? =some (Ks[x.type]'(by rw[r.2.1];exact o.2.1)):=Sm _;generalize Ks[x.type]'(by rw[r.2.1];exact o.2.1)=q at p;have g:=(r.2.2 q (RZ p)).2.2;rw[aF,p];exact g
theorem LOk.lv{h:Heap}(a:LOk Ks h E):LV Ks E:=⟨fun e m=>⟨(a.h e m).2.2.1,(a.h e m).2.2.2⟩,a.b,a.c,a.n⟩
theorem LV.lok{h:Heap}(a:LV Ks E)(r:RK Ks)(H:∀e∈E,ItmH h e.x)(l:E.length<=1000):LOk Ks h E:=⟨fun e m=>⟨H e m,rfl,a.o e m⟩,a.b,a.c,a.n,l,r⟩
theorem LV.in40(a:LV Ks E)(r:RK Ks):In40 (E.map Ent.b):=by intro x m;obtain⟨e,Z,rfl⟩:=SX.1 m;cases K:e.kn;rw[a.b e Z K];exact r.base (a.o e Z).1;exact a.c e Z K
theorem w8{Y:List Itm}:(aM Ks Y).map Ent.b=Y.map (aF Ks):=by simp[aM]
theorem w4{Y:List Itm}:(aM Ks Y).map Ent.kn=List.replicate Y.length false:=by rw[aM,Te];exact List.map_eq_replicate_iff.2 fun _ _=>rfl
theorem wZ{Y:List Itm}:((aM Ks Y).map fun e=>e.x.val)=Y.map Itm.val:=by simp[aM]
theorem qI{Y:List Itm}:aQ (aM Ks Y)=Y.map Itm.key:=by simp[aM,aQ]
theorem fR{Y:List Itm}:(aM Ks Y).length=Y.length:=by simp[aM]
theorem gP{Ks:List Knd}{cap:Int}{p:Nat→Bool}:∀{Y:List Itm}{seen:List Nat},dQ Ks cap p seen Y=0→(∀y∈Y,okI y Ks.length=true∧bO Ks cap y=0∧p y.key=false∧y.key∉seen)∧(Y.map Itm.key).Nodup
 |[],_,_=>by simp
 |y::Y,seen,h=>by
  simp only[dQ]at h;split at h;cases h;rename_i h1;split at h;cases h;rename_i h2;split at h;omega;rename_i h3;let⟨a,b⟩:=gP h;have h2':y.key∉seen∧p y.key=false:=⟨fun m=>h2 (.inl m),by cases e:p y.key;rfl;exact absurd (.inr e) h2⟩;have h3':bO Ks cap y=0:=Classical.byContradiction h3;have h1':okI y Ks.length=true:=by grind
  refine⟨fun z m=>?_,?_⟩;grind;grind
theorem pO{K:List Knd}(h:bU Ks K){cap:Int}{p q:Nat->Bool}(hp:∀k,p k=q k):∀(Y:List Itm)(seen:List Nat),dQ K cap p seen Y=dQ Ks cap q seen Y
 |[],_=>rfl
 |y::Y,seen=>by simp only[dQ,<-dS h,pF h,hp,pO h hp Y]
theorem vO{Ks K:List Knd}(h:bU Ks K){cap:Int}{X X':List Itm}(e:X.map Itm.key=X'.map Itm.key):∀(Y:List Itm)(i:Nat),bP K cap X i Y=bP Ks cap X' i Y
 |[],_=>rfl
 |y::Y,i=>by
  have:X[i]?.map Itm.key=X'[i]?.map Itm.key:=by rw[←List.getElem?_map,←List.getElem?_map,e]
  simp only[bP,←dS h,pF h,this,vO h e Y]
theorem oG{Ks:List Knd}{cap:Int}{X:List Itm}:∀{Y:List Itm}{i:Nat},bP Ks cap X i Y=0→(∀y∈Y,okI y Ks.length=true∧bO Ks cap y=0)∧∀j y,Y[j]? =some y→X[i+j]?.map Itm.key=some y.key
 |[],_,_=>by simp
 |y::Y,i,h=>by simp only[bP]at h;split at h;cases h;rename_i h1;split at h;cases h;rename_i h2;split at h;omega;rename_i h3;let⟨a,b⟩:=oG h;refine⟨fun z m=>?_,fun j z e=>?_⟩;grind;grind
theorem LV.app{A B:List Ent}(a:LV Ks A)(b:LV Ks B)(d:∀k∈aQ A,k∉aQ B):LV Ks (A++B):=by refine⟨fun e m=>(pi.1 m).elim (a.o e) (b.o e),fun e m=>(pi.1 m).elim (a.b e) (b.b e),fun e m=>(pi.1 m).elim (a.c e) (b.c e),?_⟩;rw[aQ,SF,Uq];exact⟨a.n,b.n,fun x Z y K e=>d x Z (e▸K)⟩
theorem LV.sub{A B:List Ent}(a:LV Ks B)(s:A.Sublist B):LV Ks A:=⟨fun e m=>a.o e (s.subset m),fun e m=>a.b e (s.subset m),fun e m=>a.c e (s.subset m),a.n.sublist (s.map _)⟩
theorem LV.perm{A B:List Ent}(a:LV Ks B)(s:A.Perm B):LV Ks A:=⟨fun e m=>a.o e (s.subset m),fun e m=>a.b e (s.subset m),fun e m=>a.c e (s.subset m),(s.map _).nodup_iff.2 a.n⟩
theorem LV.fresh{Y:List Itm}(r:RK Ks)(h:∀y∈Y,okI y Ks.length=true/\bO Ks 12 y=0)(n:(Y.map Itm.key).Nodup):LV Ks (aM Ks Y):=by
 refine⟨fun e m=>?_,fun e m _=>?_,fun e m k=>?_,by rw[qI];exact n⟩<;>obtain⟨y,Z,rfl⟩:=SX.1 m
 have:=h y Z;rw[r.2.1]at this;exact this;rfl;cases k
theorem wV{Y:List Itm}{a:Int}(r:RK Ks)(o:LV Ks E)(z:mW Ks a E Y=0):LV Ks (E.take a.toNat++aM Ks Y++E.drop a.toNat):=by
 unfold mW at z;split at z;cases z;let⟨h1,h2⟩:=gP z;have p:(E.take a.toNat++aM Ks Y++E.drop a.toNat).Perm (aM Ks Y++E):=by
  have:aM Ks Y++E=aM Ks Y++(E.take a.toNat++E.drop a.toNat):=by rw[SB]
  rw[this,<-SM];exact List.Perm.append_right _ UW
 refine LV.perm (LV.app (LV.fresh r (fun y m=>⟨(h1 y m).1,(h1 y m).2.1⟩) h2) o fun k hk=>?_) p;rw[qI]at hk;obtain⟨y,Z,rfl⟩:=SX.1 hk;have:=(h1 y Z).2.2.1;simpa[tY]using this
theorem BP{Ks:List Knd}{E:List Ent}{Y:List Itm}{a:Int}(z:cgE Ks a E Y=0):aQ (E.take a.toNat++aM Ks Y++E.drop (a.toNat+Y.length))=aQ E:=by
 unfold cgE at z;split at z;cases z;rename_i c;let⟨_,h2⟩:=oG z;have e1:aQ (E.take a.toNat++aM Ks Y++E.drop (a.toNat+Y.length))=(aQ E).take a.toNat++Y.map Itm.key++(aQ E).drop (a.toNat+(Y.map Itm.key).length):=by rw[List.length_map,←qI (Ks:=Ks)];simp[aQ,List.map_take,List.map_drop]
 rw[e1];refine List.ext_getElem? fun j=>?_;have lk:(aQ E).length=E.length:=by simp[aQ]
 rw[wB (by rw[lk,List.length_map];omega)];split;rename_i d;rw[List.getElem?_map];obtain⟨y,hy⟩:∃y,Y[j-a.toNat]? =some y:=⟨_,List.getElem?_eq_getElem (by rw[List.length_map]at d;omega)⟩;have:=h2 _ _ hy;rw[(oM:a.toNat+(j-a.toNat)=j),List.getElem?_map]at this;rw[hy,aQ,List.getElem?_map];cases q:E[j]? with
 |none=>rw[q]at this;cases this
 |some e=>rw[q]at this;exact this.symm
 rfl
theorem Gk{Y:List Itm}{a:Int}(r:RK Ks)(o:LV Ks E)(z:cgE Ks a E Y=0):LV Ks (E.take a.toNat++aM Ks Y++E.drop (a.toNat+Y.length)):=by
 have k:=BP z;unfold cgE at z;split at z;cases z;let⟨h1,_⟩:=oG z;have x:∀e∈E.take a.toNat++aM Ks Y++E.drop (a.toNat+Y.length),e∈E\/e∈aM Ks Y:=by grind
 have f:∀e∈aM Ks Y,(okI e.x 3=true/\bO Ks 12 e.x=0)/\e.b=aF Ks e.x/\e.kn=false:=by intro e m;obtain⟨y,Z,rfl⟩:=SX.1 m;have:=h1 y Z;rw[r.2.1]at this;exact⟨this,rfl,rfl⟩
 refine⟨fun e m=>?_,fun e m q=>?_,fun e m q=>?_,by rw[k];exact o.n⟩<;>obtain m|m:=x e m
 exact o.o e m;exact(f e m).1;exact o.b e m q;exact(f e m).2.1;exact o.c e m q;grind
theorem Ke{n:Ntc}(r:RK Ks)(o:LV Ks E)(z:kdE Ks n E=0):LV Ks (kdL Ks n E):=by unfold kdE at z;unfold kdL;split;exact wV r o (by simpa[*]using z);exact o.sub (gM _ _ _);exact o.perm (dD _ _ _ _);exact Gk r o (by simpa[*]using z);split at z;contradiction;contradiction;contradiction;contradiction;let⟨h1,h2⟩:=gP z;exact LV.fresh r (fun y m=>⟨(h1 y m).1,(h1 y m).2.1⟩) h2
theorem KA{n:Ntc}(z:apX Ks n E=0):kdE Ks n E=0:=by unfold apX at z;split at z;omega;exact z
theorem xI{n:Ntc}(r:RK Ks)(o:LV Ks E):LV Ks (apL Ks n E):=by unfold apL;split;rename_i z;exact Ke r o (KA z);exact o
theorem Il{n:Ntc}:(kdL Ks n E).length<=E.length+n.Y.length:=by unfold kdL;split;simp[fR];omega;have:=(gM E n.a.toNat n.c.toNat).length_le;omega;have:=(dD E n.a.toNat n.c.toNat n.t.toNat).length_eq;omega;simp[fR];omega;rw[fR];omega
theorem qM{n:Ntc}:(apL Ks n E).length<=E.length+n.Y.length:=by unfold apL;split;exact Il;omega
open Go.Ev.St
set_option maxRecDepth 4000
theorem mH:∀{a b c:PT},PT.same a b->PT.same b c->PT.same a c
 |.nil,.nil,.nil,_,_=>trivial
 |.cons _ _ _ _ _ _ _ _ _,.cons _ _ _ _ _ _ _ _ _,.cons _ _ _ _ _ _ _ _ _,⟨h1,h2,h3,h4,h5,h6,h7⟩,⟨g1,g2,g3,g4,g5,g6,g7⟩=>⟨h1.trans g1,h2.trans g2,h3.trans g3,h4.trans g4,h5.trans g5,mH h6 g6,mH h7 g7⟩
 |.nil,.cons _ _ _ _ _ _ _ _ _,_,h,_=>h.elim
 |.cons _ _ _ _ _ _ _ _ _,.nil,_,h,_=>h.elim
 |.nil,.nil,.cons _ _ _ _ _ _ _ _ _,_,h=>h.elim
 |.cons _ _ _ _ _ _ _ _ _,.cons _ _ _ _ _ _ _ _ _,.nil,_,h=>h.elim
theorem nw:∀{a b c:List Knd},bU a b->bU b c->bU a c
 |[],[],[],_,_=>trivial
 |_::_,_::_,_::_,⟨⟨h1,h2,h3,h4,h5,h6,h7,h8,h9⟩,h'⟩,⟨⟨g1,g2,g3,g4,g5,g6,g7,g8,g9⟩,g'⟩=>⟨⟨h1.trans g1,h2.trans g2,h3.trans g3,h4.trans g4,h5.trans g5,h6.trans g6,h7.trans g7,h8.trans g8,mH h9 g9⟩,nw h' g'⟩
 |[],_::_,_,h,_=>h.elim
 |_::_,[],_,h,_=>h.elim
 |[],[],_::_,_,h=>h.elim
 |_::_,_::_,[],_,h=>h.elim
def SW(n0:NL)(W:Nat->Prop)(C:Nat)(Ks:List Knd)(h:Heap)(b:Nat)(E:List Ent):Prop:=∃K X st vK bg B bm S bl pm mc,Sto n0 h b K 12 X (E.map Ent.b) (E.map Ent.kn) st vK bg B bm S bl pm mc/\bU Ks K/\X.map Itm.val=E.map (fun e=>e.x.val)/\IxL mc.1 (aQ E)/\mc.2<=C/\∀y∈Wr b bg B bm S bl pm,W y
theorem SW.fr{W:Nat->Prop}{h:Heap}{b:Nat}(w:WF h)(s:SW n0 W C Ks h b E)(f:Fr [] h h'):SW n0 W C Ks h' b E:=by let⟨K,X,st,vK,bg,B,bm,S,bl,pm,mc,s,r⟩:=s;exact⟨K,X,st,vK,bg,B,bm,S,bl,pm,mc,s.fr w f,r⟩
theorem SW.mono{W W':Nat->Prop}{Z:Nat}{h:Heap}{b:Nat}(s:SW n0 W C Ks h b E)(hW:∀y,W y->W' y)(hC:C<=Z):SW n0 W' Z Ks h b E:=by let⟨K,X,st,vK,bg,B,bm,S,bl,pm,mc,s,sk,ev,ix,c,r⟩:=s;exact⟨K,X,st,vK,bg,B,bm,S,bl,pm,mc,s,sk,ev,ix,SD c hC,fun y m=>hW y (r y m)⟩
theorem WrW{W:Nat->Prop}{N b B S bl':Nat}{Z:Option Nat}(hW:∀y∈Wr b bg B bm S bl pm,W y)(hB:B'=B\/N<=B')(hS:S'=S\/N<=S')(hl:bl'=bl\/N<=bl')(K:Z=pm\/∀q,Z=some q->N<=q):∀y∈Wr b bg B' bm S' bl' Z,W y\/N<=y:=by intro y m;simp only[Wr,pi,Sk,SH,or_false]at m;have q:∀{z},z∈Wr b bg B bm S bl pm->y=z->W y\/N<=y:=fun h e=>.inl (e▸hW _ h);obtain(m|m|m|m|m|m)|m:=m;exact q (by simp[Wr]) m;exact q (by simp[Wr]) m;obtain e|e:=hB;exact q (by simp[Wr]) (m.trans e);omega;exact q (by simp[Wr]) m;obtain e|e:=hS;exact q (by simp[Wr]) (m.trans e);omega;obtain e|e:=hl;exact q (by simp[Wr]) (m.trans e);omega;obtain e|e:=K;rw[e]at m;exact q (pi.2 (.inr m)) rfl;grind
theorem yE(ev:X.map Itm.val=E.map fun e=>e.x.val):X.map Itm.key=aQ E:=by have:=congrArg (List.map Prod.fst) ev;rw[Te,Te]at this;exact this
theorem By{m:Nat->Option Nat}(ix:IxL m (aQ E))(k:Nat):(m k).isSome=tY E k:=by
 unfold tY;by_cases c:k∈aQ E;let⟨j,e⟩:=Ue.1 c;rw[(ix k j).2 e,decide_eq_true c];rfl;rw[decide_eq_false c];cases e:m k with
 |none=>rfl
 |some j=>exact absurd (Ue.2 ⟨j,(ix k j).1 e⟩) c
theorem BL{mc:cC}{L:List Nat}{A:List Itm}{i:Nat}(ix:IxL mc.1 L)(h:∀x∈X,x.key∈L):(dJ mc (A++X) i).2<=mc.2+A.length:=by
 refine SD (pI _ _ _) (Nat.add_le_add_left ?_ _);rw[Ug,Sv];have e:X.filter (fun x=>(mc.1 x.key).isNone)=[]:=by rw[Vs];intro x m q;let⟨j,hj⟩:=Ue.1 (h x m);rw[(ix x.key j).2 hj]at q;cases q
 rw[e];have:=UU (fun x:Itm=>(mc.1 x.key).isNone) A;simp;omega
section
variable {n0 : NL} {W : Nat -> Prop} {C : Nat} {Ks : List Knd} {h : Heap} {b : Nat} {E : List Ent} {Y : List Itm} {a c t : Int} {v k0 a0 c0 t0 : V}
def WZ(W:Nat->Prop)(h h':Heap):Prop:=∃Z,(∀z∈Z,W z\/h.next<=z)/\Fr Z h h'
theorem D2(w:WF h)(s:SW n0 W C Ks h b E)(o:LV Ks E)(r:RK Ks)(ha:-9223372036854775808<=a/\a<9223372036854775808)(hl:E.length+Y.length<=1000)(hC:C+1024<=4096)
 (sv:∀(Z:List Nat)(h':Heap),(∀z∈Z,W z\/h.next<=z)->Fr Z h h'->ARecs Itm.cells 4 h' v Y/\∀y∈Y,ItmH h' y) (ones:au [k0,ZZ a,c0,t0,v]=true):
 ao go 46 [.ptr b 0,.agg [k0,ZZ a,c0,t0,v]] h fun u h'=>u=ZZ (mW Ks a E Y)/\WZ W h h'/\SW n0 (fun z=>W z\/h.next<=z) (C+Y.length) Ks h' b (if mW Ks a E Y=0 then E.take a.toNat++aM Ks Y++E.drop a.toNat else E):=by
 let⟨K,X,st,vK,bg,B,bm,S,bl,pm,mc,s,sk,ev,ix,hc,hW⟩:=s;have kx:=yE ev;have lx:X.length=E.length:=by have:=congrArg List.length ev;simpa using this
 have ac:okR K 12=true:=by rw[<-jw sk];exact r.1
 have base:Y.map (aF K)=Y.map (aF Ks):=Ut fun y _=>(gG sk y).1;have er:jP K 12 a X Y (E.map Ent.b) (fun x=>(mc.1 x).isSome)=mW Ks a E Y:=by unfold jP mW;rw[lx];by_cases d:a<0\/(E.length:Int)<a;omega;rw[if_neg d,if_neg d,if_neg oM,pO sk (By ix)];by_cases z:dQ Ks 12 (tY E) [] Y=0;rw[if_neg iX,z,base];refine HF (o.in40 r) (fun x m=>?_) oO oO;obtain⟨y,ym,rfl⟩:=SX.1 m;have:=((gP z).1 y ym).1;rw[r.2.1]at this;exact r.base this;rw[if_pos z]
 have key:∀x∈X,0<x.key:=by intro x m;have:x.key∈aQ E:=kx▸SX.2 ⟨x,m,rfl⟩;let⟨e,em,q⟩:=SX.1 this;have oi:=(o.o e em).1;simp only[okI,RU,decide_eq_true_eq]at oi;omega
 apply Uu (uY (Y:=Y) w s ha ac key oM oM (fun Z h' hZ f=>sv Z h' (fun z m=>(hZ z m).imp (hW z) id) f) (fun _ _=>rfl) oM ones);rintro u h' ⟨rfl,r1,r2⟩;rw[er]at r1 r2|-;by_cases z:mW Ks a E Y=0;let⟨a1,a2,_,Y',B',S',pm',cp,s2,f2,q1,q2,q3⟩:=r2 z;have lv:=wV r o z;rw[if_pos z];have e1:(E.take a.toNat++aM Ks Y++E.drop a.toNat).map Ent.b=(E.map Ent.b).take a.toNat++Y.map (aF K)++(E.map Ent.b).drop a.toNat:=by rw[base,<-w8];simp[TD,Tp]
 have e2:(E.take a.toNat++aM Ks Y++E.drop a.toNat).map Ent.kn=(E.map Ent.kn).take a.toNat++List.replicate Y.length false++(E.map Ent.kn).drop a.toNat:=by rw[<-w4 (Ks:=Ks)];simp[TD,Tp]
 have e3:(X.take a.toNat++Y'++X.drop a.toNat).map Itm.val=(E.take a.toNat++aM Ks Y++E.drop a.toNat).map fun e=>e.x.val:=by rw[SF,SF,SF,SF,cp.vals,wZ,TD,Tp,TD,Tp,ev]
 have k3:=yE e3;rw[<-e1,<-e2]at s2;have la:a.toNat<=X.length:=oM;have lt:(X.take a.toNat).length=a.toNat:=by simp;omega
 have dp:(X.take a.toNat++Y'++X.drop a.toNat).drop a.toNat=Y'++X.drop a.toNat:=by grind
 refine⟨rfl,⟨_,fun y m=>.inl (hW y m),f2⟩,K,_,_,vK,bg,B',bm,S',bl,pm',_,s2,sk,e3,?_,?_,WrW hW q1 q2 (.inl rfl) q3⟩;rw[<-k3];refine qH (mc:=mc) (L:=aQ E) (D:=[]) ix o.n (by rw[k3];exact lv.n) ?_ (fun k=>by simp) iS (fun k m=>.inr ?_);rw[<-kx,SF,SF,SM,SK oO,TD,TQ,Nat.min_self];rw[<-Tp,dp,SF];refine pi.2 (.inr ?_);rw[Tp,kx];exact m;rw[dp];have:=BL (A:=Y') (i:=a.toNat) (X:=X.drop a.toNat) ix fun x m=>kx▸SX.2 ⟨x,Tc m,rfl⟩;have:=cp.len;omega;let⟨f,pm',hp',s2⟩:=r1 z;rw[if_neg z];refine⟨rfl,⟨_,fun y m=>.inl (hW y ?_),f⟩,K,X,st,vK,bg,B,bm,S,bl,pm',mc,s2,sk,ev,ix,oM,WrW hW (.inl rfl) (.inl rfl) (.inl rfl) hp'⟩;obtain q|q:=Sk.1 m;simp[Wr,q];exact pi.2 (.inr q)
theorem Jm(o:LV Ks E){X:List Itm}(Z:X.map Itm.key=aQ E):∀x∈X,0<x.key:=by intro x m;have:x.key∈aQ E:=Z▸SX.2 ⟨x,m,rfl⟩;let⟨e,em,q⟩:=SX.1 this;have K:=(o.o e em).1;simp only[okI,RU,decide_eq_true_eq]at K;omega
theorem wN{b B S:Nat}:∀y∈bl::pm.toList,y∈Wr b bg B bm S bl pm:=by intro y m;obtain q|q:=Sk.1 m;simp[Wr,q];exact pi.2 (.inr q)
theorem yn{L:List α}{a c:Nat}(h:a<=L.length):(aS L a c).drop a=(L.drop a).drop c:=by unfold aS;exact List.drop_left' oO
theorem D0(w:WF h)(s:SW n0 W C Ks h b E)(o:LV Ks E)(ha:-9223372036854775808≤a∧a≤9223372036854775807)(hc:-9223372036854775808≤c∧c≤9223372036854775807)(hl:E.length≤1000)(hC:C+1024≤4096)(ones:au [k0,.int .i64 a,.int .i64 c,t0,v]=true):
 ao go 47 [.ptr b 0,.agg [k0,.int .i64 a,.int .i64 c,t0,v]] h fun u h'=>u=.int .i64 (if bN E.length a c then 4 else 0)∧WZ W h h'∧SW n0 (fun z=>W z∨h.next≤z) C Ks h' b (if(if bN E.length a c then(4:Int)else 0)=0 then aS E a.toNat c.toNat else E):=by
 let⟨K,X,st,vK,bg,B,bm,S,bl,pm,mc,s,sk,ev,ix,hcc,hW⟩:=s;have kx:=yE ev;have lx:X.length=E.length:=by have:=congrArg List.length ev;simpa using this
 have isS:∀x∈X,(mc.1 x.key).isSome=true:=fun x m=>by rw[By ix];exact decide_eq_true (kx▸List.mem_map.2 ⟨x,m,rfl⟩)
 refine OQ.mono (Ae w s ha hc (Jm o kx) (by rw[kx];exact o.n) isS oM oM ones) ?_;rintro u h' ⟨rfl,r1,r2⟩;rw[lx]at r1 r2⊢;by_cases z:bN E.length a c;let⟨f,s2⟩:=r1 z;rw[if_pos z,if_neg (dI:¬(4:Int)=0)];exact⟨rfl,⟨_,fun y m=>.inl (hW y (wN y m)),f⟩,K,X,st,vK,bg,B,bm,S,bl,pm,mc,s2,sk,ev,ix,hcc,fun y m=>.inl (hW y m)⟩;let⟨f,S',hS,s2⟩:=r2 z;rw[if_neg z,if_pos rfl];have rm:∀{α β:Type}(g:α→β)(L:List α),(aS L a.toNat c.toNat).map g=aS (L.map g) a.toNat c.toNat:=fun g L=>by simp[aS,List.map_take,List.map_drop]
 have e3:(aS X a.toNat c.toNat).map Itm.val=(aS E a.toNat c.toNat).map fun e=>e.x.val:=by rw[rm,rm,ev]
 have k3:=yE e3;have kr:aQ (aS E a.toNat c.toNat)=aS (aQ E) a.toNat c.toNat:=by grind
 have lv:=o.sub (gM E a.toNat c.toNat);have ll:(aQ E).length=E.length:=by simp[aQ]
 have zz:=z;unfold bN at zz;rw[←rm,←rm]at s2;refine⟨rfl,⟨_,fun y m=>.inl (hW y m),f⟩,K,_,_,vK,bg,B,bm,S',bl,pm,_,s2,sk,e3,?_,?_,WrW hW (.inl rfl) hS (.inl rfl) (.inl rfl)⟩;rw[←k3];refine qH (mc:=mc) (L:=aQ E) (D:=((X.drop a.toNat).take c.toNat).map Itm.key) ix o.n (by rw[k3];exact lv.n) ?_ (fun k=>lK _ _ _) (fun k m=>?_) (fun k m=>?_);rw[k3,kr,aS,List.take_append_of_le_length oO,List.take_take,Nat.min_self];rw[←kx,←List.map_drop];let⟨x,xm,e⟩:=List.mem_map.1 m;exact List.mem_map.2 ⟨x,List.mem_of_mem_take xm,e⟩;rw[k3,kr,List.map_take,List.map_drop,kx,yn oM];rw[←List.take_append_drop c.toNat ((aQ E).drop a.toNat)]at m;exact List.mem_append.1 m;have d0:=pR ((X.drop a.toNat).take c.toNat) mc;apply Nat.le_trans (pI _ _ _);have e:((aS X a.toNat c.toNat).drop a.toNat).filter (fun x=>((fD mc ((X.drop a.toNat).take c.toNat)).1 x.key).isNone)=[]:=by
  rw[List.filter_eq_nil_iff];intro x m q;rw[lK]at q;split at q;rename_i dm;rw[yn oM]at m;have nd:(((X.drop a.toNat)).map Itm.key).Nodup:=by rw[List.map_drop,kx];exact o.n.sublist (List.drop_sublist _ _)
  rw[←List.take_append_drop c.toNat (X.drop a.toNat),List.map_append,List.nodup_append]at nd;exact nd.2.2 _ dm _ (List.mem_map.2 ⟨x,m,rfl⟩) rfl;have:=isS x (jY (List.mem_of_mem_drop m));cases e:mc.1 x.key with
  |none=>rw[e]at this;cases this
  |some j=>rw[e]at q;cases q
 rw[e];simp;omega
theorem D1(w:WF h)(s:SW n0 W C Ks h b E)(o:LV Ks E)(ha:-9223372036854775808<=a/\a<=9223372036854775807)(hc:-9223372036854775808<=c/\c<=9223372036854775807)(ht:-9223372036854775808<=t/\t<=9223372036854775807)(hl:E.length<=1000)(hC:C+1024<=4096)(ones:au [k0,ZZ a,ZZ c,ZZ t,v]=true):
 ao go 48 [.ptr b 0,.agg [k0,ZZ a,ZZ c,ZZ t,v]] h fun u h'=>u=ZZ (if c7 E.length a c t then 4 else 0)/\WZ W h h'/\SW n0 (fun z=>W z\/h.next<=z) C Ks h' b (if(if c7 E.length a c t then(4:Int)else 0)=0 then cx E a.toNat c.toNat t.toNat else E):=by
 let⟨K,X,st,vK,bg,B,bm,S,bl,pm,mc,s,sk,ev,ix,hcc,hW⟩:=s;have kx:=yE ev;have lx:X.length=E.length:=by have:=congrArg List.length ev;simpa using this
 apply Uu (Ec w s ha hc ht (Jm o kx) oM oM ones);rintro u h' ⟨rfl,r1,r2⟩;rw[lx]at r1 r2|-;by_cases z:c7 E.length a c t;let⟨f,s2⟩:=r1 z;rw[if_pos z,if_neg (dI:¬(4:Int)=0)];exact⟨rfl,⟨_,fun y m=>.inl (hW y (wN y m)),f⟩,K,X,st,vK,bg,B,bm,S,bl,pm,mc,s2,sk,ev,ix,hcc,fun y m=>.inl (hW y m)⟩;let⟨f,B',S',hB,hS,s2⟩:=r2 z;rw[if_neg z,if_pos rfl];have rm:∀{α β:Type}(g:α->β)(L:List α),(cx L a.toNat c.toNat t.toNat).map g=cx (L.map g) a.toNat c.toNat t.toNat:=fun g L=>by simp[cx,aS,TD,Tp]
 have e3:(cx X a.toNat c.toNat t.toNat).map Itm.val=(cx E a.toNat c.toNat t.toNat).map fun e=>e.x.val:=by rw[rm,rm,ev]
 have Z:=yE e3;have kr:aQ (cx E a.toNat c.toNat t.toNat)=cx (aQ E) a.toNat c.toNat t.toNat:=by grind
 have lv:=o.perm (dD E a.toNat c.toNat t.toNat);have ll:(aQ E).length=E.length:=by simp[aQ]
 have zz:=z;unfold c7 bN at zz;rw[<-rm,<-rm]at s2;have pk:=dD (aQ E) a.toNat c.toNat t.toNat;have tk:(cx (aQ E) a.toNat c.toNat t.toNat).take (min a.toNat t.toNat)=(aQ E).take (min a.toNat t.toNat):=by
  have r1:(aS (aQ E) a.toNat c.toNat).take (min a.toNat t.toNat)=(aQ E).take (min a.toNat t.toNat):=by rw[aS,SK oO,TQ,TM oM]
  rw[cx,SM,SK (by rw[UO,kY oM];omega),TQ,TM oM,r1]
 refine⟨rfl,⟨_,fun y m=>.inl (hW y m),f⟩,K,_,_,vK,bg,B',bm,S',bl,pm,_,s2,sk,e3,?_,?_,WrW hW hB hS (.inl rfl) (.inl rfl)⟩;rw[<-Z];refine qH (mc:=mc) (L:=aQ E) (D:=[]) ix o.n (by rw[Z];exact lv.n) (by rw[Z,kr];exact tk) (fun k=>by simp) iS (fun k m=>.inr ?_);rw[Z,kr];generalize min a.toNat t.toNat=p at tk m|-;have n1:(cx (aQ E) a.toNat c.toNat t.toNat).Nodup:=pk.nodup_iff.2 o.n;have:k∈cx (aQ E) a.toNat c.toNat t.toNat:=pk.symm.subset (Tc m);rw[<-SB p (cx _ _ _ _)]at this;obtain q|q:=pi.1 this;rw[tk]at q;have:=o.n;rw[<-SB p (aQ E),Uq]at this;exact absurd rfl (this.2.2 k q k m);exact q;refine SD (BL (A:=[]) ix fun x m=>?_) oO;exact kx▸SX.2 ⟨x,(dD X a.toNat c.toNat t.toNat).subset (Tc m),rfl⟩
theorem D3(w:WF h)(s:SW n0 W C Ks h b E)(o:LV Ks E)(r:RK Ks)(ha:-9223372036854775808<=a/\a<9223372036854775808)(hl:E.length+Y.length<=1000)
 (sv:∀(Z:List Nat)(h':Heap),(∀z∈Z,W z\/h.next<=z)->Fr Z h h'->ARecs Itm.cells 4 h' v Y/\∀y∈Y,ItmH h' y) (ones:au [k0,ZZ a,c0,t0,v]=true):
 ao go 49 [.ptr b 0,.agg [k0,ZZ a,c0,t0,v]] h fun u h'=>u=ZZ (cgE Ks a E Y)/\WZ W h h'/\SW n0 (fun z=>W z\/h.next<=z) C Ks h' b (if cgE Ks a E Y=0 then E.take a.toNat++aM Ks Y++E.drop (a.toNat+Y.length)else E):=by
 let⟨K,X,st,vK,bg,B,bm,S,bl,pm,mc,s,sk,ev,ix,hcc,hW⟩:=s;have kx:=yE ev;have lx:X.length=E.length:=by have:=congrArg List.length ev;simpa using this
 have ac:okR K 12=true:=by rw[<-jw sk];exact r.1
 have base:Y.map (aF K)=Y.map (aF Ks):=Ut fun y _=>(gG sk y).1;have ae:X.map Itm.key=(E.map Ent.x).map Itm.key:=by rw[kx,Te];rfl
 have cR:¬(a<0\/(E.length:Int)<a\/(E.length:Int)-a<Y.length)->bP Ks 12 (E.map Ent.x) a.toNat Y=0->chR (E.map Ent.b) a.toNat (Y.map (aF K)) 2 (E.map Ent.b) (E.map Ent.kn)=(0,(E.map Ent.b).take a.toNat++Y.map (aF Ks)++(E.map Ent.b).drop (a.toNat+Y.length),(E.map Ent.kn).take a.toNat++List.replicate Y.length false++(E.map Ent.kn).drop (a.toNat+Y.length)):=by intro d z;have:=IM (old:=E.map Ent.b) (M:=Y.map (aF Ks)) (l:=E.map Ent.b) (kn:=E.map Ent.kn) (a:=a.toNat) (o.in40 r) (fun x m=>?_) oO oO iS;grind;obtain⟨y,ym,rfl⟩:=SX.1 m;have:=((oG z).1 y ym).1;rw[r.2.1]at this;exact r.base this
 have er:pT K 12 a X Y (E.map Ent.b) (E.map Ent.kn)=cgE Ks a E Y:=by unfold pT cgE;rw[lx];by_cases d:a<0\/(E.length:Int)<a\/(E.length:Int)-a<Y.length;omega;rw[if_neg d,if_neg d,vO sk ae];by_cases z:bP Ks 12 (E.map Ent.x) a.toNat Y=0;grind;rw[if_pos z]
 apply Uu (Do (Y:=Y) w s ha ac oM (fun Z h' hZ f=>sv Z h' (fun z m=>(hZ z m).imp (hW z) id) f) (fun _ _=>rfl) oM ones);rintro u h' ⟨rfl,r1,r2⟩;rw[er]at r1 r2|-;by_cases z:cgE Ks a E Y=0;let⟨a1,a2,f2,Y',cp,s2⟩:=r2 z;have kc:=BP z;have z':=z;unfold cgE at z';split at z';cases z';rename_i d;rw[cR d z']at s2;rw[if_pos z];have e1:(E.take a.toNat++aM Ks Y++E.drop (a.toNat+Y.length)).map Ent.b=(E.map Ent.b).take a.toNat++Y.map (aF Ks)++(E.map Ent.b).drop (a.toNat+Y.length):=by rw[<-w8];simp[TD,Tp]
 have e2:(E.take a.toNat++aM Ks Y++E.drop (a.toNat+Y.length)).map Ent.kn=(E.map Ent.kn).take a.toNat++List.replicate Y.length false++(E.map Ent.kn).drop (a.toNat+Y.length):=by rw[<-w4 (Ks:=Ks)];simp[TD,Tp]
 have e3:(X.take a.toNat++Y'++X.drop (a.toNat+Y.length)).map Itm.val=(E.take a.toNat++aM Ks Y++E.drop (a.toNat+Y.length)).map fun e=>e.x.val:=by rw[SF,SF,SF,SF,cp.vals,wZ,TD,Tp,TD,Tp,ev]
 simp only[]at s2;rw[<-e1,<-e2]at s2;refine⟨rfl,⟨_,fun y m=>.inl (hW y ?_),f2⟩,K,_,_,vK,bg,B,bm,S,bl,pm,_,s2,sk,e3,by rw[kc];exact ix,hcc,fun y m=>.inl (hW y m)⟩;obtain q|q:=Sk.1 m;simp[Wr,q];exact wN y q;let⟨f,bl',pm',hb,hp',s2⟩:=r1 z;rw[if_neg z];refine⟨rfl,⟨_,fun y m=>.inl (hW y ?_),f⟩,K,X,st,vK,bg,B,bm,S,bl',pm',mc,s2,sk,ev,ix,hcc,WrW hW (.inl rfl) (.inl rfl) hb hp'⟩;obtain q|q:=Sk.1 m;simp[Wr,q];exact wN y q
theorem DZ(w:WF h)(s:SW n0 W C Ks h b E)(r:RK Ks)(hl:Y.length<=1000)(hC:0<=C)
 (sv:ARecs Itm.cells 4 h v Y/\∀y∈Y,ItmH h y) (ones:au [k0,a0,c0,t0,v]=true):
 ao go 50 [.ptr b 0,.agg [k0,a0,c0,t0,v]] h fun u h'=>u=ZZ (dQ Ks 12 (fun _=>false) [] Y)/\WZ W h h'/\SW n0 (fun z=>W z\/h.next<=z) (C+Y.length) Ks h' b (if dQ Ks 12 (fun _=>false) [] Y=0 then aM Ks Y else E):=by
 have s0:=s;let⟨K,X,st,vK,bg,B,bm,S,bl,pm,mc,s,sk,ev,ix,hcc,hW⟩:=s;have ac:okR K 12=true:=by rw[<-jw sk];exact r.1
 have base:Y.map (aF K)=Y.map (aF Ks):=Ut fun y _=>(gG sk y).1;have er:CK K 12 Y=dQ Ks 12 (fun _=>false) [] Y:=by unfold CK;rw[if_neg oM,pO sk (fun _=>rfl)];by_cases z:dQ Ks 12 (fun _=>false) [] Y=0;rw[if_neg iX,z,base];refine uh (fun x m=>?_) oO;obtain⟨y,ym,rfl⟩:=SX.1 m;have:=((gP z).1 y ym).1;rw[r.2.1]at this;exact r.base this;rw[if_pos z]
 apply Uu (Eh (Y:=Y) w s ac sv.1 (fun y m=>⟨sv.2 y m,rfl⟩) oM ones);rintro u h' ⟨rfl,r1,r2⟩;rw[er]at r1 r2|-;by_cases z:dQ Ks 12 (fun _=>false) [] Y=0;let⟨f,K',Y',vK',bg',B',Z,S',bl',pm',sk',cp,s2,wn⟩:=r2 z;rw[if_pos z];have nd:=(gP z).2;have e3:Y'.map Itm.val=(aM Ks Y).map fun e=>e.x.val:=by rw[cp.vals,wZ]
 have k3:=yE e3;rw[base,<-w8,<-w4 (Ks:=Ks)]at s2;refine⟨rfl,⟨_,fun y m=>.inl (hW y (by simp at m;simp[Wr,m])),f⟩,K',Y',_,vK',bg',B',Z,S',bl',pm',_,s2,nw sk sk',e3,?_,?_,fun y m=>?_⟩;rw[<-k3];exact qH (mc:=(fun _=>none,0)) (L:=[]) (a:=0) (D:=[]) (fun k j=>by simp) List.nodup_nil (by rw[k3,qI];exact nd) rfl (fun k=>by simp) iS iS;have:=rP Y' (fun _=>none,0) 0;have:=cp.len;simp only[]at *;omega;have m':y=b\/y∈[bg',B',Z,S',bl']++pm'.toList:=by simp only[Wr,pi,Sk,SH,or_false]at m|-;obtain(m|m)|m:=m;exact .inl m;exact .inr (.inl m);exact .inr (.inr m)
 obtain e|e:=m';exact .inl (hW y (by simp[Wr,e]));exact .inr (wn y e);rw[if_neg z];exact⟨rfl,⟨[],iS,r1 z⟩,(s0.fr w (r1 z)).mono (fun y q=>.inl q) oM⟩
end
open Go.Ev.St
set_option maxRecDepth 4000
def i64(a:Int):Prop:=-9223372036854775808<=a/\a<=9223372036854775807
def SV(W:Nat->Prop)(h:Heap)(v:V)(Y:List Itm):Prop:=∀(Z:List Nat)(h':Heap),(∀z∈Z,W z\/h.next<=z)->Fr Z h h'->ARecs Itm.cells 4 h' v Y/\∀y∈Y,ItmH h' y
theorem SV.keep{W:Nat->Prop}{h:Heap}{v:V}{Y:List Itm}(s:SV W h v Y)(w:WF h)(f:WZ W h h'):SV (fun z=>W z\/h.next<=z) h' v Y:=by let⟨Z0,hZ0,f⟩:=f;have n:=f.next;intro Z K hZ f2;refine s (Z0++Z) K (fun z m=>?_) (Sj f f2 w (fun x m=>.inl (pi.2 (.inl m))) (fun x m=>.inl (pi.2 (.inr m))));obtain m|m:=pi.1 m;exact hZ0 z m;grind
theorem SV.fr{W:Nat->Prop}{h:Heap}{v:V}{Y:List Itm}(s:SV W h v Y)(w:WF h)(f:Fr [] h h'):SV W h' v Y:=by have n:=f.next;intro Z h2 K f2;exact s Z h2 (fun z m=>(K z m).imp id fun q=>by omega) (Sj f f2 w iS (fun x m=>.inl m))
theorem WZ.pre{W:Nat->Prop}{h K:Heap}(w:WF h)(f:Fr [] h K)(z:WZ W K h2):WZ W h h2:=by let⟨Z,hZ,g⟩:=z;have n:=f.next;exact⟨Z,fun z m=>(hZ z m).imp id fun q=>by omega,Sj f g w iS (fun x m=>.inl m)⟩
theorem A5{W:Nat->Prop}{h:Heap}{b:Nat}{n:Ntc}{v:V}(w:WF h)(s:SW n0 W C Ks h b E)(o:LV Ks E)(r:RK Ks)(hk:n.k<256)(ha:i64 n.a)(hc:i64 n.c)(ht:i64 n.t)(hl:E.length+n.Y.length<=1000)(hC:C+1024<=4096)
 (sv:SV W h v n.Y):ao go 9 [.ptr b 0,.agg [ZY (n.k:Int),ZZ n.a,ZZ n.c,ZZ n.t,v]] h fun u h'=>u=ZZ (apX Ks n E)/\WZ W h h'/\SW n0 (fun z=>W z\/h.next<=z) (C+n.Y.length) Ks h' b (apL Ks n E):=by
 have sl:=(sv [] h iS (Sn w)).1;have ones:au [ZY (n.k:Int),ZZ n.a,ZZ n.c,ZZ n.t,v]=true:=by simp only[av,aB,VB sl];rfl
 let⟨k,a,c,t,Y⟩:=n;have ae:E.length+Y.length<=1000:=hl;have ac:-9223372036854775808<=a/\a<9223372036854775808:=⟨ha.1,Int.lt_add_one_of_le ha.2⟩;have s0:=s;let⟨K,X,st,vK,bg,B,bm,S,bl,pm,mc,s,sk,ev,ix,hcc,hW⟩:=s;refine uB (k:=k) (n:=Y.length) w s hk sl (fun h' c0 f=>?_) (fun c0 h1 f1=>?_);have e:apX Ks ⟨k,a,c,t,Y⟩ E=dq k a c t Y.length:=by unfold apX;rw[if_pos c0]
 have e2:apL Ks ⟨k,a,c,t,Y⟩ E=E:=by unfold apL;rw[e,if_neg c0]
 rw[e,e2];exact⟨rfl,⟨[],iS,f⟩,(s0.fr w f).mono (fun y q=>.inl q) oM⟩;have e:apX Ks ⟨k,a,c,t,Y⟩ E=kdE Ks ⟨k,a,c,t,Y⟩ E:=by unfold apX;rw[if_neg (fun q=>q c0)]
 have kk:k=1\/k=2\/k=3\/k=4\/k=5:=by unfold dq at c0;split at c0;cases c0;omega
 have n1:=f1.next;have up:∀{C':Nat}{b:Nat}{L:List Ent}{h':Heap},SW n0 (fun z=>W z\/h1.next<=z) C' Ks h' b L->C'<=C+Y.length->SW n0 (fun z=>W z\/h.next<=z) (C+Y.length) Ks h' b L:=fun s q=>s.mono (fun y z=>z.imp id fun z=>by omega) q;have s1:=s0.fr w f1;have Z:=sv.fr w f1;rw[apL,e];obtain rfl|rfl|rfl|rfl|rfl:=kk;apply Uu (D2 f1.wf s1 o r ac hl hC Z ones);rintro u h' ⟨rfl,z,q⟩;exact⟨rfl,z.pre w f1,up q (RW _)⟩;apply Uu (D0 f1.wf s1 o ha hc oM hC ones);rintro u h' ⟨rfl,z,q⟩;exact⟨rfl,z.pre w f1,up q oM⟩;apply Uu (D1 f1.wf s1 o ha hc ht oM hC ones);rintro u h' ⟨rfl,z,q⟩;exact⟨rfl,z.pre w f1,up q oM⟩;apply Uu (D3 f1.wf s1 o r ac hl Z ones);rintro u h' ⟨rfl,z,q⟩;exact⟨rfl,z.pre w f1,up q oM⟩;apply Uu (DZ f1.wf s1 r oM oM (Z [] h1 iS (Sn f1.wf)) ones);rintro u h' ⟨rfl,z,q⟩;exact⟨rfl,z.pre w f1,up q (RW _)⟩
theorem Sto.restore{D c b B S K ac bl':Nat}{h h3:Heap}{l:List Int}{ae:Option Nat}{mc:cC}{Z:List Nat}(w:WF h)(s:Sto n0 h b Ks cap X l kn st vK bg B bm S bl pm mc)
 (f:Fr Z h h2) (hZ:∀z∈Z,z∈Wr b bg B bm S bl pm\/h.next<=z) (sc:Sto n0 h2 c Ks cap X l kn st vK K B' ac S' bl' ae mc) (ge:∀y∈Wr c K B' ac S' bl' ae,h.next<=y\/y=D) (hD:D∉Wr b bg B bm S bl pm) (af:Lx n0 D)
 {c0:List V} (o0:Own h2 b c0) (h5:c0.length=5) (g:Fr [b] h2 h3) (ob:Own h3 b [vK,ZZ cap,.ptr K 0,.ptr ac 0,.ptr bl' 0]):Sto n0 h3 b Ks cap X l kn st vK K B' ac S' bl' ae mc:=by
 have lb:=s.ob.lt w;have bD:b≠D:=fun e=>hD (by simp[Wr,<-e]);have nb:∀y,y∈Wr c K B' ac S' bl' ae->b≠y:=fun y m=>by obtain q|q:=ge y m<;>omega
 have g1:=nb K (by simp[Wr]);have g2:=nb B' (by simp[Wr]);have g3:=nb ac (by simp[Wr]);have g4:=nb S' (by simp[Wr]);have g5:=nb bl' (by simp[Wr]);have g6:∀q,ae=some q->b≠q:=fun q e=>nb q (by simp[Wr,e]);have d:=sc.d;have n1:=f.next;have n2:=g.next;have n0l:=s.n0l;have x:∀{y},b≠y->y∉[b]:=fun e m=>e (Su.1 m).symm;refine⟨ob,sc.g.fr g (x g1) (x g2),sc.gB.fr g (x g2),sc.k.frS g (x g3) (x g4),sc.gS.fr g (x g4),sc.lo.frS g (Oth.own o0 oM (fJ (n:=2) h5)) (x g5) (fun q e=>x (g6 q e)),sc.len,?_,⟨g1,g2,g3,g4,g5,d.g1,d.g2,d.g3,d.t1,d.t2,d.t3,d.m1,d.m2,fun q e=>⟨(g6 q e).symm,(d.p q e).2⟩⟩,by have:=sc.Sl';omega,fun q e=>by have:=sc.pl q e;omega,by have:=sc.bl';omega,fun z q=>by have:=n0l z q;omega⟩;intro Z2 h4 ak f2;refine s.rd ((Z++[b])++Z2) h4 (fun z m=>?_) (Sj (Sj f g w (fun x m=>.inl (pi.2 (.inl m))) (fun x m=>.inl (pi.2 (.inr m)))) f2 w (fun x m=>.inl (pi.2 (.inl m))) (fun x m=>.inl (pi.2 (.inr m))));have bW:b∈Wr b bg B bm S bl pm:=by simp[Wr]
 obtain m|m:=pi.1 m;obtain m|m:=pi.1 m;exact(hZ z m).imp id .inl;rw[Su.1 m];exact .inl bW;obtain q|q|q:=ak z m;have:z=b\/z∈Wr c K B' ac S' bl' ae:=by simp only[Wr,pi,Sk,SH,or_false]at q|-;obtain(q|q)|q:=q;exact .inl q;exact .inr (.inl (.inr q));exact .inr (.inr q)
 obtain e|e:=this;exact .inl (e▸bW);obtain q|q:=ge z e;exact .inr (.inl q);exact .inr (.inr (q▸af));exact .inr (.inl oM);exact .inr (.inr q)
structure Nt where
 n:Ntc
 v:V
def Nt.cells(x:Nt):List V:=[ZY (x.n.k:Int),ZZ x.n.a,ZZ x.n.c,ZZ x.n.t,x.v]
theorem pJ(x:Nt):x.cells.length=5:=rfl
def NV(W:Nat->Prop)(h:Heap)(v:V)(L:List Nt):Prop:=(∀(Z:List Nat)(h':Heap),(∀z∈Z,W z\/h.next<=z)->Fr Z h h'->ARecs Nt.cells 5 h' v L)/\∀x∈L,SV W h x.v x.n.Y/\x.n.k<256/\i64 x.n.a/\i64 x.n.c/\i64 x.n.t
theorem WZ.fr{W:Nat->Prop}{h:Heap}(f:Fr [] h h'):WZ W h h':=⟨[],iS,f⟩
theorem WZ.trans{W W':Nat->Prop}{h K:Heap}(w:WF h)(a:WZ W h K)(b:WZ W' K h2)(i:∀y,W' y->W y\/h.next<=y):WZ W h h2:=by let⟨Z,hZ,f⟩:=a;let⟨Z',hZ',f'⟩:=b;have n:=f.next;refine⟨Z++Z',fun z m=>?_,Sj f f' w (fun x m=>.inl (pi.2 (.inl m))) (fun x m=>.inl (pi.2 (.inr m)))⟩;obtain m|m:=pi.1 m;exact hZ z m;grind
theorem SV.on{W W':Nat->Prop}{h:Heap}{v:V}{Y:List Itm}(s:SV W h v Y)(w:WF h)(f:WZ W h h')(i:∀y,W' y->W y\/h.next<=y):SV W' h' v Y:=by let⟨Z0,hZ0,f⟩:=f;have n:=f.next;intro Z K hZ f2;refine s (Z0++Z) K (fun z m=>?_) (Sj f f2 w (fun x m=>.inl (pi.2 (.inl m))) (fun x m=>.inl (pi.2 (.inr m))));obtain m|m:=pi.1 m;exact hZ0 z m;grind
theorem NV.on{W W':Nat->Prop}{h:Heap}{v:V}{L:List Nt}(s:NV W h v L)(w:WF h)(f:WZ W h h')(i:∀y,W' y->W y\/h.next<=y):NV W' h' v L:=by refine⟨?_,fun x m=>⟨(s.2 x m).1.on w f i,(s.2 x m).2⟩⟩;let⟨Z0,hZ0,f⟩:=f;have n:=f.next;intro Z K hZ f2;refine s.1 (Z0++Z) K (fun z m=>?_) (Sj f f2 w (fun x m=>.inl (pi.2 (.inl m))) (fun x m=>.inl (pi.2 (.inr m))));obtain m|m:=pi.1 m;exact hZ0 z m;grind
def dR(L:List Nt):Nat:=(L.map fun x=>x.n.Y.length).sum
def jH(Ks:List Knd):List Nt->Nat->List Ent->Nat×Int×List Ent
 |[],i,E=>(i,0,E)
 |x::r,i,E=>if apX Ks x.n E=0 then jH Ks r (i+1) (apL Ks x.n E)else(i,apX Ks x.n E,E)
theorem BU{Ks:List Knd}(r:RK Ks):∀(L:List Nt)(i:Nat)(E:List Ent),LV Ks E→LV Ks (jH Ks L i E).2.2∧(jH Ks L i E).2.2.length≤E.length+dR L∧(jH Ks L i E).1≤i+L.length
 |[],_,_,o=>⟨o,by simp[jH,dR],by simp[jH]⟩
 |x::L,i,E,o=>by simp only[jH];split;let⟨h1,h2,h3⟩:=BU r L (i+1) (apL Ks x.n E) (xI r o);have:=qM (Ks:=Ks) (n:=x.n) (E:=E);simp only[dR,List.map_cons,List.sum_cons,List.length_cons]at h2⊢;exact⟨h1,oM,oM⟩;grind
theorem CC{x:Nt}{L:List Nt}:dR (x::L)=x.n.Y.length+dR L:=by simp[dR]
theorem pz{L:List Nt}{i:Nat}{x:Nt}(e:L[i]? =some x):dR (L.drop i)=x.n.Y.length+dR (L.drop (i+1)):=by rw[aK e,CC]
theorem HH{L:List Nt}(i:Nat):dR (L.drop i)<=dR L:=by
 have:dR L=dR (L.take i)+dR (L.drop i):=by unfold dR;rw[<-Vn,<-SF,SB]
 omega
theorem Nt.one{W:Nat->Prop}{h:Heap}{x:Nt}(w:WF h)(s:SV W h x.v x.n.Y):au x.cells=true:=by have:=VB (s [] h iS (Sn w)).1;show au [_,_,_,_,_]=true;simp only[av,aB,this];rfl
def SWD(n0:NL)(D:Nat)(W:Nat->Prop)(C:Nat)(Ks:List Knd)(h:Heap)(b:Nat)(E:List Ent):Prop:=∃K X st vK bg B bm S bl pm mc,Sto n0 h b K 12 X (E.map Ent.b) (E.map Ent.kn) st vK bg B bm S bl pm mc/\bU Ks K/\X.map Itm.val=E.map (fun e=>e.x.val)/\IxL mc.1 (aQ E)/\mc.2<=C/\(∀y∈Wr b bg B bm S bl pm,W y)/\Lx n0 D/\D∉Wr b bg B bm S bl pm
def alE(Ks:List Knd)(L:List Nt)(E:List Ent):Nat×Int×List Ent:=if 32<L.length then(0,3,E)else if(jH Ks L 0 E).2.1=0 then jH Ks L 0 E else((jH Ks L 0 E).1,(jH Ks L 0 E).2.1,E)
theorem D4{W:Nat->Prop}{D:Nat}{h:Heap}{b:Nat}{v:V}{L:List Nt}(w:WF h)(s:SWD n0 D W C Ks h b E)(o:LV Ks E)(r:RK Ks)(hl:E.length+dR L<=1000)(hL:L.length<=4096)(hC:C+dR L+1024<=4096)(nv:NV W h v L)(gD:Good h D):
 ao go 23 [.ptr b 0,v] h fun u h'=>u=.tup [ZZ ((alE Ks L E).1:Int),ZZ (alE Ks L E).2.1]/\WZ W h h'/\SW n0 (fun z=>W z\/h.next<=z\/z=D) (C+dR L) Ks h' b (alE Ks L E).2.2:=by
 let⟨K,X,st,vK,bg,B,bm,S,bl,pm,mc,s,sk,ev,ix,hcc,hW,hDn,hDW⟩:=s;have s0:SW n0 (fun y=>y∈Wr b bg B bm S bl pm) C Ks h b E:=⟨K,X,st,vK,bg,B,bm,S,bl,pm,mc,s,sk,ev,ix,hcc,fun y m=>m⟩;have lx:X.length=E.length:=by have:=congrArg List.length ev;simpa using this
 have v1:vK.one=true:=TI (s.rd [] h iS (Sn w)).1;have nl:=(nv.1 [] h iS (Sn w)).len;have up:∀{C' h' L'},SW n0 (fun y=>y∈Wr b bg B bm S bl pm\/h.next<=y) C' Ks h' b L'->C'<=C+dR L->SW n0 (fun z=>W z\/h.next<=z\/z=D) (C+dR L) Ks h' b L':=fun s q=>s.mono (fun y z=>z.imp (hW y) .inl) q;unfold alE;by_cases an:32<L.length;rw[if_pos an];refine ag ?_;simp only[evs,↓reduceIte,Nat.reduceEqDiff,Nat.reduceAdd];refine aa (iA s) ?_;rintro _ _ ⟨rfl,rfl⟩;simp only[evs,↓reduceIte,Nat.reduceEqDiff,nl,(oM:(32:Int)<L.length)];exact⟨rfl,WZ.fr (Sn w),s0.mono (fun y m=>.inl (hW y m)) oM⟩;rw[if_neg an];refine ag ?_;simp only[evs,↓reduceIte,Nat.reduceEqDiff,Nat.reduceAdd];refine aa (iA s) ?_;rintro _ _ ⟨rfl,rfl⟩;simp only[evs,↓reduceIte,Nat.reduceEqDiff,nl,(oM:¬(32:Int)<L.length)];apply aa (yg w s v1 oM gD hDW hDn);rintro _ h1 ⟨F1,c,af,B',ae,S',bl',aH,rfl,ge,a4,a1⟩;have n1:=F1.next;simp only[evs,↓reduceIte,Nat.reduceEqDiff,nl];refine aC (fun k env hh=>WZ (fun y=>y∈Wr b bg B bm S bl pm) h1 hh/\∃(i:Nat)(E':List Ent),env.get 19=some (ZZ i)/\env.get 18=some (ZZ L.length)/\env.get 17=some v/\env.get 0=some (.ptr b 0)/\env.get 1=some v/\env.get 6=some (.ptr c 0)/\i<=L.length/\
  SW n0 (fun y=>y∈Wr b bg B bm S bl pm\/h1.next<=y) (C+dR L-dR (L.drop i)) Ks hh b E'/\LV Ks E'/\E'.length+dR (L.drop i)<=1000/\jH Ks (L.drop i) i E'=jH Ks L 0 E/\k=L.length-i) L.length oM ?_ ?_
 exact⟨WZ.fr (Sn F1.wf),0,E,iS,iS,iS,iS,iS,iS,oM,(s0.fr w F1).mono (fun y m=>.inl m) iS,o,hl,rfl,rfl⟩;rintro k env hh ⟨F,i,E',ak,ax,a0,g0,g1,g6,hi,sw,o',a3,em,rfl⟩;let⟨Zf,hZf,Fz⟩:=id F;have nz:=Fz.next;have F0:WZ (fun y=>y∈Wr b bg B bm S bl pm) h hh:=WZ.pre w F1 F;have az:NV (fun y=>y∈Wr b bg B bm S bl pm\/h1.next<=y) hh v L:=nv.on (W':=fun y=>y∈Wr b bg B bm S bl pm\/h1.next<=y) w (by
  let⟨Z,hZ,f⟩:=F0;exact⟨Z,fun z m=>(hZ z m).imp (hW z) id,f⟩) (fun y q=>q.imp (hW y) fun q=>by omega)
 have rv:=az.1 [] hh iS (Sn Fz.wf);by_cases ci:i<L.length;let⟨bi,oi,x,p1,_,p3,p4⟩:=rv.ix pJ .i64 (i:Int) oM oM;rw[RX]at p4;let⟨sx,x1,x2,x3,x4⟩:=az.2 x (RZ p4);let⟨h3,e_h3,F_h3,o_h3⟩:=aq Fz.wf [ZY 0,ZZ 0,ZZ 0,ZZ 0,.nils];have n3:=hnx e_h3;simp only[evs,↓reduceIte,Nat.reduceEqDiff,ak,ax,a0,(oM:(i:Int)<L.length),p1,p3,<-e_h3];refine ai (c':=x.cells) F_h3.wf o_h3 rfl (Nt.one Fz.wf sx) rfl ?_;rintro h4 o4 F4 n4;have ac:Fr [] hh h4:=F_h3.fresh F4 Fz.wf (RW _);have l5:aj h4 hh.next 0 5=some x.cells:=by rw[o4.ld];rfl
 have td:=pz p4;have tl:=HH (L:=L) i;simp only[evs,↓reduceIte,Nat.reduceEqDiff,g0,l5];apply aa (A5 (n:=x.n) ac.wf (sw.fr Fz.wf ac) o' r x1 x2 x3 x4 oM oM (sx.fr Fz.wf ac));rintro _ h5 ⟨rfl,F5,s5⟩;have a2:=ac.next;have ay:WZ (fun y=>y∈Wr b bg B bm S bl pm) h1 h5:=WZ.trans F1.wf F (WZ.pre Fz.wf ac F5) (fun y q=>q);have ed:=aK p4;rw[ed]at em;simp only[jH]at em;by_cases z:apX Ks x.n E'=0;rw[if_pos z]at em;have al:=qM (Ks:=Ks) (n:=x.n) (E:=E');simp(disch:=omega) only[evs,↓reduceIte,Nat.reduceEqDiff,ah,ak,eq_true z];refine rqn ⟨L.length-(i+1),oM,ay,i+1,apL Ks x.n E',iS,iX,iX,iX,iX,iX,oM,s5.mono (fun y q=>?_) oM,xI r o',oM,em,rfl⟩;obtain q|q:=q;exact q;exact .inr oM;rw[if_neg z]at em;rw[<-em,if_neg z];let⟨Z5,hZ5,f5⟩:=ay;have sc:=a1 Z5 h5 hZ5 f5;have lc:aj h5 c 0 5=some [vK,ZZ 12,.ptr af 0,.ptr ae 0,.ptr bl' 0]:=by rw[sc.ob.ld];rfl
 let⟨K',X',st',vK',bg2,B2,bm2,S2,bl2,pm2,mc2,s5',_⟩:=s5;simp only[evs,↓reduceIte,Nat.reduceEqDiff,g0,g6,eq_false z,lc];refine ai (c':=[vK,ZZ 12,.ptr af 0,.ptr ae 0,.ptr bl' 0]) f5.wf s5'.ob rfl (by show au [_,_,_,_,_]=true;simp only[av,aB,v1];rfl) rfl ?_;rintro h6 o6 F6 n6;have ar:Fr Z5 h h5:=Sj F1 f5 w iS (fun x m=>.inl m);have bW:b∈Wr b bg B bm S bl pm:=by simp[Wr]
 have sr:=s.restore w ar (fun z m=>(hZ5 z m).imp id fun q=>by omega) sc ge hDW hDn s5'.ob rfl F6 o6;simp only[evs,↓reduceIte,Nat.reduceEqDiff];refine⟨⟨Z5++[b],fun z m=>?_,Sj ar F6 w (fun x m=>.inl (pi.2 (.inl m))) (fun x m=>.inl (pi.2 (.inr m)))⟩,K,X,st,vK,af,B',ae,S',bl',aH,mc,sr,sk,ev,ix,oM,fun y m=>?_⟩;obtain m|m:=pi.1 m;exact(hZ5 z m).imp (hW z) fun q=>by omega
 rw[Su.1 m];exact .inl (hW _ bW);have:y=b\/y∈Wr c af B' ae S' bl' aH:=by simp only[Wr,pi,Sk,SH,or_false]at m|-;obtain(m|m)|m:=m;exact .inl m;exact .inr (.inl (.inr m));exact .inr (.inr m)
 obtain e|e:=this;exact .inl (e▸hW _ bW);exact .inr (ge y e);have e:i=L.length:=oM;subst e;rw[Ua]at em;simp only[jH]at em;rw[<-em];simp only[evs,↓reduceIte,Nat.reduceEqDiff,ak,ax,g1,(oM:¬(L.length:Int)<L.length),rv.len];let⟨Z,hZ,f⟩:=F0;exact⟨⟨Z,fun z m=>(hZ z m).imp (hW z) id,f⟩,up (sw.mono (fun y q=>q.imp id fun q=>by omega) (Nat.sub_le _ _)) (RW _)⟩
theorem iP{h:Heap}{a c:Int}{n:Nat}(ha:i64 a)(hc:i64 c)(hn:n<=4096):ao go 124 [ZZ a,ZZ c,ZZ (n:Int)] h fun u h'=>u=.bool (decide (¬bN n a c))/\h=h':=by let⟨a0,a1⟩:=ha;let⟨b0,b1⟩:=hc;unfold bN;by_cases c1:0<=a;by_cases c2:a<=n;by_cases Z:0<=c;by_cases K:c<=(n:Int)-a;refine ag ?_;simp(disch:=omega) only[evs,seval,ah,c1,c2,Z,K];simp;omega;refine ag ?_;simp(disch:=omega) only[evs,seval,ah,c1,c2,Z,K];simp;omega;refine ag ?_;simp only[evs,seval,c1,c2,Z];simp;omega;refine ag ?_;simp only[evs,seval,c1,c2];simp;omega;refine ag ?_;simp only[evs,seval,c1];simp;omega
theorem xD{h:Heap}{b N len n e bytes:Nat}{c:List V}{x:V}{K:V->Heap->Prop}(w:WF h)(o:Own h b c)(hc:c.length=N*e)(a:ASl h e x n xs)(h1:au xs=true)(Z:len+n<=N)
 (k:∀h',Own h' b (c.take (len*e)++xs++c.drop ((len+n) *e))->Fr [b] h h'->h'.next=h.next->K (.slice b 0 (len+n) N) h'):OQ (jQ h e bytes (.slice b 0 len N) x) K:=by
 let⟨s1,s2,_⟩:=a.src rfl;have hx:=a.1;unfold jQ;rw[s1];simp only[];by_cases c0:n=0;subst c0;have:xs=[]:=SC.1 oM;subst this;rw[kN rfl,cond_true];exact(cL _ _ _).2 (k h (eV o) (Sn w) rfl);rw[eP c0,cond_false,s2];simp only[];rw[(Uv ..).mpr Z,cond_true];have hm:(len+n) *e<=N*e:=Ti _ Z;rw[Us]at hm;let⟨h',e1,o1,f1,n1⟩:=gH w o h1 (bQ c (0+len*e) xs oM);rw[e1];simp only[Sx];rw[Tj,hx,<-Us]at o1;exact(cL _ _ _).2 (k h' o1 f1 n1)
theorem gU{h:Heap}:∀{E:List Ent},(∀e∈E,ItmH h e.x)->au (E.flatMap Ent.cells)=true
 |[],_=>rfl
 |e::E,a=>by rw[SL,aL,iC (a e iS),gU fun x m=>a x iX];rfl
theorem iT{h:Heap}{vE vI:V}{E A:List Ent}{p q:Nat}(w:WF h)(re:Recs Ent.cells 6 h vE E)(ra:Recs Ent.cells 6 h vI A)(hv:vE≠.sliceE)(oE:au (E.flatMap Ent.cells)=true)(oA:au (A.flatMap Ent.cells)=true)(hp:p+q≤E.length)(hE:E.length≤4096)(hA:A.length≤4096):
 ao go 126 [vE,.int .i64 (p:Int),.int .i64 (q:Int),vI] h fun u h'=>u=.slice h.next 0 (E.length-q+A.length) (E.length-q+A.length)∧Own h' h.next ((E.take p++A++E.drop (p+q)).flatMap Ent.cells)∧Fr [] h h':=by
 let⟨u1,e1,s1⟩:=Sl.upto re oM hv .i64 (p:Int) oM oM;rw[Int.toNat_natCast,dd aR]at s1;have ln:((E.length:Int)-q)+A.length=((E.length-q+A.length:Nat):Int):=oM;refine ag ?_;simp(disch:=omega) only[evs,seval,ah,re.len,ra.len,ln];refine(de _ _ _ _ _ _ _ _ oM oM oM oM).2 ?_;simp only[Int.toNat_natCast,(iR:(0:Int).toNat=0)];generalize hN:E.length-q+A.length=N;let⟨h1,e_h1,F1,o1⟩:=aq w (aU [.int .u64 0,.int .u8 0,.str [],.nils,.int .i64 0,.bool false] N);rw[←e_h1];have n1:=hnx e_h1;clear e_h1;simp only[evs,seval,e1];refine xD F1.wf o1 (cP _ _) (Sl.a (s1.fr F1)) (by rw[←dd aR];exact bL _ oE) oM ?_;intro h2 o2 F2 n2;have F02:Fr [] h h2:=Fr.new w F1 F2 iS;rw[Nat.zero_add,Nat.zero_mul,List.take_zero,List.nil_append]at o2;have l1:((E.take p).flatMap Ent.cells).length=p*6:=by rw[aJ aR];simp;omega
 simp only[evs,seval];have hc2:((E.take p).flatMap Ent.cells++(aU [V.int .u64 0,.int .u8 0,.str [],.nils,.int .i64 0,.bool false] N).drop (p*6)).length=N*6:=by rw[List.length_append,l1,List.length_drop,cP];simp;omega
 apply xD F2.wf o2 hc2 (Sl.a (Sl.fr ra F02)) oA oM;intro h3 o3 F3 n3;have F03:Fr [] h h3:=Fr.new w F02 F3 iS;have l2:(A.flatMap Ent.cells).length=A.length*6:=aJ aR _;have eq3:((E.take p).flatMap Ent.cells++(aU [V.int .u64 0,.int .u8 0,.str [],.nils,.int .i64 0,.bool false] N).drop (p*6)).take (p*6)=(E.take p).flatMap Ent.cells:=List.take_left' l1;rw[eq3]at o3;let⟨u3,e3,s3⟩:=Sl.from' (re.fr F03) oM hv .i64 ((p+q:Nat):Int) oM oM;rw[Int.toNat_natCast,bJ aR]at s3;simp(disch:=omega) only[evs,seval,ah,(oM:(p:Int)+q=((p+q:Nat):Int)),e3];generalize hd:((E.take p).flatMap Ent.cells++(aU [V.int .u64 0,.int .u8 0,.str [],.nils,.int .i64 0,.bool false] N).drop (p*6)).drop ((p+A.length) *6)=R at o3;have hR:R.length=N*6-(p+A.length) *6:=by grind
 refine xD F3.wf o3 (by rw[List.length_append,List.length_append,l1,l2,hR];omega) (Sl.a s3) (by rw[←bJ aR];exact bq _ oE) oM ?_;intro h4 o4 F4 n4;simp only[evs,seval];have lA:((E.take p).flatMap Ent.cells++A.flatMap Ent.cells).length=(p+A.length) *6:=by grind
 have hz:((E.take p).flatMap Ent.cells++A.flatMap Ent.cells++R).drop ((p+A.length+(E.length-(p+q))) *6)=[]:=List.drop_of_length_le (by rw[List.length_append,lA,hR];omega);rw[List.take_left' lA,hz,List.append_nil,←List.flatMap_append,←List.flatMap_append]at o4;exact⟨by rw[(oM:p+A.length+(E.length-(p+q))=N)],o4,Fr.new w F03 F4 iS⟩
theorem Fu{h:Heap}{v:V}{Y:List Itm}(w:WF h)(rk:Recs Knd.cells 9 h vK Ks)(ra:ARecs Itm.cells 4 h v Y)(hY:∀y∈Y,ItmH h y/\y.type<Ks.length)(hn:Y.length<=4096):
 ao go 194 [.agg [vK,ZZ 12],v] h fun u h'=>∃b,u=.slice b 0 Y.length Y.length/\h.next<=b/\Own h' b ((aM Ks Y).flatMap Ent.cells)/\Fr [] h h':=by
 have v1:vK.one=true:=TI rk;let⟨h1,e_h1,F_h1,o_h1⟩:=aq w [vK,ZZ 12];have n1:=hnx e_h1;refine ag ?_;simp only[evs,seval,<-e_h1,(ra.fr F_h1).len];refine(de _ _ _ _ _ _ _ _ oM oM oM oM).2 ?_;simp only[RX];let⟨h2,e_h2,F2,o2⟩:=aq F_h1.wf (aU [ZX 0,ZY 0,.str [],.nils,ZZ 0,.bool false] Y.length);rw[<-e_h2];have n2:=hnx e_h2;clear e_h2;have af:=F_h1.then F2;simp only[evs,seval,(ra.fr F_h1).len];refine aC (fun n env hh=>Fr [h1.next] h2 hh/\∃i:Nat,env.get 13=some (ZZ i)/\env.get 12=some (ZZ Y.length)/\env.get 11=some v/\env.get 5=some (.slice h1.next 0 Y.length Y.length)/\env.get 2=some (.ptr h.next 0)/\
  i<=Y.length/\Own hh h1.next ((aM Ks (Y.take i)).flatMap Ent.cells++aU E0 (Y.length-i))/\n=Y.length-i) Y.length oM ?_ ?_
 exact⟨Sn F2.wf,0,iS,iS,iS,iS,iS,oM,o2,rfl⟩;rintro n env hh ⟨F,i,K,ac,ak,g5,g2,hi,oo,rfl⟩;have F0:Fr [] h hh:=TL w af F oO;have nF:=F.next;by_cases c:i<Y.length;let⟨bi,oi,y,p1,_,p3,p4⟩:=(ra.fr F0).ix aZ .i64 (i:Int) oM oM;rw[RX]at p4;let⟨ay,ty⟩:=hY y (RZ p4);have ay:=ay.fr F0;let⟨h3,e_h3,F_h3,o_h3⟩:=aq F.wf [ZX 0,ZY 0,.str [],.nils];simp only[evs,seval,K,ac,ak,(oM:(i:Int)<Y.length),p1,p3,<-e_h3];refine ai (c':=y.cells) F_h3.wf o_h3 rfl ay.one rfl ?_;rintro h4 o4 F4 n4;have Z:Fr [] hh h4:=F_h3.fresh F4 F.wf (RW _);have ae:=F0.then Z;have y4:aj h4 hh.next 0 4=some y.cells:=by rw[o4.ld];rfl
 have y1:ab h4 hh.next 1=some (ZY (y.type:Int)):=o4.ld1 1;have k0:ab h4 h.next 0=some vK:=(Z.get (F.own _ _ oO (F2.get o_h1))).ld1 0;let⟨bk,ok',q,q1,q2,q3,q4⟩:=Vi eM (TK rk ae) .u8 (y.type:Int) oM oM;rw[RX]at q4;have q6:ab h4 bk (ok'+6)=some (ZZ q.base):=q2 6 oM;have eb:aF Ks y=q.base:=by simp[aF,q4]
 have px:aP (.ixs 6) [.slice h1.next 0 Y.length Y.length,ZZ (i:Int)]=some (.ptr h1.next (i*6)):=by rw[gw _ _ _ _ _ _ _ oM oM];simp
 have u1:bu [ZX 0,ZY 0,.str [],.nils,ZZ 0,.bool false] 0 y.cells=some (y.cells++[ZZ 0,.bool false]):=rfl;have u2:∀b:Int,bu (y.cells++[ZZ 0,.bool false]) 4 [ZZ b]=some (Ent.cells ⟨y,b,false⟩):=fun _=>rfl;have yl:y.cells.length=4:=rfl;simp only[evs,seval,eff,g5,g2,y4,y1,k0,q1,q6,px,u1,u2,yl];refine ai (v:=.agg (Ent.cells ⟨y,q.base,false⟩)) Z.wf (Z.get oo) rfl (iC (ay.fr Z)) (sM (by simp[aM];omega) c) ?_;rintro h5 o5 F5 n5;simp(disch:=omega) only[evs,seval,DF,ah,K,y4,y1,k0,q6];have et:aM Ks (Y.take (i+1))=aM Ks (Y.take i)++[⟨y,q.base,false⟩]:=by rw[aM,aM,Sr,p4,SF,<-eb];rfl
 refine rqn ⟨Y.length-(i+1),oM,Sj (Sj F Z F2.wf (fun x m=>.inl m) iS) F5 F2.wf (fun x m=>.inl m) (fun x m=>.inl m),i+1,iS,iX,iX,iX,iX,oM,by rw[et];exact o5,rfl⟩;have e:i=Y.length:=oM;subst e;simp only[evs,seval,K,ac,g5,(oM:¬(Y.length:Int)<Y.length)];have z0:aU E0 (Y.length-Y.length)=[]:=by rw[TN];rfl
 rw[z0,Tq,Sf (RW _)]at oo;exact⟨h1.next,rfl,oM,oo,F0⟩
theorem zo{h:Heap}{b n e:Nat}{c:List V}{x:V}{K:V->Heap->Prop}(w:WF h)(o:Own h b c)(hc:c.length=n*e)(a:ASl h e x n xs)(h1:au xs=true)
 (k:∀h',Own h' b xs->Fr [b] h h'->h'.next=h.next->K (ZZ (n:Int)) h'):OQ (mB h e (.slice b 0 n n) x) K:=by
 let⟨s1,s2,_⟩:=a.src rfl;have hx:=a.1;unfold mB OQ;have hd:gW (.slice b 0 n n)=some n:=rfl;simp only[hd,s1,Nat.min_def,RW,seval];by_cases Z:n=0;subst Z;have:xs=[]:=SC.1 oM;have:c=[]:=SC.1 oM;subst xs c;exact⟨_,_,rfl,k h o (Sn w) rfl⟩;rw[eP Z];let⟨h',e1,o1,f1,n1⟩:=gH w o h1 (bQ c 0 xs oM);refine⟨_,h',?_,k h' ?_ f1 n1⟩;grind;grind
theorem EF:∀L:List Str,au (L.flatMap sS)=true
 |[]=>rfl
 |s::L=>by rw[SL,aL,EF L];rfl
theorem FC{h:Heap}{v:V}{L:List Str}(w:WF h)(a:ARecs sS 1 h v L)(hn:L.length<=4096):ao go 275 [v] h fun u h'=>CpO h.next h' u L/\Fr [] h h':=by by_cases c:L.length=0;refine ag ?_;simp only[evs,seval,a.len,eq_true (oM:(L.length:Int)=0)];exact⟨.inl ⟨SC.1 c,.inl rfl⟩,Sn w⟩;refine ag ?_;simp only[evs,seval,a.len,eq_false (oM:¬(L.length:Int)=0)];refine(de _ _ _ _ _ _ _ _ oM oM oM oM).2 ?_;simp only[RX];let⟨h1,e_h1,Z,o1⟩:=aq w (aU [.str []] L.length);rw[<-e_h1];clear e_h1;simp only[evs,seval];apply zo Z.wf o1 (cP _ _) (a.fr Z) (EF L);intro h2 o2 K n2;simp only[evs,seval];exact⟨.inr ⟨h.next,rfl,RW _,o2⟩,TL w Z K iS⟩
theorem Dc{h:Heap}{b:Nat}{x:Itm}(w:WF h)(o:Own h b x.cells)(a:ItmH h x):ao go 274 [.slice b 0 1 1] h fun u h'=>u=.slice h.next 0 1 1/\Own h' h.next x.cells/\Fr [] h h':=by refine ag ?_;simp only[evs,↓reduceIte,Nat.reduceEqDiff];refine(de _ _ _ _ _ _ _ _ oM oM oM dI).2 ?_;let⟨h1,e_h1,F1,o1⟩:=aq w (aU Z4 1);rw[(iR:((1:Nat):Int).toNat=1),<-e_h1];clear e_h1;simp only[evs,↓reduceIte,Nat.reduceEqDiff];apply zo F1.wf o1 rfl (Sl.a (TH (F1.get o) rfl)) a.one;intro h2 o2 Z K;simp only[evs,↓reduceIte];exact⟨o2,TL w F1 Z iS⟩
theorem FY{h:Heap}{b:Nat}{x:Itm}(w:WF h)(o:Own h b x.cells)(a:ItmH h x):ao go 244 [.slice b 0 1 1] h fun u h'=>∃b' v,u=.slice b' 0 1 1/\h.next<=b'/\Own h' b' (x.own v).cells/\CpO h.next h' v x.marks/\Fr [] h h':=by refine ag ?_;simp only[evs,seval];refine aa (Dc w o a) ?_;rintro _ h1 ⟨rfl,o1,Z⟩;have ae:=o1.lt Z.wf;simp only[evs,seval];refine aC (fun k env K=>∃v,Fr [h.next] h1 K/\env.get 8=some (ZZ 1)/\env.get 3=some (.slice h.next 0 1 1)/\((env.get 9=some (ZZ 0)/\k=1/\K=h1)\/(env.get 9=some (ZZ 1)/\k=0/\Own K h.next (x.own v).cells/\CpO h.next K v x.marks))) 1 oM ?_ ?_;exact⟨.nils,Sn Z.wf,iS,iS,.inl ⟨iS,rfl,rfl⟩⟩;rintro k env K ⟨v,F,g8,g3,⟨g9,rfl,rfl⟩|⟨g9,rfl,ow,cp⟩⟩;have px:aP (.ixs 4) [.slice h.next 0 1 1,ZZ 0]=some (.ptr h.next 0):=rfl;have l3:ab K h.next 3=some x.vm:=o1.ld1 3;simp only[evs,seval,g8,g3,g9,px,l3];apply aa (FC Z.wf (a.m.fr Z) a.n);rintro v' h2 ⟨cp,F2⟩;simp only[evs,seval,g3,px];have n1:=Z.next;have c1:=cp.one;refine ai (c':=(x.own v').cells) F2.wf (F2.get o1) (by rw[aw c1];rfl) (by rw[aw c1];simp only[av,aB,c1];rfl) (by rw[aw c1];rfl) ?_;rintro h3 o3 F3 n3;simp(disch:=omega) only[evs,seval,ah,g9];have n2:=F2.next;have ac:=cp.fr F3 oO;refine rqn ⟨0,oM,v',Sj F2 F3 Z.wf iS (fun x m=>.inl m),iX,iX,.inr ⟨iS,rfl,o3,ac.le oM⟩⟩;simp only[evs,seval,g8,g3,g9];exact⟨h.next,v,rfl,RW _,ow,cp,TL w Z F iS⟩
theorem J2{h:Heap}{v:V}(w:WF h)(re:Recs Ent.cells 6 h v E)(hE:∀e∈E,ItmH h e.x)(hn:E.length<=4096):
 ao go 193 [v] h fun u h'=>Fr [] h h'/\∃v' Z,u=.agg [v']/\LsO h.next h' v' Z/\Z.map Ent.val=E.map Ent.val/\∀z∈Z,ItmH h' z.x:=by
 let⟨h1,e_h1,F_h1,o_h1⟩:=aq w [.nils];have n1:=hnx e_h1;by_cases c0:E.length=0;refine ag ?_;simp only[evs,seval,<-e_h1,re.len,eq_true (oM:(E.length:Int)=0)];refine ai (o:=0) (v:=.agg [.nils]) (c':=[.nils]) F_h1.wf o_h1 rfl rfl rfl ?_;rintro h2 o2 F2 n2;have l2:aj h2 h.next 0 1=some [.nils]:=by rw[o2.ld];rfl
 simp only[evs,seval,l2];have:E=[]:=SC.1 c0;subst this;exact⟨F_h1.fresh F2 w (RW _),.nils,[],rfl,.inl ⟨rfl,rfl⟩,rfl,iS⟩;refine ag ?_;simp only[evs,seval,<-e_h1,re.len,eq_false (oM:¬(E.length:Int)=0)];refine(de _ _ _ _ _ _ _ _ oM oM oM oM).2 ?_;simp only[RX];let⟨h2,e_h2,F2,o2⟩:=aq F_h1.wf (aU [ZX 0,ZY 0,.str [],.nils,ZZ 0,.bool false] E.length);rw[<-e_h2];have n2:=hnx e_h2;clear e_h2;have a1:=F_h1.then F2;simp only[evs,seval,re.len];refine aC (fun k env hh=>Fr [h1.next] h2 hh/\∃(i:Nat)(Z:List Ent),env.get 15=some (ZZ i)/\env.get 14=some (ZZ E.length)/\env.get 13=some v/\env.get 3=some (.slice h1.next 0 E.length E.length)/\env.get 2=some (.ptr h.next 0)/\i<=E.length/\Z.length=i/\
  Own hh h1.next (Z.flatMap Ent.cells++aU E0 (E.length-i))/\Z.map Ent.val=(E.take i).map Ent.val/\(∀z∈Z,CpO h2.next hh z.x.vm z.x.marks/\∀H,CpO h2.next H z.x.vm z.x.marks->ItmH H z.x)/\k=E.length-i) E.length oM ?_ ?_
 exact⟨Sn F2.wf,0,[],iS,iS,iS,iS,iS,oM,rfl,o2,rfl,iS,rfl⟩;rintro k env hh ⟨F,i,Z,ak,ax,ay,g3,g2,hi,zl,oo,zv,zi,rfl⟩;have nF:=F.next;have af:Fr [] h hh:=TL w a1 F oO;have a3:Own hh h.next [.nils]:=F.own _ _ oO (F2.get o_h1);by_cases c:i<E.length;let⟨bi,oi,e,p1,_,p3,p4⟩:=(re.fr af).ix aR .i64 (i:Int) oM oM;rw[RX]at p4;have em:=RZ p4;have ae:=(hE e em).fr af;let⟨ha,e_ha,F_ha,o_ha⟩:=aq F.wf [ZX 0,ZY 0,.str [],.nils,ZZ 0,.bool false];have na:=hnx e_ha;simp only[evs,seval,ak,ax,ay,(oM:(i:Int)<E.length),p1,p3,<-e_ha];refine ai (c':=e.cells) F_ha.wf o_ha rfl (iC ae) rfl ?_;rintro hb ob Fb nb;have an:Fr [] hh hb:=F_ha.fresh Fb F.wf (RW _);have b4:aj hb hh.next 0 4=some e.x.cells:=by rw[ob.ld];rfl
 have az:=ae.fr an;have u1:bu [ZX 0,ZY 0,.str [],.nils] 0 e.x.cells=some e.x.cells:=rfl;let⟨hc,e_hc,F_hc,o_hc⟩:=aq Fb.wf e.x.cells;have nc:=hnx e_hc;simp only[evs,seval,b4,u1,(iR:e.x.cells.length=4),<-e_hc];apply aa (FY F_hc.wf o_hc (az.fr F_hc));rintro _ hd ⟨b',K,rfl,a6,od,cp,Fd⟩;have px:aP (.ixs 4) [.slice b' 0 1 1,ZZ 0]=some (.ptr b' 0):=rfl;have aH:aj hd b' 0 4=some (e.x.own K).cells:=by rw[od.ld];rfl
 have v1:=cp.one;have ar:=F_hc.then Fd;have nd:=Fd.next;have on:au (e.x.own K).cells=true:=by rw[eY];simp only[av,aB,v1];rfl
 have yl:(e.x.own K).cells.length=4:=rfl;have up:bu e.cells 0 (e.x.own K).cells=some (Ent.cells ⟨e.x.own K,e.b,e.kn⟩):=rfl;simp only[evs,seval,px,aH];apply ai (v:=.agg (e.x.own K).cells) (c':=Ent.cells ⟨e.x.own K,e.b,e.kn⟩) Fd.wf (ar.get ob) yl on up;rintro he oe Fe ne;have l6:aj he hh.next 0 6=some (Ent.cells ⟨e.x.own K,e.b,e.kn⟩):=by rw[oe.ld];rfl
 have py:aP (.ixs 6) [.slice h1.next 0 E.length E.length,ZZ (i:Int)]=some (.ptr h1.next (i*6)):=by rw[gw _ _ _ _ _ _ _ oM oM];simp
 have ac:Fr [] hh he:=(an.then ar).fresh Fe F.wf (RW _);have one:au (Ent.cells ⟨e.x.own K,e.b,e.kn⟩)=true:=by show au [ZX (e.x.key:Int),ZY (e.x.type:Int),.str e.x.text,K,ZZ _,.bool _]=true;simp only[av,aB,v1];rfl
 simp only[evs,seval,g3,l6,py];apply ai (v:=.agg (Ent.cells ⟨e.x.own K,e.b,e.kn⟩)) Fe.wf (ac.get oo) rfl one (sM zl c);rintro hf a0 Ff nf;have a5:=ac.next;have a7:=an.next;have FN:Fr [h1.next] h2 hf:=Sj (Sj (T:=[h1.next]) F ac F2.wf (fun x m=>.inl m) iS) Ff F2.wf (fun x m=>.inl m) (fun x m=>.inl m);have a4:∀z∈Z++[(⟨e.x.own K,e.b,e.kn⟩:Ent)],CpO h2.next hf z.x.vm z.x.marks/\∀H,CpO h2.next H z.x.vm z.x.marks->ItmH H z.x:=by intro z m;obtain m|m:=pi.1 m;let⟨c1,c2⟩:=zi z m;exact⟨(c1.fr ac iS).fr Ff oO,c2⟩;rw[Su.1 m];exact⟨((cp.fr Fe oO).le (M:=h2.next) oM).fr Ff oO,fun H c=>⟨ae.k,ae.t,Sl.a c.rs,ae.n,ae.l⟩⟩
 simp(disch:=omega) only[evs,seval,ah,ak];refine rqn ⟨E.length-(i+1),oM,FN,i+1,Z++[⟨e.x.own K,e.b,e.kn⟩],iS,iX,iX,iX,iX,oM,by simp[zl],a0,?_,a4,rfl⟩;rw[Sr,p4,SF,SF,zv];rfl;have e:i=E.length:=oM;subst e;rw[Sf oM]at zv;have z0:aU E0 (E.length-E.length)=[]:=by rw[TN];rfl
 rw[z0,Tq]at oo;simp only[evs,seval,ak,ax,g3,g2,(oM:¬(E.length:Int)<E.length)];apply ai (o:=0) (v:=.agg [.slice h1.next 0 E.length E.length]) (c':=[.slice h1.next 0 E.length E.length]) F.wf a3 rfl rfl rfl;rintro hz oz Fz nz;have lz:aj hz h.next 0 1=some [.slice h1.next 0 E.length E.length]:=by rw[oz.ld];rfl
 simp only[evs,seval,lz,g2];have a2:=Fz.own _ _ oO oo;have cz:∀z∈Z,CpO h2.next hz z.x.vm z.x.marks:=fun z m=>(zi z m).1.fr Fz oO;exact⟨af.fresh Fz w (RW _),_,Z,rfl,.inr ⟨h1.next,by rw[zl],oM,a2,fun z m=>(cz z m).le oM⟩,zv,fun z m=>(zi z m).2 hz (cz z m)⟩
end Go.Ev.Lay
