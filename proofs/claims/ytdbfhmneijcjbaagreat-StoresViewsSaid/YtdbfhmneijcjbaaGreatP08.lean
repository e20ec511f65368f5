/- An evaluator of the program, and contracts over it: StM to StaA. -/
import Derived.Laws.RangeString
import Derived.Laws.RangeAny
import Derived.Test.YtdbfhmneijcjbaaGreatP04
import Derived.Test.YtdbfhmneijcjbaaGreatP07
set_option linter.unusedSimpArgs false
set_option linter.unusedVariables false
set_option linter.constructorNameAsVariable false
set_option linter.unnecessarySimpa false
namespace Go.Ev.Lay
set_option maxRecDepth 4000
variable {h : Heap} {b B : Nat} {v : V} {c1 G c2 : List V} {a g m : Nat}
theorem DG{α:Type}{c1 G c2:List α}{p g a:Nat}(l1:c1.length=a*4)(lg:G.length=g*4)(hp:p≤a)(C1:List α)
 (e:C1=(c1++G++c2).take ((p+g) *4)++((c1++G++c2).drop (p*4)).take ((a-p) *4)++(c1++G++c2).drop ((p+g) *4+(a-p) *4)):
 C1.take (p*4)=c1.take (p*4)∧C1.drop (p*4+g*4)=c1.drop (p*4)++c2:=by
 have hl:(p+g) *4≤(c1++G++c2).length:=by simp;omega
 have h1:((c1++G++c2).take ((p+g) *4)).length=p*4+g*4:=by rw[List.length_take];omega
 have h2:((c1++G++c2).drop (p*4)).take ((a-p) *4)=c1.drop (p*4):=by
  rw[List.append_assoc,List.drop_append_of_le_length (by omega),List.take_append_of_le_length (by simp;omega)];exact List.take_of_length_le (by simp;omega)
 have h3:(c1++G++c2).drop ((p+g) *4+(a-p) *4)=c2:=by
  rw[show(p+g) *4+(a-p) *4=(c1++G).length by simp;omega];exact List.drop_left
 subst e;rw[h2,h3];refine⟨?_,?_⟩
 ·rw[List.append_assoc,List.take_append_of_le_length (by omega),List.take_take,Nat.min_eq_left (by omega),List.append_assoc,List.take_append_of_le_length (by omega)]
 ·generalize(c1++G++c2).take ((p+g) *4)=A at h1⊢;rw[←h1,List.append_assoc A];exact List.drop_left
theorem DD{α:Type}{c1 G c2:List α}{p g a m:Nat}(l1:c1.length=a*4)(lg:G.length=g*4)(l2:c2.length=m*4)(hp:a≤p)(hm:p≤a+m)(C1:List α)
 (e:C1=(c1++G++c2).take (a*4)++((c1++G++c2).drop ((a+g) *4)).take ((p+g-(a+g)) *4)++(c1++G++c2).drop (a*4+(p+g-(a+g)) *4)):
 C1.take (p*4)=c1++c2.take ((p-a) *4)∧C1.drop (p*4+g*4)=c2.drop ((p-a) *4):=by
 have h1:(c1++G++c2).take (a*4)=c1:=by rw[←l1,List.append_assoc];exact List.take_left
 have h2:((c1++G++c2).drop ((a+g) *4)).take ((p+g-(a+g)) *4)=c2.take ((p-a) *4):=by
  rw[show(a+g) *4=(c1++G).length by simp;omega,List.drop_left,show p+g-(a+g)=p-a by omega]
 have h3:(c1++c2.take ((p-a) *4)).length=p*4:=by simp;omega
 have h4:p+g-(a+g)=p-a:=by omega
 subst e;rw[h1,h2];refine⟨?_,?_⟩
 ·rw[←h3];exact List.take_left
 ·rw[show p*4+g*4=(c1++c2.take ((p-a) *4)).length+g*4 by omega,List.drop_length_add_append,List.drop_drop,h4,show a*4+(p-a) *4+g*4=(c1++G).length+(p-a) *4 by simp;omega,List.drop_length_add_append]
theorem NoI.rep{z:List V}(h:NoI z):∀n,NoI (bu z n)
 |0=>by rw[eW];intro x m;simp at m
 |n+1=>by rw[dX];exact h.app (NoI.rep h n)
theorem NoI.z4:NoI Z4:=by
 intro x m n;simp at m;rcases m with rfl|rfl|rfl|rfl<;>simp
theorem BG(w:WF h)(k:GpT h b B v c1 G c2 a g m){p:Nat}(hp:p≤a+m):ao go 165 [.ptr b 0,.int .i64 (p:Int)] h fun u h'=>u=.tup []∧
 GpT h' b B v ((c1++c2).take (p*4)) (bu Z4 g) ((c1++c2).drop (p*4)) p g (a+m-p)∧Fr [b,B] h h':=by
 have l0:ag h b 0=some v:=k.ob.ld1 0;have l1:ag h b 1=some (.int .i64 (a:Int)):=k.ob.ld1 1;have l2:ag h b 2=some (.int .i64 (g:Int)):=k.ob.ld1 2;have nb:=k.nb;have am:=k.am;have tot:=k.tot;have n12:NoI (c1++c2):=k.n6.sub fun x m=>by simp at m⊢;rcases m with m|m<;>simp[m]
 have tl:=k.l1;have tg:=k.lg;have t2l:=k.l2;by_cases c:p<a
 ·obtain⟨u1,e1,s1,d1⟩:=k.tb.from (by omega) .i64 ((p:Int)+g) (p+g) (by omega) (by omega);obtain⟨u2,e2,s2,d2⟩:=k.tb.range (by omega) .i64 .i64 p a p a rfl rfl (by omega) (by omega);have⟨c1',c2'⟩:=DG (c2:=c2) k.l1 k.lg (Nat.le_of_lt c) _ rfl;have z1:(c1++c2).take (p*4)=c1.take (p*4):=List.take_append_of_le_length (by omega);have z2:(c1++c2).drop (p*4)=c1.drop (p*4)++c2:=List.drop_append_of_le_length (by omega);rw[←z1]at c1';rw[←z2]at c2';refine ah rfl rfl ?_;simp(disch:=omega) only[fn165,evs,seval,eff,ai,l0,l1,l2,e1,e2,show(p:Int)<(a:Int) by omega];refine gR (by omega) w d1 s2 ?_ (by omega) k.tb ?_
  ·rw[List.append_assoc,List.drop_append_of_le_length (by omega),List.take_append_of_le_length (by simp;omega)];exact dZ _ (dI _ k.o1)
  rintro h1 t1 F1 n1;have ob1:=F1.own b _ (by simpa using k.ne.symm) k.ob;have l0':ag h1 b 0=some v:=ob1.ld1 0;simp only[evs,seval,DF,l0,l1,l2];refine ab (c':=[v,.int .i64 (p:Int),.int .i64 (g:Int)]) F1.wf ob1 rfl rfl rfl ?_;rintro h2 o2 F2 n2;have t2:=t1.fr F2 (by simpa using k.ne);have l0'':ag h2 b 0=some v:=o2.ld1 0;have l2'':ag h2 b 2=some (.int .i64 (g:Int)):=o2.ld1 2;obtain⟨u3,e3,s3,d3⟩:=t2.range (by omega) .i64 .i64 p ((p:Int)+g) p (p+g) rfl (by omega) (by omega) (by omega);simp(disch:=omega) only[evs,seval,eff,ai,l0'',l2'',e3];refine Bz F2.wf d3 rfl rfl t2 ?_;rintro h3 t3 F3 n3;rw[show p+g-p=g by omega,c1',c2']at t3;simp only[evs,seval,DF,l0'',l2''];refine⟨⟨F3.own b _ (by simpa using k.ne.symm) o2,?_,by simp;omega,eJ _ _,by simp;omega,dZ _ tot.2,dI _ tot.2,k.ne,by omega,by omega,((n12.sub fun x m=>List.mem_of_mem_take m).app (NoI.rep NoI.z4 g)).app (n12.sub fun x m=>List.mem_of_mem_drop m)⟩,?_⟩
  ·rw[show p+g+(a+m-p)=a+g+m by omega];exact t3
  ·refine Fr.trans (T:=[b,B]) (Fr.trans (T:=[b,B]) F1 F2 w ?_ ?_) F3 w ?_ ?_<;>intro x hx<;>simp at hx⊢ <;>omega
 ·obtain⟨u1,e1,s1,d1⟩:=k.tb.from (by omega) .i64 (a:Int) a rfl (by omega);obtain⟨u2,e2,s2,d2⟩:=k.tb.range (by omega) .i64 .i64 ((a:Int)+g) ((p:Int)+g) (a+g) (p+g) (by omega) (by omega) (by omega) (by omega);have⟨c1',c2'⟩:=DD k.l1 k.lg k.l2 (Nat.le_of_not_lt c) hp _ rfl;have z1:(c1++c2).take (p*4)=c1++c2.take ((p-a) *4):=by
   rw[show p*4=c1.length+(p-a) *4 by omega,List.take_length_add_append]
  have z2:(c1++c2).drop (p*4)=c2.drop ((p-a) *4):=by
   rw[show p*4=c1.length+(p-a) *4 by omega,List.drop_length_add_append]
  rw[←z1]at c1';rw[←z2]at c2';refine ah rfl rfl ?_;simp(disch:=omega) only[fn165,evs,seval,eff,ai,l0,l1,l2,e1,e2,show¬(p:Int)<(a:Int) by omega];refine gR (by omega) w d1 s2 ?_ (by omega) k.tb ?_
  ·rw[show(a+g) *4=(c1++G).length by simp;omega,List.drop_left];exact dZ _ k.o2
  rintro h1 t1 F1 n1;have ob1:=F1.own b _ (by simpa using k.ne.symm) k.ob;have l0':ag h1 b 0=some v:=ob1.ld1 0;simp only[evs,seval,DF,l0,l1,l2];refine ab (c':=[v,.int .i64 (p:Int),.int .i64 (g:Int)]) F1.wf ob1 rfl rfl rfl ?_;rintro h2 o2 F2 n2;have t2:=t1.fr F2 (by simpa using k.ne);have l0'':ag h2 b 0=some v:=o2.ld1 0;have l2'':ag h2 b 2=some (.int .i64 (g:Int)):=o2.ld1 2;obtain⟨u3,e3,s3,d3⟩:=t2.range (by omega) .i64 .i64 p ((p:Int)+g) p (p+g) rfl (by omega) (by omega) (by omega);simp(disch:=omega) only[evs,seval,eff,ai,l0'',l2'',e3];refine Bz F2.wf d3 rfl rfl t2 ?_;rintro h3 t3 F3 n3;rw[show p+g-p=g by omega,c1',c2']at t3;simp only[evs,seval,DF,l0'',l2''];refine⟨⟨F3.own b _ (by simpa using k.ne.symm) o2,?_,by simp;omega,eJ _ _,by simp;omega,dZ _ tot.2,dI _ tot.2,k.ne,by omega,by omega,((n12.sub fun x m=>List.mem_of_mem_take m).app (NoI.rep NoI.z4 g)).app (n12.sub fun x m=>List.mem_of_mem_drop m)⟩,?_⟩
  ·rw[show p+g+(a+m-p)=a+g+m by omega];exact t3
  ·refine Fr.trans (T:=[b,B]) (Fr.trans (T:=[b,B]) F1 F2 w ?_ ?_) F3 w ?_ ?_<;>intro x hx<;>simp at hx⊢ <;>omega
variable {h : Heap} {b B : Nat} {v : V} {c1 G c2 : List V} {a g m : Nat}
theorem EU{α:Type}{c1 c2 Z:List α}{a g m:Nat}(l1:c1.length=a*4)(l2:c2.length=m*4)(lz:Z.length=(a+m+g) *4):
 (Z.take 0++c1++Z.drop (0+a*4)).take ((a+g) *4)++c2++(Z.take 0++c1++Z.drop (0+a*4)).drop ((a+g) *4+m*4)=c1++(Z.drop (a*4)).take (g*4)++c2:=by
 simp only[List.take_zero,List.nil_append,Nat.zero_add];have h1:(c1++Z.drop (a*4)).length=(a+g) *4+m*4:=by simp;omega
 rw[←h1,List.drop_length,List.append_nil,show(a+g) *4=c1.length+g*4 by omega,List.take_length_add_append]
theorem TbC.fr'{e:Nat}{h h':Heap}{v:V}{B N:Nat}{C:List V}{S:List Nat}(a:TbC e h v B C N)(f:Fr S h h')(hB:v=.nils∨B∉S):TbC e h' v B C N:=by
 obtain⟨hl,⟨rfl,rfl⟩|⟨rfl,o⟩⟩:=a
 ·exact⟨hl,.inl ⟨rfl,rfl⟩⟩
 ·rcases hB with q|q
  ·cases q
  ·exact⟨hl,.inr ⟨rfl,f.own _ _ q o⟩⟩
theorem yy(w:WF h)(k:GpT h b B v c1 G c2 a g m){n:Nat}(hn:a+m+n≤4096):ao go 166 [.ptr b 0,.int .i64 (n:Int)] h fun u h'=>u=.tup []∧
 ∃B' v' G' g',(B'=B∨h.next≤B')∧GpT h' b B' v' c1 G' c2 a g' m∧n≤g'∧Fr [b] h h':=by
 have l0:ag h b 0=some v:=k.ob.ld1 0;have l1:ag h b 1=some (.int .i64 (a:Int)):=k.ob.ld1 1;have l2:ag h b 2=some (.int .i64 (g:Int)):=k.ob.ld1 2;have nb:=k.nb;have am:=k.am;have blt:=k.ob.lt w;by_cases c:n≤g
 ·refine ah rfl rfl ?_;simp only[fn166,evs,seval,l2,show(n:Int)≤(g:Int) by omega];exact⟨B,v,G,g,.inl rfl,k,c,Fr.refl w⟩
 ·have hq:(a+g+m)/2≤4104:=by omega
  have q:aP (.ib .quo) [.int .i64 ((a+g+m:Nat):Int),.int .i64 2]=some (.int .i64 (((a+g+m)/2:Nat):Int)):=by
   rw[lT _ _ _ (by decide),show(((a+g+m:Nat):Int)).tdiv 2=(((a+g+m)/2:Nat):Int)from rfl,ai _ (by omega) (by omega)]
  generalize(a+g+m)/2=d at q hq;refine ah rfl rfl ?_;simp(disch:=omega) only[fn166,evs,seval,ai,l0,l2,show¬(n:Int)≤(g:Int) by omega,k.tb.len,q];refine aa (dk k) ?_;rintro _ _ ⟨rfl,rfl⟩;simp(disch:=omega) only[evs,seval,ai];rw[show((a+m:Nat):Int)+(↑n+ ↑d+8)=((a+m+(n+d+8):Nat):Int) by omega];refine(gw _ _ _ _ _ _ _ _ (by omega) (by omega) (by omega) (by omega)).2 ?_;simp only[Int.toNat_natCast];have ln:(bu Z4 (a+m+(n+d+8))).length=(a+m+(n+d+8)) *4:=eJ _ _;obtain⟨h1,e_h1⟩:∃h1,h1=halloc h (bu [.int .u64 0,.int .u8 0,.str [],.nils] (a+m+(n+d+8))):=⟨_,rfl⟩;have F_h1:Fr [] h h1:=e_h1▸Fr.halloc w _;have o_h1:Own h1 h.next (bu Z4 (a+m+(n+d+8))):=e_h1▸Own.new w _;rw[←e_h1];clear e_h1;have nz:NoI (bu Z4 (a+m+(n+d+8))):=NoI.rep NoI.z4 _;generalize bu Z4 (a+m+(n+d+8))=Z at ln o_h1 nz;have k1:=k.fr F_h1 (by simp) (by simp);have l0:ag h1 b 0=some v:=k1.ob.ld1 0;have l1:ag h1 b 1=some (.int .i64 (a:Int)):=k1.ob.ld1 1;have l2:ag h1 b 2=some (.int .i64 (g:Int)):=k1.ob.ld1 2;have tz:TbC 4 h1 (.slice h.next 0 (a+m+(n+d+8)) (a+m+(n+d+8))) h.next Z (a+m+(n+d+8)):=⟨ln,.inr ⟨rfl,o_h1⟩⟩;have nB:v=.nils∨B≠h.next:=by
   obtain⟨_,⟨q,_⟩|⟨_,q⟩⟩:=k.tb
   ·exact .inl q
   ·right;have:=q.lt w;omega
  obtain⟨u2,e2,s2⟩:=k1.tb.upto (by omega) .i64 (a:Int) a rfl (by omega);rw[List.append_assoc,←k.l1,List.take_left]at s2;have d1:Dst 4 h1 h.next Z (.slice h.next 0 (a+m+(n+d+8)) (a+m+(n+d+8))) 0 (a+m+(n+d+8)):=⟨by omega,.inr ⟨_,rfl,o_h1⟩⟩;simp only[evs,seval,eff,l0,l1,e2];refine gR (by omega) F_h1.wf d1 s2 k.o1 (by omega) tz ?_;rintro h2 t2 F2 n2;have ob2:=F2.own b _ (by simp;omega) k1.ob;have tb2:TbC 4 h2 v B (c1++G++c2) (a+g+m):=k1.tb.fr' F2 (nB.imp id (by simp));obtain⟨u3,e3,s3,_⟩:=tb2.from (by omega) .i64 ((a:Int)+g) (a+g) (by omega) (by omega);obtain⟨u4,e4,_,d4⟩:=t2.from (by omega) .i64 ((a:Int)+(n+d+8)) (a+(n+d+8)) (by omega) (by omega);have s3':Sl h2 4 u3 m c2:=by
   rw[show a+g+m-(a+g)=m by omega,show(a+g) *4=(c1++G).length by simp[k.l1,k.lg];omega,List.drop_left]at s3;rwa[List.take_of_length_le (by rw[k.l2];omega)]at s3
  have l0':ag h2 b 0=some v:=ob2.ld1 0;have l1':ag h2 b 1=some (.int .i64 (a:Int)):=ob2.ld1 1;have l2':ag h2 b 2=some (.int .i64 (g:Int)):=ob2.ld1 2;simp(disch:=omega) only[evs,seval,DF,eff,ai,l0,l1,l0',l1',l2',e3,e4];refine gR (by omega) F2.wf d4 s3' k.o2 (by omega) t2 ?_;rintro h3 t3 F3 n3;rw[EU k.l1 k.l2 (by rw[ln])]at t3;have ob3:=F3.own b _ (by simp;omega) ob2;have l0'':ag h3 b 0=some v:=ob3.ld1 0;simp only[evs,seval,DF,l0',l1',l2'];refine ab (c':=[.slice h.next 0 (a+m+(n+d+8)) (a+m+(n+d+8)),.int .i64 (a:Int),.int .i64 (g:Int)]) F3.wf ob3 rfl rfl rfl ?_;rintro h4 ob4 F4 n4;simp only[evs,seval];refine ab (c':=[.slice h.next 0 (a+m+(n+d+8)) (a+m+(n+d+8)),.int .i64 (a:Int),.int .i64 ((n+d+8:Nat):Int)]) F4.wf ob4 rfl rfl rfl ?_;rintro h5 ob5 F5 n5;simp only[evs];refine⟨h.next,.slice h.next 0 (a+m+(n+d+8)) (a+m+(n+d+8)),(Z.drop (a*4)).take ((n+d+8) *4),n+d+8,.inr (Nat.le_refl _),⟨ob5,?_,k.l1,?_,k.l2,k.o1,k.o2,by omega,by omega,by omega,((k.n6.sub fun x m=>by simp[m]).app (nz.sub fun x m=>List.mem_of_mem_drop (List.mem_of_mem_take m))).app (k.n6.sub fun x m=>by simp[m])⟩,by omega,?_⟩
  ·have t5:=(t3.fr F4 (by simp;omega)).fr F5 (by simp;omega);rw[show a+m+(n+d+8)=a+(n+d+8)+m by omega]at t5⊢;exact t5
  ·simp[ln];omega
  ·have f1:Fr [h.next] h h2:=Fr.trans F_h1 F2 w (by simp) (by simp);have f2:Fr [h.next] h h3:=Fr.trans f1 F3 w (by simp) (by simp);have f3:Fr [b] h h3:=⟨f2.next,f2.wf,fun x c hx o=>f2.own x c (by have:=o.lt w;simp;omega) o,fun x c hx o=>f2.pl x c (by have:=o.own.lt w;simp;omega) o,f2.lp,f2.ro⟩;exact Fr.trans (Fr.trans f3 F4 w (fun x hx=>.inl hx) (fun x hx=>.inl hx)) F5 w (fun x hx=>.inl hx) (fun x hx=>.inl hx)
variable {h : Heap} {b B : Nat}
theorem xu{n p:Nat}(h:p≤n):sA n p 0=0:=by unfold sA;rw[if_neg];omega
theorem HR{α:Type}{c1 G c2 xs:List α}{p q:Nat}(l1:c1.length=p*4)(lx:xs.length=q*4)(lg:q*4≤G.length):
 (c1++G++c2).take (p*4)++xs++(c1++G++c2).drop (p*4+q*4)=(c1++xs)++G.drop (q*4)++c2:=by
 rw[←l1,List.append_assoc c1 G c2,List.take_left,List.drop_length_add_append,List.drop_append_of_le_length lg];simp
theorem wp{n q p:Nat}{l xs:List V}{u:V}(w:WF h)(k:Gp h b B n l)(s:∀h',Fr [b,B] h h'→Sl h' 4 u q xs)(ox:aq xs=true)(nx:NoI xs)(hp:p≤n)(hq:n+q≤4096):
 ao go 91 [.ptr b 0,.int .i64 (p:Int),u] h fun z h'=>z=.int .i64 0∧∃B',(B'=B∨h.next≤B')∧Gp h' b B' (n+q) (l.take (p*4)++xs++l.drop (p*4))∧Fr [b,B] h h':=by
 obtain⟨v,c1,G,c2,a,g,m,k,rfl,rfl⟩:=k;have s0:=s h (Fr.refl w);have lx:=s0.1;have am:=k.am;by_cases c0:q=0
 ·subst c0;refine ah rfl rfl ?_;simp only[fn91,evs,↓reduceIte,Nat.reduceEqDiff,Nat.reduceAdd];refine aa (ga k (p:Int) 0) ?_;rintro _ _ ⟨rfl,rfl⟩;simp only[evs,↓reduceIte,Nat.reduceEqDiff,xu hp,s0.len];refine aa (dk k) ?_;rintro _ _ ⟨rfl,rfl⟩;simp(disch:=omega) only[evs,↓reduceIte,Nat.reduceEqDiff,ai,show¬(4096-((a+m:Nat):Int)<((0:Nat):Int)) by omega,s0.len,show(((0:Nat):Int)=0)=True by simp];have hx:xs=[]:=List.length_eq_zero_iff.1 (by omega);subst hx;refine⟨B,.inl rfl,⟨v,c1,G,c2,a,g,m,k,by simp,by omega⟩,Fr.refl w⟩
 ·have nh:4096-((a+m:Nat):Int)<(q:Int)↔False:=by simp;omega
  have nz:(q:Int)=0↔False:=by simp;omega
  have sl:=s0.len;refine ah rfl rfl ?_;simp only[fn91,evs,seval];refine aa (ga k (p:Int) 0) ?_;rintro _ _ ⟨rfl,rfl⟩;simp only[evs,seval,xu hp,sl];refine aa (dk k) ?_;rintro _ _ ⟨rfl,rfl⟩;simp(disch:=omega) only[evs,seval,ai,nh,sl,nz];refine aa (BG w k hp) ?_;rintro _ h1 ⟨rfl,k1,F1⟩;simp only[evs,seval,sl];refine aa (yy F1.wf k1 (n:=q) (by omega)) ?_;rintro _ h2 ⟨rfl,B',v',G',g',hB,k2,hg,F2⟩;have F02:Fr [b,B] h h2:=Fr.trans F1 F2 w (fun x hx=>.inl hx) (fun x hx=>.inl (by simp at hx;simp[hx]));have s2:=s h2 F02;have l0:ag h2 b 0=some v':=k2.ob.ld1 0;have l1:ag h2 b 1=some (.int .i64 (p:Int)):=k2.ob.ld1 1;have nb2:=k2.nb;obtain⟨u1,e1,_,d1⟩:=k2.tb.from (by omega) .i64 (p:Int) p rfl (by omega);simp only[evs,seval,eff,l0,l1,e1];refine gR (by omega) F2.wf d1 s2 ox (by omega) k2.tb ?_;rintro h3 t3 F3 n3;rw[HR k2.l1 lx (by rw[k2.lg];omega)]at t3;have ob3:=F3.own b _ (by simpa using k2.ne.symm) k2.ob;have l1':ag h3 b 1=some (.int .i64 (p:Int)):=ob3.ld1 1;simp(disch:=omega) only[evs,eff,ai];refine ab (c':=[v',.int .i64 ((p+q:Nat):Int),.int .i64 (g':Int)]) F3.wf ob3 rfl rfl rfl ?_;rintro h4 ob4 F4 n4;have l2:ag h4 b 2=some (.int .i64 (g':Int)):=ob4.ld1 2;simp(disch:=omega) only[evs,seval,DF,ai,l0,l1,l1',l2,sl];refine ab (c':=[v',.int .i64 ((p+q:Nat):Int),.int .i64 ((g'-q:Nat):Int)]) F4.wf ob4 rfl rfl (by rw[show((g'-q:Nat):Int)=(g':Int)-q by omega];rfl) ?_;rintro h5 ob5 F5 n5;simp only[evs,seval];have ne:=k2.ne;have tl:=k2.l1;have tg:=k2.lg;have t2:=k2.l2;refine⟨B',hB.imp id (fun q=>Nat.le_trans F1.next q),⟨v',(c1++c2).take (p*4)++xs,G'.drop (q*4),(c1++c2).drop (p*4),p+q,g'-q,a+m-p,⟨ob5,?_,?_,?_,t2,?_,k2.o2,ne,by omega,by omega,((NoI.app (k2.n6.sub fun x m=>by simp[m]) nx).app (k2.n6.sub fun x m=>by simp[List.mem_of_mem_drop m])).app (k2.n6.sub fun x m=>by simp[m])⟩,by simp,by omega⟩,?_⟩
  ·exact(show p+g'+(a+m-p)=p+q+(g'-q)+(a+m-p) by omega)▸(t3.fr F4 (by simpa using ne)).fr F5 (by simpa using ne)
  ·rw[List.length_append];omega
  ·rw[List.length_drop];omega
  ·rw[aM,k2.o1,ox];rfl
  ·have f3:Fr [b,B] h h3:=Fr.trans F02 F3 w (fun x hx=>.inl hx) (fun x hx=>by
    simp at hx;subst hx;rcases hB with rfl|hB
    ·exact .inl (by simp)
    ·exact .inr (Nat.le_trans F1.next hB))
   exact Fr.trans (Fr.trans f3 F4 w (fun x hx=>.inl hx) (fun x hx=>.inl (by simp at hx;simp[hx]))) F5 w (fun x hx=>.inl hx) (fun x hx=>.inl (by simp at hx;simp[hx]))
theorem Fr.new{h h1 h2:Heap}{S:List Nat}(w:WF h)(f1:Fr [] h h1)(f2:Fr S h1 h2)(hs:∀x∈S,h.next≤x):Fr [] h h2:=
 Fr.trans f1 f2 w (fun x hx=>.inl hx) (fun x hx=>.inr (hs x hx))
variable {h : Heap} {b B : Nat}
theorem uG{n:Nat}{l:List V}(k:Gp h b B n l):ao go 52 [.ptr b 0] h fun u h'=>u=.int .i64 (n:Int)∧h=h':=by
 obtain⟨v,c1,G,c2,a,g,m,k,rfl,rfl⟩:=k;exact dk k
theorem GW{α:Type}{c1 c2 Z:List α}{a m:Nat}(l1:c1.length=a*4)(l2:c2.length=m*4)(lz:Z.length=(a+m) *4):
 (Z.take 0++c1++Z.drop (0+a*4)).take (a*4)++c2++(Z.take 0++c1++Z.drop (0+a*4)).drop (a*4+m*4)=c1++c2:=by
 simp only[List.take_zero,List.nil_append,Nat.zero_add];have h1:(c1++Z.drop (a*4)).length=a*4+m*4:=by simp;omega
 rw[←h1,List.drop_length,List.append_nil,←l1,List.take_left]
theorem Ba{n:Nat}{l:List V}(w:WF h)(k:Gp h b B n l):ao go 65 [.ptr b 0] h fun u h'=>∃b',h.next≤b'∧TbC 4 h' u b' l n∧Fr [] h h':=by
 obtain⟨v,c1,G,c2,a,g,m,k,rfl,rfl⟩:=k;have am:=k.am;have nb:=k.nb;have blt:=k.ob.lt w;have tot:=k.tot;by_cases c0:a+m=0
 ·refine ah rfl rfl ?_;simp only[fn65,evs,seval];refine aa (dk k) ?_;rintro _ _ ⟨rfl,rfl⟩;simp only[evs,seval,show(((a+m:Nat):Int)=0)↔True by simp;omega];exact⟨h.next,Nat.le_refl _,⟨by rw[tot.1],.inl ⟨rfl,c0⟩⟩,Fr.refl w⟩
 ·have nz:(((a+m:Nat):Int)=0)↔False:=by simp;omega
  refine ah rfl rfl ?_;simp only[fn65,evs,seval];refine aa (dk k) ?_;rintro _ _ ⟨rfl,rfl⟩;simp only[evs,seval,nz];refine aa (dk k) ?_;rintro _ _ ⟨rfl,rfl⟩;simp only[evs];refine(gw _ _ _ _ _ _ _ _ (by omega) (by omega) (by omega) (by omega)).2 ?_;simp only[Int.toNat_natCast];have ln:(bu Z4 (a+m)).length=(a+m) *4:=eJ _ _;obtain⟨h1,e_h1⟩:∃h1,h1=halloc h (bu [.int .u64 0,.int .u8 0,.str [],.nils] (a+m)):=⟨_,rfl⟩;have F_h1:Fr [] h h1:=e_h1▸Fr.halloc w _;have o_h1:Own h1 h.next (bu Z4 (a+m)):=e_h1▸Own.new w _;rw[←e_h1];clear e_h1;generalize bu Z4 (a+m)=Z at ln o_h1;have k1:=k.fr F_h1 (by simp) (by simp);have l0:ag h1 b 0=some v:=k1.ob.ld1 0;have l1:ag h1 b 1=some (.int .i64 (a:Int)):=k1.ob.ld1 1;have l2:ag h1 b 2=some (.int .i64 (g:Int)):=k1.ob.ld1 2;have tz:TbC 4 h1 (.slice h.next 0 (a+m) (a+m)) h.next Z (a+m):=⟨ln,.inr ⟨rfl,o_h1⟩⟩;have nB:v=.nils∨B≠h.next:=by
   obtain⟨_,⟨q,_⟩|⟨_,q⟩⟩:=k.tb
   ·exact .inl q
   ·right;have:=q.lt w;omega
  obtain⟨u2,e2,s2⟩:=k1.tb.upto (by omega) .i64 (a:Int) a rfl (by omega);rw[List.append_assoc,←k.l1,List.take_left]at s2;have d1:Dst 4 h1 h.next Z (.slice h.next 0 (a+m) (a+m)) 0 (a+m):=⟨by omega,.inr ⟨_,rfl,o_h1⟩⟩;simp only[evs,seval,eff,l0,l1,e2];refine gR (by omega) F_h1.wf d1 s2 k.o1 (by omega) tz ?_;rintro h2 t2 F2 n2;have ob2:=F2.own b _ (by simp;omega) k1.ob;have tb2:TbC 4 h2 v B (c1++G++c2) (a+g+m):=k1.tb.fr' F2 (nB.imp id (by simp));obtain⟨u3,e3,s3,_⟩:=tb2.from (by omega) .i64 ((a:Int)+g) (a+g) (by omega) (by omega);obtain⟨u4,e4,_,d4⟩:=t2.from (by omega) .i64 (a:Int) a rfl (by omega);have s3':Sl h2 4 u3 m c2:=by
   rw[show a+g+m-(a+g)=m by omega,show(a+g) *4=(c1++G).length by simp[k.l1,k.lg];omega,List.drop_left]at s3;rwa[List.take_of_length_le (by rw[k.l2];omega)]at s3
  have l0':ag h2 b 0=some v:=ob2.ld1 0;have l1':ag h2 b 1=some (.int .i64 (a:Int)):=ob2.ld1 1;have l2':ag h2 b 2=some (.int .i64 (g:Int)):=ob2.ld1 2;simp(disch:=omega) only[evs,seval,DF,eff,ai,l0,l1,l0',l1',l2',e3,e4];refine gR (by omega) F2.wf d4 s3' k.o2 (by omega) t2 ?_;rintro h3 t3 F3 n3;rw[GW k.l1 k.l2 (by rw[ln])]at t3;simp only[evs,seval,DF,l0',l1',l2'];exact⟨h.next,Nat.le_refl _,t3,Fr.new w F_h1 (Fr.trans F2 F3 F_h1.wf (fun x hx=>.inl hx) (fun x hx=>.inl hx)) (by simp)⟩
def ItQ(h:Heap)(nx:Bool)(o:Option V)(K:V→Heap→Prop):Prop:=∃d,o=some d∧OQ (ait h nx d) K
theorem py{h:Heap}(nx:Bool)(d:V)(K:V→Heap→Prop):ItQ h nx (some d) K↔OQ (ait h nx d) K:=
 ⟨fun⟨_,e,k⟩=>by cases e;exact k,fun k=>⟨d,rfl,k⟩⟩
theorem AH{call:aD}{loc:List V}{env:T V}{h:Heap}(nx:Bool)(x:Opd)(K:V→Heap→Prop):OQ (aK call loc env h (.it nx x)) K↔ItQ h nx (evO loc env x) K:=by
 simp only[aK,OQ,ItQ];cases evO loc env x with
 |none=>simp
 |some d=>simp
theorem FC{h:Heap}(z:List UInt8)(K:V→Heap→Prop):OQ (ait h false (.str z)) K↔K (.ptr h.next 0) (hnew h (.si z 0)):=bZ _ _ _
theorem FD{h:Heap}{b pos:Nat}{z:List UInt8}(hb:h.bl.get b=some (.si z pos))(hp:¬pos<z.length)(K:V→Heap→Prop):OQ (ait h true (.ptr b 0)) K↔K (.tup [.bool false]) h:=by
 show OQ (match h.bl.get b with|some (.si z pos)=>_|_=>_) K↔_
 rw[hb];simp only[if_neg hp];exact bZ _ _ _
theorem Dk{h:Heap}{b pos:Nat}{z:List UInt8}(hb:h.bl.get b=some (.si z pos))(hp:pos<z.length)(K:V→Heap→Prop):OQ (ait h true (.ptr b 0)) K↔
 K (.tup [.bool true,.int .i64 (pos:Int),.int .i32 ((Utf8.decode ⟨z.toArray⟩ pos).1:Int)]) (hset h b (.si z (pos+(Utf8.decode ⟨z.toArray⟩ pos).2))):=by
 show OQ (match h.bl.get b with|some (.si z pos)=>_|_=>_) K↔_
 rw[hb];simp only[if_pos hp];exact bZ _ _ _
theorem _root_.Go.Ev.WF.hset{h:Heap}(w:WF h){b:Nat}{x:Blk}(hb:h.bl.get b=some x)(y:Blk):WF (hset h b y):=by
 intro p hp;obtain⟨q1,q2⟩:=w p hp;refine⟨?_,q2⟩;show(h.bl.set b y).get p=none;rw[T.get_set,if_neg (by rintro rfl;rw[hb]at q1;cases q1)];exact q1
theorem Fr.si{h:Heap}(w:WF h){b pos pos':Nat}{z:List UInt8}(hb:h.bl.get b=some (.si z pos)):Fr [] h (hset h b (.si z pos')) where
 next:=Nat.le_refl _
 wf:=WF.hset w hb _
 own:=fun x c _ ⟨f,k,e,q⟩=>⟨f,k,by
  show(h.bl.set b _).get x=_;rw[T.get_set,if_neg (by rintro rfl;rw[hb]at e;cases e)];exact e,q⟩
 pl:=fun x c _ ⟨⟨k,e⟩,q⟩=>⟨⟨k,by
  show(h.bl.set b _).get x=_;rw[T.get_set,if_neg (by rintro rfl;rw[hb]at e;cases e)];exact e⟩,q⟩
 lp:=fun x k hk e=>by
  show(h.bl.set b _).get x=_;rw[T.get_set,if_neg (by rintro rfl;rw[hb]at e;cases e;cases hk)];exact e
 ro:=fun x c ⟨f,k,ow,e,q1,q2,q3⟩=>⟨f,k,ow,by
  show(h.bl.set b _).get x=_;rw[T.get_set,if_neg (by rintro rfl;rw[hb]at e;cases e)];exact e,q1,by
  show(h.bl.set b _).get ow=_;rw[T.get_set,if_neg (by rintro rfl;rw[hb]at q2;cases q2)];exact q2,q3⟩
def Cm(g:Nat)(p:Int→Bool):Prop:=g<1099511627776∧(∀(r:Int)(h:Heap),ao go g [.int .i32 r] h fun u h'=>u=.bool (p r)∧h=h')∧∀r:Int,128≤r→p r=true
def dK(p:Int→Bool)(z:List UInt8):Bool:=z.any fun b=>p (b.toNat:Int)
theorem FP(z:List UInt8)(pos:Nat)(hp:pos<z.length)(p:Int→Bool)(h128:∀r:Int,128≤r→p r=true):
 (p ((Utf8.decode ⟨z.toArray⟩ pos).1:Int)=p ((z[pos]).toNat:Int))∧(p ((z[pos]).toNat:Int)=false→(Utf8.decode ⟨z.toArray⟩ pos).2=1):=by
 have hs:pos<(ByteArray.mk z.toArray).size:=hp;have he:(ByteArray.mk z.toArray)[pos]'hs=z[pos]:=rfl;by_cases c:(z[pos]).toNat<128
 ·have:=Go.decode_ascii ⟨z.toArray⟩ pos hs (by rw[he];exact c);rw[this,he];exact⟨rfl,fun _=>rfl⟩
 ·have:=Go.decode_high ⟨z.toArray⟩ pos hs (by rw[he];omega);rw[h128 _ (by omega),h128 _ (by omega)];exact⟨rfl,fun e=>by cases e⟩
theorem qr{h:Heap}{z:List UInt8}{g:Nat}{p:Int→Bool}(w:WF h)(P:Cm g p)(hz:z.length<16777216):
 ao go 265 [.str z,.func (.func g) [] [],.bool true] h fun u h'=>∃r:Int,u=.int .i64 r∧(decide (0≤r)=dK p z)∧Fr [] h h':=by
 obtain⟨hg,hp,h128⟩:=P;obtain⟨h1,e_h1⟩:∃h1,h1=hnew h (.si z 0):=⟨_,rfl⟩;have F_h1:Fr [] h h1:=e_h1▸Fr.hnew w _;have b1:h1.bl.get h.next=some (.si z 0):=by rw[e_h1];exact oG _ _
 refine ah rfl rfl ?_;simp only[fn265,evs,seval,AH,py,FC,←e_h1];refine aC (fun k env hh=>Fr [] h hh∧∃(i:Nat),env.get 10=some (.ptr h.next 0)∧env.get 1=some (.func (.func g) [] [])∧env.get 2=some (.bool true)∧hh.bl.get h.next=some (.si z i)∧
  i≤z.length∧dK p (z.drop i)=dK p z∧k=z.length-i) z.length (by omega) ?_ ?_
 ·exact⟨F_h1,0,(by simp),(by simp),(by simp),b1,by omega,rfl,rfl⟩
 ·rintro k env hh ⟨F,i,g10,g1,g2,bb,hi,e,rfl⟩;by_cases hlt:i<z.length
  ·have⟨d1,d2⟩:=FP z i hlt p h128;have F1:Fr [] hh (hset hh h.next (.si z (i+(Utf8.decode ⟨z.toArray⟩ i).2))):=Fr.si F.wf bb;have b2:=A4 hh h.next (.si z (i+(Utf8.decode ⟨z.toArray⟩ i).2));rw[List.drop_eq_getElem_cons hlt]at e;simp only[evs,seval,g10,g1,AH,py,Dk bb hlt,hg];refine aa (hp _ _) ?_;rintro _ h2 ⟨rfl,rfl⟩;cases c:p ((z[i]).toNat:Int)
   ·have w1:=d2 c;rw[c]at d1;rw[w1]at F1 b2⊢;simp only[evs,seval,d1,g2];unfold dK at e;rw[List.any_cons,c,Bool.false_or]at e;refine(aj _ _ _).2 ⟨z.length-(i+1),by omega,F.then F1,i+1,(by simp[g10]),(by simp[g1]),(by simp[g2]),b2,by omega,e,rfl⟩
    done
   ·rw[c]at d1;simp only[evs,seval,d1,g2];unfold dK at e⊢;rw[List.any_cons,c,Bool.true_or]at e;exact⟨i,rfl,by rw[←e];simp,F.then F1⟩
  ·simp only[evs,seval,g10,AH,py,FD bb hlt];rw[List.drop_of_length_le (by omega)]at e;exact⟨-1,rfl,by rw[←e];rfl,F⟩
theorem mt{h:Heap}{z:List UInt8}{g:Nat}{p:Int→Bool}(w:WF h)(P:Cm g p)(hz:z.length<16777216):
 ao go 172 [.str z,.func (.func g) [] []] h fun u h'=>u=.bool (dK p z)∧Fr [] h h':=by
 refine ah rfl rfl ?_;simp only[fn172,evs,seval];refine aa (?_:ao go 230 _ _ (fun u h'=>∃r:Int,u=.int .i64 r∧(decide (0≤r)=dK p z)∧Fr [] h h')) ?_
 ·refine ah rfl rfl ?_;simp only[fn230,evs,seval];refine aa (qr w P hz) ?_;rintro _ h1 ⟨r,rfl,e,F⟩;simp only[evs,seval];exact⟨r,rfl,e,F⟩
 ·rintro _ h1 ⟨r,rfl,e,F⟩;simp only[evs,seval];exact⟨by rw[e],F⟩
def fF(r:Int):Bool:=decide (r<32)||decide (126<r)
def cD(r:Int):Bool:=(decide (r<97)||decide (122<r))&&(decide (r<48)||decide (57<r))
theorem H5:Cm 173 fF:=⟨by decide,fun r h=>by
 by_cases c:r<32
 ·refine ah rfl rfl ?_;simp only[fn173,evs,seval,c];simp[fF,c]
 ·refine ah rfl rfl ?_;simp only[fn173,evs,seval,c];simp[fF,c],fun r hr=>by simp[fF];omega⟩
theorem H4:Cm 232 cD:=⟨by decide,fun r h=>by
 by_cases c:r<97
 ·by_cases d:r<48
  ·refine ah rfl rfl ?_;simp only[fn232,evs,seval,c,d];simp[cD,c,d]
  ·refine ah rfl rfl ?_;simp only[fn232,evs,seval,c,d];simp[cD,c,d]
 ·by_cases c':(122:Int)<r
  ·by_cases d:r<48
   ·refine ah rfl rfl ?_;simp only[fn232,evs,seval,c,d,c'];simp[cD,c,d,c']
   ·refine ah rfl rfl ?_;simp only[fn232,evs,seval,c,d,c'];simp[cD,c,d,c']
  ·refine ah rfl rfl ?_;simp only[fn232,evs,seval,c,c'];simp[cD,c,c'],fun r hr=>by simp[cD];omega⟩
def okT(z:List UInt8):Bool:=decide (z.length≤64)&& !dK fF z
def okN(z:List UInt8):Bool:=decide (0<z.length)&&(decide (z.length≤16)&& !dK cD z)
theorem aE(a:List UInt8):aP .lenStr [.str a]=some (.int .i64 (a.length:Nat)):=rfl
theorem aS(a b:List UInt8):aP (.sb .neq) [.str a,.str b]=some (.bool (!(a==b))):=rfl
theorem aI(a b:List UInt8):aP (.sb .eql) [.str a,.str b]=some (.bool (a==b)):=rfl
theorem iP(z:List UInt8):(z==[])=decide (z.length=0):=by cases z<;>rfl
theorem C9{h:Heap}{z:List UInt8}(w:WF h):ao go 177 [.str z] h fun u h'=>u=.bool (okN z)∧Fr [] h h':=by
 by_cases c0:z.length=0
 ·refine ah rfl rfl ?_;simp only[fn177,evs,seval,aS,iP,c0];exact⟨by simp[okN,c0],Fr.refl w⟩
 ·by_cases c1:z.length≤16
  ·refine ah rfl rfl ?_;simp only[fn177,evs,seval,aE,aS,iP,c0,show(z.length:Int)≤16 by omega];refine aa (mt w H4 (by omega)) ?_;rintro _ h1 ⟨rfl,F⟩;simp only[evs,seval];exact⟨by simp[okN,c1];intro _;omega,F⟩
  ·refine ah rfl rfl ?_;simp only[fn177,evs,seval,aE,aS,iP,c0,show¬(z.length:Int)≤16 by omega];exact⟨by simp[okN,c1],Fr.refl w⟩
abbrev sS(s:List UInt8):List V:=[.str s]
theorem dW(s:List UInt8):(sS s).length=1:=rfl
theorem AM{h:Heap}{z:List UInt8}(w:WF h):ao go 176 [.str z] h fun u h'=>u=.bool (!okN z)∧Fr [] h h':=by
 refine ah rfl rfl ?_;simp only[fn176,evs,seval];refine aa (C9 w) ?_;rintro _ h1 ⟨rfl,F⟩;simp only[evs,seval];exact F
def D6(g:Nat):Prop:=g<1099511627776∧∀(z:List UInt8)(h:Heap),WF h→ao go g [.str z] h fun u h'=>u=.bool (!okN z)∧Fr [] h h'
theorem H7:D6 176:=⟨by decide,fun _ _ w=>AM w⟩
theorem yY{h:Heap}{v:V}{g:Nat}{L:List (List UInt8)}(P:D6 g)(w:WF h)(a:ARecs sS 1 h v L)(hn:L.length≤4096):
 ao go 231 [v,.func (.func g) [] []] h fun u h'=>∃r:Int,u=.int .i64 r∧(decide (0≤r)= !L.all okN)∧Fr [] h h':=by
 refine ah rfl rfl ?_;simp only[fn231,evs,seval,a.len];refine aC (fun k env hh=>Fr [] h hh∧∃(i:Nat),env.get 8=some (.int .i64 i)∧env.get 7=some (.int .i64 L.length)∧env.get 0=some v∧env.get 1=some (.func (.func g) [] [])∧
  i≤L.length∧(L.drop i).all okN=L.all okN∧k=L.length-i) L.length (by omega) ?_ ?_
 ·exact⟨Fr.refl w,0,(by simp),(by simp),(by simp),(by simp),by omega,rfl,rfl⟩
 ·rintro k env hh ⟨F,i,g8,g7,g0,g1,hi,e,rfl⟩;by_cases hlt:i<L.length
  ·have hlt':(i:Int)<L.length:=by omega
   obtain⟨b,o,s,e1,e2,_,e5⟩:=(a.fr F).ix dW .i64 i (by omega) hlt';have e4:ag hh b o=some (.str s):=e2 0 (by omega);rw[Int.toNat_natCast]at e5;rw[aJ e5,List.all_cons]at e;simp only[evs,seval,g8,g7,g0,g1,hlt',e1,e4,P.1];refine aa (P.2 _ _ F.wf) ?_;rintro _ h1 ⟨rfl,F1⟩;cases c:okN s
   ·simp only[evs,seval];rw[c]at e;exact⟨i,rfl,by rw[←e];simp,F.then F1⟩
   ·simp(disch:=omega) only[evs,seval,ai,g8];rw[c]at e;refine(aj _ _ _).2 ⟨L.length-(i+1),by omega,F.then F1,i+1,(by simp),(by simp[g7]),(by simp[g0]),(by simp[g1]),by omega,by simpa using e,rfl⟩
    done
  ·simp only[evs,seval,g8,g7,show¬(i:Int)<L.length by omega];rw[List.drop_of_length_le (by omega)]at e;exact⟨-1,rfl,by rw[←e];rfl,F⟩
theorem kO{h:Heap}{v:V}{g:Nat}{L:List (List UInt8)}(P:D6 g)(w:WF h)(a:ARecs sS 1 h v L)(hn:L.length≤4096):
 ao go 175 [v,.func (.func g) [] []] h fun u h'=>u=.bool (!L.all okN)∧Fr [] h h':=by
 refine ah rfl rfl ?_;simp only[fn175,evs,seval];refine aa (yY P w a hn) ?_;rintro _ h1 ⟨r,rfl,e,F⟩;simp only[evs,seval];exact⟨by rw[e],F⟩
structure Itm where
 key:Nat
 type:Nat
 text:List UInt8
 marks:List (List UInt8)
 vm:V
def Itm.cells(x:Itm):List V:=[.int .u64 (x.key:Int),.int .u8 (x.type:Int),.str x.text,x.vm]
structure ItmH(h:Heap)(x:Itm):Prop where
 k:x.key<18446744073709551616
 t:x.type<256
 m:ARecs sS 1 h x.vm x.marks
 n:x.marks.length≤4096
 l:x.text.length<16777216
theorem ItmH.fr{h h':Heap}{x:Itm}(a:ItmH h x)(f:Fr [] h h'):ItmH h' x:=⟨a.k,a.t,a.m.fr f,a.n,a.l⟩
theorem ItmH.one{h:Heap}{x:Itm}(a:ItmH h x):aq x.cells=true:=by
 show aq [.int .u64 (x.key:Int),.int .u8 (x.type:Int),.str x.text,x.vm]=true;simp only[aA,aF,a.m.one];rfl
def okM(ms:List (List UInt8)):Bool:=decide (ms.length≤8)&&ms.all okN
def okI(x:Itm)(types:Nat):Bool:=decide (x.key≠0)&&(decide (x.type<types)&&(okT x.text&&okM x.marks))
theorem CK{h:Heap}{x:Itm}{b:Nat}(w:WF h)(a:ItmH h x)(o:Own h b x.cells):ao go 171 [.ptr b 0] h fun u h'=>u=.bool (okT x.text)∧Fr [] h h':=by
 have l2:ag h b 2=some (.str x.text):=o.ld1 2;by_cases c:x.text.length≤64
 ·refine ah rfl rfl ?_;simp only[fn171,evs,seval,l2,aE,show(x.text.length:Int)≤64 by omega];refine aa (mt w H5 a.l) ?_;rintro _ h1 ⟨rfl,F⟩;simp only[evs,seval];exact⟨by simp[okT,c],F⟩
 ·refine ah rfl rfl ?_;simp only[fn171,evs,seval,l2,aE,show¬(x.text.length:Int)≤64 by omega];exact⟨by simp[okT,c],Fr.refl w⟩
theorem AP{h:Heap}{x:Itm}{b:Nat}(w:WF h)(a:ItmH h x)(o:Own h b x.cells):ao go 174 [.ptr b 0] h fun u h'=>u=.bool (okM x.marks)∧Fr [] h h':=by
 have l2:ag h b 3=some x.vm:=o.ld1 3;by_cases c:x.marks.length≤8
 ·refine ah rfl rfl ?_;simp only[fn174,evs,seval,l2,a.m.len,show(x.marks.length:Int)≤8 by omega];refine aa (kO H7 w a.m a.n) ?_;rintro _ h1 ⟨rfl,F⟩;simp only[evs,seval];exact⟨by simp[okM,c],F⟩
 ·refine ah rfl rfl ?_;simp only[fn174,evs,seval,l2,a.m.len,show¬(x.marks.length:Int)≤8 by omega];exact⟨by simp[okM,c],Fr.refl w⟩
theorem vg{h:Heap}{x:Itm}{types:Nat}(w:WF h)(a:ItmH h x)(ht:types<256):ao go 102 [.agg x.cells,.int .i64 (types:Int)] h fun u h'=>u=.int .i64 (if okI x types then 0 else 6)∧Fr [] h h':=by
 obtain⟨h1,e_h1⟩:∃h1,h1=halloc h x.cells:=⟨_,rfl⟩;have F_h1:Fr [] h h1:=e_h1▸Fr.halloc w _;have o_h1:Own h1 h.next x.cells:=e_h1▸Own.new w _;have l0:ag h1 h.next 0=some (.int .u64 (x.key:Int)):=o_h1.ld1 0;have l1:ag h1 h.next 1=some (.int .u8 (x.type:Int)):=o_h1.ld1 1;have xt:=a.t;by_cases c0:x.key=0
 ·refine ah rfl rfl ?_;simp only[fn102,evs,seval,←e_h1,l0,show(x.key:Int)=0 by omega];exact⟨by simp[okI,c0],F_h1⟩
 by_cases c1:x.type<types
 ·refine ah rfl rfl ?_;simp(disch:=omega) only[fn102,evs,seval,ai,←e_h1,l0,show¬(x.key:Int)=0 by omega,l1,show¬(types:Int)≤x.type by omega];refine aa (CK F_h1.wf (a.fr F_h1) o_h1) ?_;rintro _ h2 ⟨rfl,F2⟩;cases c2:okT x.text
  ·simp only[evs,seval];exact⟨by simp[okI,c2],F_h1.then F2⟩
  ·simp only[evs,seval];refine aa (AP F2.wf (a.fr (F_h1.then F2)) (F2.get o_h1)) ?_;rintro _ h3 ⟨rfl,F3⟩;cases c3:okM x.marks
   ·simp only[evs,seval];exact⟨by simp[okI,c3],(F_h1.then F2).then F3⟩
   ·simp only[evs,seval];exact⟨by simp[okI,c0,c1,c2,c3],(F_h1.then F2).then F3⟩
 ·refine ah rfl rfl ?_;simp(disch:=omega) only[fn102,evs,seval,ai,←e_h1,l0,show¬(x.key:Int)=0 by omega,l1,show(types:Int)≤x.type by omega];exact⟨by simp[okI,c1],F_h1⟩
theorem y9{h:Heap}(r:Nat):ao go 294 [.int .u8 (r:Int)] h fun u h'=>u=.bool (!cD r)∧h=h':=by
 by_cases c:(97:Int)≤r
 ·by_cases d:(r:Int)≤122
  ·refine ah rfl rfl ?_;simp only[fn294,evs,seval,c,d];simp[cD];omega
  ·by_cases e:(48:Int)≤r
   ·by_cases f:(r:Int)≤57
    ·omega
    ·refine ah rfl rfl ?_;simp only[fn294,evs,seval,c,d,e,f];simp[cD];omega
   ·omega
 ·by_cases e:(48:Int)≤r
  ·by_cases f:(r:Int)≤57
   ·refine ah rfl rfl ?_;simp only[fn294,evs,seval,c,e,f];simp[cD];omega
   ·refine ah rfl rfl ?_;simp only[fn294,evs,seval,c,e,f];simp[cD];omega
  ·refine ah rfl rfl ?_;simp only[fn294,evs,seval,c,e];simp[cD];omega
theorem bD{z:List UInt8}{i:Nat}(h:i<z.length)(k:IntKind):aP .ixstr [.str z,.int k (i:Int)]=some (.int .u8 ((z[i]).toNat:Nat)):=by
 show(z[i]?).map _=_;rw[List.getElem?_eq_getElem h];rfl
theorem nR{h:Heap}{z:List UInt8}:ao go 279 [.str z] h fun u h'=>u=.bool (okN z)∧h=h':=by
 by_cases c0:z.length<1
 ·refine ah rfl rfl ?_;simp only[fn279,evs,seval,aE,show(z.length:Int)<1 by omega];simp[okN];intro _;omega
 by_cases c1:16<z.length
 ·refine ah rfl rfl ?_;simp only[fn279,evs,seval,aE,show¬(z.length:Int)<1 by omega,show(16:Int)<z.length by omega];simp[okN];intro _ _;omega
 ·have e0:okN z= !dK cD z:=by simp[okN,show 0<z.length by omega,show z.length≤16 by omega]
  rw[e0];refine ah rfl rfl ?_;simp only[fn279,evs,seval,aE,show¬(z.length:Int)<1 by omega,show¬(16:Int)<z.length by omega];refine aC (fun k env hh=>h=hh∧∃(i:Nat),env.get 14=some (.int .i64 i)∧env.get 13=some (.int .i64 z.length)∧env.get 0=some (.str z)∧
   i≤z.length∧dK cD (z.drop i)=dK cD z∧k=z.length-i) z.length (by omega) ?_ ?_
  ·exact⟨rfl,0,(by simp),(by simp),(by simp),by omega,rfl,rfl⟩
  ·rintro k env hh ⟨rfl,i,g14,g13,g0,hi,e,rfl⟩;by_cases hlt:i<z.length
   ·unfold dK at e;rw[List.drop_eq_getElem_cons hlt,List.any_cons]at e;simp only[evs,seval,g14,g13,g0,show(i:Int)<z.length by omega,bD hlt];refine aa (y9 _) ?_;rintro _ _ ⟨rfl,rfl⟩;cases c:cD ((z[i]).toNat:Int)
    ·simp(disch:=omega) only[evs,seval,ai,g14];rw[c,Bool.false_or]at e;refine(aj _ _ _).2 ⟨z.length-(i+1),by omega,rfl,i+1,(by simp),(by simp[g13]),(by simp[g0]),by omega,e,rfl⟩
     done
    ·simp only[evs,seval];rw[c,Bool.true_or]at e;unfold dK;rw[←e];simp
   ·simp only[evs,seval,g14,g13,show¬(i:Int)<z.length by omega];rw[List.drop_of_length_le (by omega)]at e;rw[←e];rfl
theorem HZ:Cm 293 fF:=⟨by decide,fun r h=>by
 by_cases c:r<32
 ·refine ah rfl rfl ?_;simp only[fn293,evs,seval,c];simp[fF,c]
 ·refine ah rfl rfl ?_;simp only[fn293,evs,seval,c];simp[fF,c],fun r hr=>by simp[fF];omega⟩
theorem ua{h:Heap}{z:List UInt8}(w:WF h):ao go 278 [.str z] h fun u h'=>u=.bool (okT z)∧Fr [] h h':=by
 by_cases c:z.length≤64
 ·refine ah rfl rfl ?_;simp only[fn278,evs,seval,aE,show(z.length:Int)≤64 by omega];refine aa (?_:ao go 230 _ _ (fun u h'=>∃r:Int,u=.int .i64 r∧(decide (0≤r)=dK fF z)∧Fr [] h h')) ?_
  ·refine ah rfl rfl ?_;simp only[fn230,evs,seval];refine aa (qr w HZ (by omega)) ?_;rintro _ h1 ⟨r,rfl,e,F⟩;simp only[evs,seval];exact⟨r,rfl,e,F⟩
  ·rintro _ h1 ⟨r,rfl,e,F⟩;simp only[evs,seval];refine⟨?_,F⟩;have:decide (r<0)= !decide (0≤r):=by by_cases q:0≤r<;>simp[q]<;>omega
   simp[okT,c,←e];exact this
 ·refine ah rfl rfl ?_;simp only[fn278,evs,seval,aE,show¬(z.length:Int)≤64 by omega];exact⟨by simp[okT,c],Fr.refl w⟩
abbrev Str:=List UInt8
inductive NT where
 |nil
 |cons (kind:Nat) (tag key:Str) (attrs:List (Str×Str)) (text:Str) (va vc:V) (sub next:NT)
def dU(a:Str×Str):List V:=[.str a.1,.str a.2]
theorem cM(a:Str×Str):(dU a).length=2:=rfl
namespace NT
def len:NT→Nat
 |nil=>0
 |cons _ _ _ _ _ _ _ _ nx=>nx.len+1
def cells:NT→List V
 |nil=>[]
 |cons k tg ky _ tx va vc _ nx=>[.int .u8 (k:Int),.str tg,.str ky,va,.str tx,vc]++nx.cells
def keys:NT→List Str
 |nil=>[]
 |cons _ _ ky _ _ _ _ _ nx=>ky::nx.keys
theorem cells_len:∀t:NT,t.cells.length=t.len*6
 |nil=>rfl
 |cons _ _ _ _ _ _ _ _ nx=>by simp[cells,len,cells_len nx];omega
theorem keys_len:∀t:NT,t.keys.length=t.len
 |nil=>rfl
 |cons _ _ _ _ _ _ _ _ nx=>by simp[keys,len,keys_len nx]
def at':NT→Nat→NT
 |t,0=>t
 |nil,_+1=>nil
 |cons _ _ _ _ _ _ _ _ nx,i+1=>nx.at' i
end NT
def NH(h:Heap):NT→Prop
 |.nil=>True
 |.cons k _ _ at' _ va vc sub nx=>k<256∧Recs dU 2 h va at'∧at'.length≤4096∧Sl h 6 vc sub.len sub.cells∧sub.len≤4096∧NH h sub∧NH h nx
theorem NH.fr{h h':Heap}(f:Fr [] h h'):∀{t:NT},NH h t→NH h' t
 |.nil,_=>trivial
 |.cons _ _ _ _ _ _ _ _ _,⟨a,b,c,d,e,g,i⟩=>⟨a,b.fr f,c,d.fr f,e,NH.fr f g,NH.fr f i⟩
set_option maxRecDepth 4000
namespace NT
theorem split:∀(t:NT)(i:Nat),i<t.len→∃k tg ky at' tx va vc sub nx,t.at' i=.cons k tg ky at' tx va vc sub nx∧t.cells.drop (i*6)=[.int .u8 ((k:Nat):Int),.str tg,.str ky,va,.str tx,vc]++nx.cells∧t.at' (i+1)=nx∧t.keys.drop i=ky::nx.keys∧t.keys[i]? =some ky∧nx.len+(i+1)=t.len
 |.nil,_,h=>by cases h
 |.cons k tg ky at' tx va vc sub nx,0,_=>⟨k,tg,ky,at',tx,va,vc,sub,nx,rfl,rfl,by cases nx<;>rfl,rfl,rfl,rfl⟩
 |.cons _ _ _ _ _ _ _ _ nx,i+1,h=>by
  obtain⟨k,tg,ky,at',tx,va,vc,sub,n,e1,e2,e3,e4,e5,e6⟩:=split nx i (by simp[len]at h;omega);refine⟨k,tg,ky,at',tx,va,vc,sub,n,e1,?_,e3,e4,?_,by simp only[len];omega⟩
  ·rw[show(i+1) *6=6+i*6 by omega,←List.drop_drop];exact e2
  ·simpa[keys]using e5
theorem at_end:∀(t:NT)(i:Nat),t.len≤i→t.at' i=.nil
 |.nil,0,_=>rfl
 |.nil,_+1,_=>rfl
 |.cons _ _ _ _ _ _ _ _ nx,0,h=>by simp[len]at h
 |.cons _ _ _ _ _ _ _ _ nx,i+1,h=>at_end nx i (by simp[len]at h;omega)
end NT
theorem NH.at'{h:Heap}:∀{t:NT}(i:Nat),NH h t→NH h (t.at' i)
 |.nil,0,_=>trivial
 |.nil,_+1,_=>trivial
 |.cons _ _ _ _ _ _ _ _ _,0,a=>a
 |.cons _ _ _ _ _ _ _ _ _,i+1,⟨_,_,_,_,_,_,g⟩=>NH.at' i g
def At6(h:Heap)(b o:Nat)(x0 x1 x2 x3 x4 x5:V):Prop:=ag h b o=some x0∧ag h b (o+1)=some x1∧ag h b (o+2)=some x2∧ag h b (o+3)=some x3∧ag h b (o+4)=some x4∧ag h b (o+5)=some x5∧ak h b o 6=some [x0,x1,x2,x3,x4,x5]
theorem _root_.Go.Ev.Sl.ix6{h:Heap}{v:V}{n:Nat}{cs:List V}(a:Sl h 6 v n cs){i:Nat}(hi:i<n){x0 x1 x2 x3 x4 x5:V}{r:List V}(e:cs.drop (i*6)=[x0,x1,x2,x3,x4,x5]++r):
 ∃b o,aP (.ixs 6) [v,.int .i64 (i:Int)]=some (.ptr b o)∧At6 h b o x0 x1 x2 x3 x4 x5:=by
 obtain⟨b,o,e1,e2,e3⟩:=Sl.ix a .i64 (i:Int) (by omega) (by omega);rw[Int.toNat_natCast]at e2 e3;rw[e]at e3;have g:∀j,cs[i*6+j]? =([x0,x1,x2,x3,x4,x5]++r)[j]? :=fun j=>by rw[←e,List.getElem?_drop]
 refine⟨b,o,e1,?_,?_,?_,?_,?_,?_,e3⟩
 ·have:=e2 0 (by omega);rw[g]at this;exact this
 ·have:=e2 1 (by omega);rw[g]at this;exact this
 ·have:=e2 2 (by omega);rw[g]at this;exact this
 ·have:=e2 3 (by omega);rw[g]at this;exact this
 ·have:=e2 4 (by omega);rw[g]at this;exact this
 ·have:=e2 5 (by omega);rw[g]at this;exact this
theorem _root_.Go.Ev.Own.at6{h:Heap}{b:Nat}{x0 x1 x2 x3 x4 x5:V}(o:Own h b [x0,x1,x2,x3,x4,x5]):At6 h b 0 x0 x1 x2 x3 x4 x5:=⟨o.ld1 0,o.ld1 1,o.ld1 2,o.ld1 3,o.ld1 4,o.ld1 5,by rw[o.ld];rfl⟩
theorem vU{h:Heap}{x0 x1 x3 x4 x5:V}{ky k0:Str}{bk:Nat}(w:WF h)(hk:∀h',Fr [] h h'→ag h' bk 2=some (.str k0))(ones:aq [x0,x1,.str ky,x3,x4,x5]=true):
 ao go 281 [.agg [x0,x1,.str ky,x3,x4,x5],.ptr bk 0] h fun u h'=>u=.bool (ky==k0)∧Fr [] h h':=by
 obtain⟨h1,e_h1⟩:∃h1,h1=halloc h [x0,x1,.str ky,x3,x4,x5]:=⟨_,rfl⟩;have F_h1:Fr [] h h1:=e_h1▸Fr.halloc w _;have o_h1:Own h1 h.next [x0,x1,.str ky,x3,x4,x5]:=e_h1▸Own.new w _;have l2:ag h1 h.next 2=some (.str ky):=o_h1.ld1 2;refine ah rfl rfl ?_;simp only[fn281,evs,seval,←e_h1,l2,hk h1 F_h1,aI];exact F_h1
theorem yZ{h:Heap}{u:V}{t:NT}{i bk:Nat}{k0:Str}(w:WF h)(a:Sl h 6 u i (t.cells.take (i*6)))(hi:i≤t.len)(hn:i≤4096)(ones:aq t.cells=true)(hk:∀h',Fr [] h h'→ag h' bk 2=some (.str k0)):
 ao go 280 [u,.func (.func 281) [] [.ptr bk 0]] h fun z h'=>z=.bool ((t.keys.take i).any (· ==k0))∧Fr [] h h':=by
 refine ah rfl rfl ?_;simp only[fn280,evs,seval];refine aa (?_:ao go 295 _ _ (fun z h'=>∃r:Int,z=.int .i64 r∧(decide (0≤r)=(t.keys.take i).any (· ==k0))∧Fr [] h h')) ?_
 ·refine ah rfl rfl ?_;simp only[fn295,evs,seval,a.len];refine aC (fun k env hh=>Fr [] h hh∧∃(j:Nat),env.get 8=some (.int .i64 j)∧env.get 7=some (.int .i64 i)∧env.get 0=some u∧env.get 1=some (.func (.func 281) [] [.ptr bk 0])∧
   j≤i∧((t.keys.take i).drop j).any (· ==k0)=(t.keys.take i).any (· ==k0)∧k=i-j) i (by omega) ?_ ?_
  ·exact⟨Fr.refl w,0,(by simp),(by simp),(by simp),(by simp),by omega,rfl,rfl⟩
  ·rintro k env hh ⟨F,j,g8,g7,g0,g1,hj,e,rfl⟩;by_cases hlt:j<i
   ·obtain⟨kd,tg,ky,at',tx,va,vc,sub,nx,e1,e2,e3,e4,e5,_⟩:=t.split j (by omega);have q:(t.cells.take (i*6)).drop (j*6)=[.int .u8 (kd:Int),.str tg,.str ky,va,.str tx,vc]++nx.cells.take (i*6-j*6-6):=by
     rw[List.drop_take,e2,show i*6-j*6=([.int .u8 (kd:Int),.str tg,.str ky,va,.str tx,vc]:List V).length+(i*6-j*6-6) by simp;omega,List.take_length_add_append];simp
    obtain⟨b,o,p1,p2⟩:=(a.fr F).ix6 hlt q;have on:aq [.int .u8 (kd:Int),.str tg,.str ky,va,.str tx,vc]=true:=by
     have:=dI (j*6) ones;rw[e2,aM]at this;exact(Bool.and_eq_true _ _▸this).1
    have ek:(t.keys.take i)[j]? =some ky:=by rw[List.getElem?_take,if_pos hlt];exact e5
    rw[aJ ek,List.any_cons]at e;simp only[evs,seval,g8,g7,g0,g1,show(j:Int)<(i:Int) by omega,p1,p2.2.2.2.2.2.2];refine aa (vU F.wf (fun h' f=>hk h' (F.then f)) on) ?_;rintro _ h1 ⟨rfl,F1⟩;cases c:ky==k0
    ·simp(disch:=omega) only[evs,seval,ai,g8];rw[c]at e;refine(aj _ _ _).2 ⟨i-(j+1),by omega,F.then F1,j+1,(by simp),(by simp[g7]),(by simp[g0]),(by simp[g1]),by omega,by simpa using e,rfl⟩
     done
    ·simp only[evs,seval];rw[c]at e;exact⟨j,rfl,by rw[←e];simp,F.then F1⟩
   ·simp only[evs,seval,g8,g7,show¬(j:Int)<(i:Int) by omega];rw[List.drop_of_length_le (by simp;omega)]at e;exact⟨-1,rfl,by rw[←e];rfl,F⟩
 ·rintro _ h1 ⟨r,rfl,e,F⟩;simp only[evs,seval];exact⟨by rw[e],F⟩
set_option maxRecDepth 4000
def leS(a b:Str):Bool:=Op.bytesLess a b||a==b
theorem ju(a b:Str):aP (.sb .leq) [.str a,.str b]=some (.bool (leS a b)):=rfl
def bR(p:Option Str)(n:Str):Bool:=match p with
 |none=>true
 |some q=> !leS n q
def cY:Option Str→List (Str×Str)→Bool
 |_,[]=>true
 |p,(n,v)::r=>(okN n&&(okT v&&bR p n))&&cY (some n) r
def eO:List Str→List Str→Bool
 |_,[]=>true
 |pr,k::r=>(k==[]|| !(pr.any (· ==k)))&&eO (pr++[k]) r
theorem mb(pr:List Str)(k:Str)(r:List Str):eO pr (k::r)=((k==[]|| !(pr.any (· ==k)))&&eO (pr++[k]) r):=rfl
theorem kU(p:Option Str)(a:Str×Str)(r:List (Str×Str)):cY p (a::r)=((okN a.1&&(okT a.2&&bR p a.1))&&cY (some a.1) r):=rfl
def fy(k:Nat)(tg ky:Str)(at':List (Str×Str))(tx:Str)(sub:NT):Bool:=
 if k=2 then okT tx&&(tg==[]&&(ky==[]&&(decide (at'.length=0)&&decide (sub.len=0))))
 else decide (k=1)&&(okN tg&&((ky==[]||okN ky)&&(tx==[]&&(decide (at'.length≤8)&&(decide (sub.len≤16)&&(cY none at'&&eO [] sub.keys))))))
def hJ(at':List (Str×Str))(i:Nat):Option Str:=if i=0 then none else(at'[i-1]?).map (·.1)
theorem nN{at':List (Str×Str)}{i:Nat}{a:Str×Str}(h:at'[i]? =some a):hJ at' (i+1)=some a.1:=by simp[hJ,h]
theorem FW{h:Heap}{b o:Nat}{x0 x1 x2 x3 x4 vc:V}{sub:NT}{env:T V}{R:V→Heap→Prop}(w:WF h)(hA:∀h',Fr [] h h'→At6 h' b o x0 x1 x2 x3 x4 vc)
 (rc:Sl h 6 vc sub.len sub.cells) (nc:sub.len≤4096) (ones:aq sub.cells=true) (g0:env.get 0=some (.ptr b o))
 (k:∀h',Fr [] h h'→R (.bool (eO [] sub.keys)) h'):W go alC env h (gA [.t 2] R):=by
 have q5:=(hA h (Fr.refl w)).2.2.2.2.2.1;simp only[evs,seval,alC,g0,q5,rc.len];refine aC (fun n env hh=>Fr [] h hh∧∃(i:Nat),env.get 142=some (.int .i64 i)∧env.get 141=some (.int .i64 sub.len)∧env.get 140=some vc∧env.get 0=some (.ptr b o)∧
  i≤sub.len∧eO (sub.keys.take i) (sub.keys.drop i)=eO [] sub.keys∧n=sub.len-i) sub.len (by omega) ?_ ?_
 ·exact⟨Fr.refl w,0,(by simp),(by simp),(by simp),(by simp[g0]),by omega,rfl,rfl⟩
 ·rintro n env hh ⟨F,i,g142,g141,g140,g0,hi,e,rfl⟩;by_cases hlt:i<sub.len
  ·obtain⟨kd,tg,ky,at',tx,va,vc',sb,nx,e1,e2,e3,e4,e5,_⟩:=sub.split i hlt;obtain⟨b',o',p1,p2⟩:=(rc.fr F).ix6 hlt e2;have on:aq [.int .u8 (kd:Int),.str tg,.str ky,va,.str tx,vc']=true:=by
    have:=dI (i*6) ones;rw[e2,aM]at this;exact(Bool.and_eq_true _ _▸this).1
   have hlt':(i:Int)<sub.len:=by omega
   rw[e4]at e;rw[mb]at e;have ek:(sub.keys.take i)++[ky]=sub.keys.take (i+1):=by
    rw[List.take_add_one,e5];rfl
   have ed:nx.keys=sub.keys.drop (i+1):=by
    rw[←List.drop_drop (i:=1),e4];rfl
   rw[ek,ed]at e;obtain⟨h1,e_h1⟩:∃h1,h1=halloc hh [.int .u8 0,.str [],.str [],.nils,.str [],.nils]:=⟨_,rfl⟩;have F_h1:Fr [] hh h1:=e_h1▸Fr.halloc F.wf _;have o_h1:Own h1 hh.next [.int .u8 0,.str [],.str [],.nils,.str [],.nils]:=e_h1▸Own.new F.wf _;simp only[evs,seval,g142,g141,g140,hlt',p1,p2.2.2.2.2.2.2,←e_h1];refine ab (c':=[.int .u8 (kd:Int),.str tg,.str ky,va,.str tx,vc']) F_h1.wf o_h1 rfl on rfl ?_;rintro h2 o2 F2 n2;have F02:Fr [] hh h2:=F_h1.fresh F2 F.wf (Nat.le_refl _);have q2:ag h2 hh.next 2=some (.str ky):=o2.ld1 2;have q5:=(hA h2 (F.then F02)).2.2.2.2.2.1;cases c:ky==[]
   ·obtain⟨u,s1,s2⟩:=(rc.fr (F.then F02)).upto (by omega) (Sl.ne (rc.fr (F.then F02)) (by omega)) .i64 (i:Int) (by omega) (by omega);rw[Int.toNat_natCast]at s2;simp only[evs,seval,g0,q2,aS,c,q5,s1];refine aa (yZ F02.wf s2 (by omega) (by omega) ones (fun h' f=>(f.get o2).ld1 2)) ?_;rintro _ h3 ⟨rfl,F3⟩;cases c2:(sub.keys.take i).any (· ==ky)
    ·simp(disch:=omega) only[evs,seval,ai,g142];rw[c,c2]at e;refine(aj _ _ _).2 ⟨sub.len-(i+1),by omega,(F.then F02).then F3,i+1,(by simp),(by simp[g141]),(by simp[g140]),(by simp[g0]),by omega,by simpa using e,rfl⟩
     done
    ·simp only[evs,seval];have:=k _ ((F.then F02).then F3);rw[←e,c,c2]at this;simpa using this
   ·simp(disch:=omega) only[evs,seval,ai,g142,q2,aS,c];rw[c]at e;refine(aj _ _ _).2 ⟨sub.len-(i+1),by omega,F.then F02,i+1,(by simp),(by simp[g141]),(by simp[g140]),(by simp[g0]),by omega,by simpa using e,rfl⟩
    done
  ·simp only[evs,seval,g142,g141,show¬(i:Int)<sub.len by omega];rw[List.drop_of_length_le (by rw[NT.keys_len];omega)]at e;have:=k _ F;rw[←e]at this;exact this
theorem BM{h:Heap}{b o:Nat}{x0 x1 x2 va x4 vc:V}{at':List (Str×Str)}{sub:NT}{env:T V}{R:V→Heap→Prop}(w:WF h)(hA:∀h',Fr [] h h'→At6 h' b o x0 x1 x2 va x4 vc)
 (ra:Recs dU 2 h va at') (na:at'.length≤4096) (rc:Sl h 6 vc sub.len sub.cells) (nc:sub.len≤4096) (ones:aq sub.cells=true) (g0:env.get 0=some (.ptr b o))
 (k:∀h',Fr [] h h'→R (.bool (cY none at'&&eO [] sub.keys)) h'):W go alA env h (gA [.t 2] R):=by
 have q3:=(hA h (Fr.refl w)).2.2.2.1;simp only[evs,seval,alA,g0,q3,ra.len];refine aC (fun n env hh=>Fr [] h hh∧∃(i:Nat),env.get 103=some (.int .i64 i)∧env.get 102=some (.int .i64 at'.length)∧env.get 101=some va∧env.get 0=some (.ptr b o)∧
  i≤at'.length∧cY (hJ at' i) (at'.drop i)=cY none at'∧n=at'.length-i) at'.length (by omega) ?_ ?_
 ·exact⟨Fr.refl w,0,(by simp),(by simp),(by simp),(by simp[g0]),by omega,rfl,rfl⟩
 ·rintro n env hh ⟨F,i,g103,g102,g101,g0,hi,e,rfl⟩;by_cases hlt:i<at'.length
  ·have hlt':(i:Int)<at'.length:=by omega
   obtain⟨b',o',a,p1,p2,p3,p4⟩:=(ra.fr F).ix cM .i64 (i:Int) (by omega) hlt';rw[Int.toNat_natCast]at p4;rw[aJ p4,kU]at e;have en:=nN p4;obtain⟨h1,e_h1⟩:∃h1,h1=halloc hh [.str [],.str []]:=⟨_,rfl⟩;have F_h1:Fr [] hh h1:=e_h1▸Fr.halloc F.wf _;have o_h1:Own h1 hh.next [.str [],.str []]:=e_h1▸Own.new F.wf _;simp only[evs,seval,g103,g102,g101,hlt',p1,p3,←e_h1];refine ab (c':=[.str a.1,.str a.2]) F_h1.wf o_h1 rfl rfl rfl ?_;rintro h2 o2 F2 n2;have F02:Fr [] hh h2:=F_h1.fresh F2 F.wf (Nat.le_refl _);have q0:ag h2 hh.next 0=some (.str a.1):=o2.ld1 0;have q1:ag h2 hh.next 1=some (.str a.2):=o2.ld1 1;simp only[evs,seval,eff,q0];refine aa nR ?_;rintro _ _ ⟨rfl,rfl⟩;cases c1:okN a.1
   ·simp only[evs,seval,DF,eff,q0];have:=k _ (F.then F02);rw[←e,c1]at this;simpa using this
   simp only[evs,seval,eff,q1];refine aa (ua F02.wf) ?_;rintro _ h3 ⟨rfl,F3⟩;have F03:=(F.then F02).then F3;have q0':ag h3 hh.next 0=some (.str a.1):=(F3.get o2).ld1 0;cases c2:okT a.2
   ·simp only[evs,seval,DF,eff,q0,q1];have:=k _ F03;rw[←e,c1,c2]at this;simpa using this
   have fin:bR (hJ at' i) a.1=true→cY (hJ at' (i+1)) (at'.drop (i+1))=cY none at':=fun c=>by
    rw[←e,c1,c2,c,en];rfl
   by_cases c3:i=0
   ·simp(disch:=omega) only[evs,seval,DF,eff,ai,g103,q0,q1,show¬(0:Int)<(i:Int) by omega];refine(aj _ _ _).2 ⟨at'.length-(i+1),by omega,F03,i+1,(by simp),(by simp[g102]),(by simp[g101]),(by simp[g0]),by omega,fin (by rw[c3];rfl),rfl⟩
    done
   ·obtain⟨b2,o2',a2,r1,r2,r3,r4⟩:=(ra.fr F03).ix cM .i64 ((i:Int)-1) (by omega) (by omega);have r4':at'[i-1]? =some a2:=by rw[←r4];congr 1;omega
    have r2':ag h3 b2 o2'=some (.str a2.1):=r2 0 (by omega);have q3:=(hA h3 F03).2.2.2.1;have pe:hJ at' i=some a2.1:=by simp[hJ,c3,r4']
    cases c4:leS a.1 a2.1
    ·simp(disch:=omega) only[evs,seval,DF,eff,ai,c4,g103,g0,q0,q1,q0',q3,r1,r2',ju,show(0:Int)<(i:Int) by omega];refine(aj _ _ _).2 ⟨at'.length-(i+1),by omega,F03,i+1,(by simp),(by simp[g102]),(by simp[g101]),(by simp[g0]),by omega,fin (by rw[pe];simp[bR,c4]),rfl⟩
     done
    ·simp(disch:=omega) only[evs,seval,DF,eff,ai,c4,g0,q0,q1,q0',q3,r1,r2',ju,show(0:Int)<(i:Int) by omega];have:=k _ F03;rw[←e,pe,c1,c2]at this;simpa[bR,c4]using this
  ·simp only[evs,seval,g103,g102,show¬(i:Int)<at'.length by omega];rw[List.drop_of_length_le (by omega)]at e;refine FW F.wf (fun h' f=>hA h' (F.then f)) (rc.fr F) nc ones (by simp[g0]) fun h' f=>?_;have:=k h' (F.then f);rw[←e]at this;simpa[cY]using this
theorem BK{h:Heap}{b o k:Nat}{tg ky tx:Str}{at':List (Str×Str)}{va vc:V}{sub:NT}(w:WF h)(hA:∀h',Fr [] h h'→At6 h' b o (.int .u8 (k:Int)) (.str tg) (.str ky) va (.str tx) vc)
 (ra:Recs dU 2 h va at') (na:at'.length≤4096) (rc:Sl h 6 vc sub.len sub.cells) (nc:sub.len≤4096) (ones:aq sub.cells=true):
 ao go 253 [.ptr b o] h fun u h'=>u=.bool (fy k tg ky at' tx sub)∧Fr [] h h':=by
 have q0:ag h b o=some (.int .u8 (k:Int)):=(hA h (Fr.refl w)).1;by_cases c0:k=2
 ·have q4:ag h b (o+4)=some (.str tx):=(hA h (Fr.refl w)).2.2.2.2.1;unfold fy;rw[if_pos c0];refine ah rfl rfl ?_;simp only[evs,seval,fn253x,q0,show(k:Int)=2 by omega,q4];refine aa (ua w) ?_;rintro _ h1 ⟨rfl,F1⟩;obtain⟨_,q1,q2,q3,_,q5,_⟩:=hA h1 F1;have l1:=(ra.fr F1).len;have l2:=(rc.fr F1).len;cases c1:okT tx
  ·simp only[evs,seval];exact⟨rfl,F1⟩
  cases c2:tg==[]
  ·simp only[evs,seval,q1,aI,c2];exact⟨rfl,F1⟩
  cases c3:ky==[]
  ·simp only[evs,seval,q1,aI,c2,q2,c3];exact⟨rfl,F1⟩
  by_cases c4:at'.length=0
  ·by_cases c5:sub.len=0
   ·simp only[evs,seval,q1,aI,c2,q2,c3,q3,l1,show((at'.length:Nat):Int)=0 by omega,q5,l2,show((sub.len:Nat):Int)=0 by omega];exact⟨by simp[c4,c5],F1⟩
   ·simp only[evs,seval,q1,aI,c2,q2,c3,q3,l1,show((at'.length:Nat):Int)=0 by omega,q5,l2,show¬((sub.len:Nat):Int)=0 by omega];exact⟨by simp[c5],F1⟩
  ·simp only[evs,seval,q1,aI,c2,q2,c3,q3,l1,show¬((at'.length:Nat):Int)=0 by omega];exact⟨by simp[c4],F1⟩
 ·unfold fy;rw[if_neg c0];by_cases c1:k=1
  ·obtain⟨_,q1,q2,q3,q4,q5,_⟩:=hA h (Fr.refl w);have l1:=ra.len;have l2:=rc.len;refine ah rfl rfl ?_;simp only[evs,seval,fn253x,q0,show(k:Int)=1 by omega,q1];refine aa nR ?_;rintro _ _ ⟨rfl,rfl⟩;cases c2:okN tg
   ·simp only[evs,seval];exact⟨by simp,Fr.refl w⟩
   cases ck:ky==[]
   ·simp only[evs,seval,q2,aS,ck];refine aa nR ?_;rintro _ _ ⟨rfl,rfl⟩;cases cn:okN ky
    ·simp only[evs,seval];exact⟨by simp,Fr.refl w⟩
    cases ct:tx==[]
    ·simp only[evs,seval,aS,q4,ct];exact⟨by simp,Fr.refl w⟩
    by_cases ca:at'.length≤8
    ·by_cases cs:sub.len≤16
     ·simp only[evs,seval,aS,q4,ct,q3,l1,show¬(8:Int)<(at'.length:Nat) by omega,q5,l2,show¬(16:Int)<(sub.len:Nat) by omega];refine BM w hA ra na rc nc ones (by simp) fun h' f=>⟨by simp[c1,ca,cs],f⟩
     ·simp only[evs,seval,aS,q4,ct,q3,l1,show¬(8:Int)<(at'.length:Nat) by omega,q5,l2,show(16:Int)<(sub.len:Nat) by omega];exact⟨by simp[cs],Fr.refl w⟩
    ·simp only[evs,seval,aS,q4,ct,q3,l1,show(8:Int)<(at'.length:Nat) by omega];exact⟨by simp[ca],Fr.refl w⟩
   cases ct:tx==[]
   ·simp only[evs,seval,q2,aS,ck,q4,ct];exact⟨by simp,Fr.refl w⟩
   by_cases ca:at'.length≤8
   ·by_cases cs:sub.len≤16
    ·simp only[evs,seval,q2,aS,ck,q4,ct,q3,l1,show¬(8:Int)<(at'.length:Nat) by omega,q5,l2,show¬(16:Int)<(sub.len:Nat) by omega];refine BM w hA ra na rc nc ones (by simp) fun h' f=>⟨by simp[c1,ca,cs],f⟩
    ·simp only[evs,seval,q2,aS,ck,q4,ct,q3,l1,show¬(8:Int)<(at'.length:Nat) by omega,q5,l2,show(16:Int)<(sub.len:Nat) by omega];exact⟨by simp[cs],Fr.refl w⟩
   ·simp only[evs,seval,q2,aS,ck,q4,ct,q3,l1,show(8:Int)<(at'.length:Nat) by omega];exact⟨by simp[ca],Fr.refl w⟩
  ·refine ah rfl rfl ?_;simp only[evs,seval,fn253x,q0,show¬(k:Int)=2 by omega,show¬(k:Int)=1 by omega];exact⟨by simp[c1],Fr.refl w⟩
theorem NH.ones{h:Heap}:∀{t:NT},NH h t→aq t.cells=true
 |.nil,_=>rfl
 |.cons k tg ky _ tx va vc _ nx,⟨_,b,_,d,_,_,g⟩=>by
  show aq ([.int .u8 (k:Int),.str tg,.str ky,va,.str tx,vc]++nx.cells)=true;rw[aM,NH.ones g];simp only[aA,aF,Sl.one b,Sl.one d];rfl
namespace NT
def node(k:Nat)(tg ky:Str)(at':List (Str×Str))(tx:Str)(sub:NT)(w:Nat→Nat→Nat×Bool)(l c:Nat):Nat×Bool:=
 if 6<l∨64<c+1∨fy k tg ky at' tx sub=false then(c+1,false)else w (l+1) (c+1)
def walk:NT→Nat→Nat→Nat×Bool
 |nil,_,c=>(c,true)
 |cons k tg ky at' tx _ _ sub nx,l,c=>let r:=node k tg ky at' tx sub sub.walk l c;if r.2=true then nx.walk l r.1 else r
theorem gF:∀(t:NT)(l c:Nat),c≤64→(t.walk l c).1≤65∧((t.walk l c).2=true→(t.walk l c).1≤64)
 |nil,_,c,h=>⟨by simp[walk];omega,fun _=>h⟩
 |cons k tg ky at' tx _ _ sub nx,l,c,h=>by
  have q:(node k tg ky at' tx sub sub.walk l c).1≤65∧((node k tg ky at' tx sub sub.walk l c).2=true→(node k tg ky at' tx sub sub.walk l c).1≤64):=by
   unfold node;split
   ·exact⟨by simp;omega,fun e=>by cases e⟩
   ·rename_i x;exact gF sub (l+1) (c+1) (by omega)
  simp only[walk];split
  ·rename_i x;exact gF nx l _ (q.2 x)
  ·exact q
theorem node_le(k:Nat)(tg ky:Str)(at':List (Str×Str))(tx:Str)(sub:NT)(l c:Nat)(h:c≤64):(node k tg ky at' tx sub sub.walk l c).1≤65∧((node k tg ky at' tx sub sub.walk l c).2=true→(node k tg ky at' tx sub sub.walk l c).1≤64):=by
 unfold node;split
 ·exact⟨by simp;omega,fun e=>by cases e⟩
 ·exact gF sub (l+1) (c+1) (by omega)
end NT
structure Ms(h0 h:Heap)(bc bd bw:Nat)(c d:Nat):Prop where
 f:Fr [] h0 h
 oc:Own h bc [.int .i64 (c:Int)]
 od:Own h bd [.int .i64 (d:Int)]
 ow:Own h bw [.func (.func 252) [] [.ptr bc 0,.ptr bd 0,.ptr bw 0]]
 dl:d≤7
structure MsB(h0:Heap)(bc bd bw:Nat):Prop where
 w:WF h0
 c:h0.next≤bc
 d:h0.next≤bd
 b:h0.next≤bw
 cd:bc≠bd
 cw:bc≠bw
 dw:bd≠bw
theorem Ms.fr{h0 h h':Heap}{bc bd bw c d:Nat}(m:Ms h0 h bc bd bw c d)(f:Fr [] h h'):Ms h0 h' bc bd bw c d:=⟨m.f.then f,f.get m.oc,f.get m.od,f.get m.ow,m.dl⟩
def CH(h0:Heap)(k:Nat)(tg ky:Str)(at':List (Str×Str))(tx:Str)(va vc:V)(sub:NT):Prop:=
 ∀(h:Heap)(b o bc bd bw l c d:Nat),MsB h0 bc bd bw→Ms h0 h bc bd bw c d→(∀h',Fr [] h0 h'→At6 h' b o (.int .u8 (k:Int)) (.str tg) (.str ky) va (.str tx) vc)→l≤7→c≤64→
  ao go 252 [.ptr b o,.int .i64 (l:Int),.ptr bc 0,.ptr bd 0,.ptr bw 0] h fun u h'=>u=.bool (NT.node k tg ky at' tx sub sub.walk l c).2∧∃d',Ms h0 h' bc bd bw (NT.node k tg ky at' tx sub sub.walk l c).1 d'
def AllE(h0:Heap):NT→Prop
 |.nil=>True
 |.cons k tg ky at' tx va vc sub nx=>CH h0 k tg ky at' tx va vc sub∧AllE h0 nx
theorem AllE.at'{h:Heap}:∀{t:NT}(i:Nat),AllE h t→AllE h (t.at' i)
 |.nil,0,_=>trivial
 |.nil,_+1,_=>trivial
 |.cons _ _ _ _ _ _ _ _ _,0,a=>a
 |.cons _ _ _ _ _ _ _ _ _,i+1,⟨_,g⟩=>AllE.at' i g
theorem DC{h0:Heap}{k:Nat}{tg ky:Str}{at':List (Str×Str)}{tx:Str}{va vc:V}{sub:NT}
 (ra:Recs dU 2 h0 va at') (na:at'.length≤4096) (rc:Sl h0 6 vc sub.len sub.cells) (nc:sub.len≤4096) (ns:NH h0 sub) (A:AllE h0 sub):CH h0 k tg ky at' tx va vc sub:=by
 intro h b o bc bd bw l c d B M hA hl hc;have lc:ag h bc 0=some (.int .i64 (c:Int)):=M.oc.ld1 0;refine ah rfl rfl ?_;simp(disch:=omega) only[fn252,evs,seval,ai,lc];refine ab (c':=[.int .i64 ((c+1:Nat):Int)]) M.f.wf M.oc rfl rfl rfl ?_;rintro h1 o1 F1 n1;have od1:Own h1 bd [.int .i64 (d:Int)]:=F1.own _ _ (by simpa using B.cd.symm) M.od;have ld:ag h1 bd 0=some (.int .i64 (d:Int)):=od1.ld1 0;simp only[evs,seval,ld];have dl:=M.dl;refine ab (c':=[.int .i64 ((max d l:Nat):Int)]) F1.wf od1 rfl rfl (by rw[show((max d l:Nat):Int)=max (d:Int) (l:Int) by omega];rfl) ?_;rintro h2 o2 F2 n2;have M2:Ms h0 h2 bc bd bw (c+1) (max d l):=by
  refine⟨?_,F2.own _ _ (by simpa using B.cd) o1,o2,F2.own _ _ (by simpa using B.dw.symm) (F1.own _ _ (by simpa using B.cw.symm) M.ow),by omega⟩;exact Fr.trans (Fr.trans M.f F1 B.w (fun x hx=>.inl hx) (fun x hx=>.inr (by simp at hx;subst hx;exact B.c))) F2 B.w (fun x hx=>.inl hx) (fun x hx=>.inr (by simp at hx;subst hx;exact B.d))
 have lc2:ag h2 bc 0=some (.int .i64 ((c+1:Nat):Int)):=M2.oc.ld1 0;by_cases c1:6<l
 ·have e:NT.node k tg ky at' tx sub sub.walk l c=(c+1,false):=if_pos (.inl c1);simp only[evs,seval,show(6:Int)<(l:Int) by omega];rw[e];exact⟨rfl,_,M2⟩
 by_cases c2:64<c+1
 ·have e:NT.node k tg ky at' tx sub sub.walk l c=(c+1,false):=if_pos (.inr (.inl c2));simp only[evs,seval,show¬(6:Int)<(l:Int) by omega,lc2,show(64:Int)<((c+1:Nat):Int) by omega];rw[e];exact⟨rfl,_,M2⟩
 simp only[evs,seval,show¬(6:Int)<(l:Int) by omega,lc2,show¬(64:Int)<((c+1:Nat):Int) by omega];refine aa (BK M2.f.wf (fun h' f=>hA h' (M2.f.then f)) (ra.fr M2.f) na (rc.fr M2.f) nc ns.ones) ?_;rintro _ h3 ⟨rfl,F3⟩;have M3:=M2.fr F3;cases c3:fy k tg ky at' tx sub
 ·have e:NT.node k tg ky at' tx sub sub.walk l c=(c+1,false):=if_pos (.inr (.inr c3));simp only[evs,seval];rw[e];exact⟨rfl,_,M3⟩
 have e:NT.node k tg ky at' tx sub sub.walk l c=sub.walk (l+1) (c+1):=if_neg (by simp[c3];omega);rw[e];have q5:=(hA h3 M3.f).2.2.2.2.2.1;simp only[evs,seval,q5,(rc.fr M3.f).len];refine aC (fun n env hh=>∃(i c' d':Nat),Ms h0 hh bc bd bw c' d'∧env.get 30=some (.int .i64 i)∧env.get 29=some (.int .i64 sub.len)∧env.get 0=some (.ptr b o)∧env.get 1=some (.int .i64 l)∧env.get 4=some (.ptr bw 0)∧
  i≤sub.len∧c'≤64∧(sub.at' i).walk (l+1) c'=sub.walk (l+1) (c+1)∧n=sub.len-i) sub.len (by omega) ?_ ?_
 ·exact⟨0,c+1,max d l,M3,(by simp),(by simp),(by simp),(by simp),(by simp),by omega,by omega,by cases sub<;>rfl,rfl⟩
 ·rintro n env hh ⟨i,c',d',M',g30,g29,g0,g1,g4,hi,hc',e',rfl⟩;by_cases hlt:i<sub.len
  ·obtain⟨kd,tg',ky',at2,tx',va',vc',sb,nx,e1,e2,e3,e4,e5,e6⟩:=sub.split i hlt;have hlt':(i:Int)<sub.len:=by omega
   have a:=A.at' i;rw[e1]at a e';obtain⟨b',o',p1,_⟩:=(rc.fr M'.f).ix6 hlt e2;have hA':∀h',Fr [] h0 h'→At6 h' b' o' (.int .u8 (kd:Int)) (.str tg') (.str ky') va' (.str tx') vc':=fun h' f=>by
    obtain⟨b2,o2,p1',p2'⟩:=(rc.fr f).ix6 hlt e2;rw[p1]at p1';cases p1';exact p2'
   have q5:=(hA hh M'.f).2.2.2.2.2.1;have lw:ag hh bw 0=some (.func (.func 252) [] [.ptr bc 0,.ptr bd 0,.ptr bw 0]):=M'.ow.ld1 0;simp(disch:=omega) only[evs,seval,eff,ai,g30,g29,g0,g1,g4,hlt',lw,q5,p1];refine aa (a.1 hh b' o' bc bd bw (l+1) c' d' B M' hA' (by omega) hc') ?_;rintro _ h4 ⟨rfl,d4,M4⟩;simp only[NT.walk]at e';have nl:=NT.node_le kd tg' ky' at2 tx' sb (l+1) c' hc';cases c4:(NT.node kd tg' ky' at2 tx' sb sb.walk (l+1) c').2
   ·rw[c4]at e';simp only[evs,seval,DF,eff,g4,lw,q5];rw[←e'];exact⟨by simp[c4],d4,by simpa using M4⟩
   ·rw[c4]at e';simp(disch:=omega) only[evs,seval,DF,eff,ai,g30,g4,lw,q5];refine(aj _ _ _).2 ⟨sub.len-(i+1),by omega,i+1,_,d4,M4,(by simp),(by simp[g29]),(by simp[g0]),(by simp[g1]),(by simp[g4]),by omega,nl.2 c4,?_,rfl⟩;rw[e3];simpa using e'
  ·simp only[evs,seval,g30,g29,show¬(i:Int)<sub.len by omega];rw[NT.at_end _ _ (by omega)]at e';rw[←e'];exact⟨rfl,d',M'⟩
theorem FV{h:Heap}:∀{t:NT},NH h t→AllE h t
 |.nil,_=>trivial
 |.cons _ _ _ _ _ _ _ _ _,⟨_,b,c,d,e,f,g⟩=>⟨DC b c d e f (FV f),FV g⟩
def NT.count(k:Nat)(tg ky:Str)(at':List (Str×Str))(tx:Str)(sub:NT):Nat:=
 if(node k tg ky at' tx sub sub.walk 1 0).2=true then(node k tg ky at' tx sub sub.walk 1 0).1 else 0
theorem v9{h:Heap}{k:Nat}{tg ky:Str}{at':List (Str×Str)}{tx:Str}{va vc:V}{sub:NT}(w:WF h)(n:NH h (.cons k tg ky at' tx va vc sub .nil)):
 ao go 203 [.agg [.int .u8 (k:Int),.str tg,.str ky,va,.str tx,vc]] h fun u h'=>∃d:Nat,u=.tup [.int .i64 (NT.count k tg ky at' tx sub:Nat),.int .i64 (d:Int)]∧Fr [] h h':=by
 obtain⟨h1,e_h1⟩:∃h1,h1=halloc h [.int .u8 (k:Int),.str tg,.str ky,va,.str tx,vc]:=⟨_,rfl⟩;have F_h1:Fr [] h h1:=e_h1▸Fr.halloc w _;have o_h1:Own h1 h.next [.int .u8 (k:Int),.str tg,.str ky,va,.str tx,vc]:=e_h1▸Own.new w _;obtain⟨h2,e_h2⟩:∃h2,h2=halloc h1 [.int .i64 0]:=⟨_,rfl⟩;have F_h2:Fr [] h1 h2:=e_h2▸Fr.halloc F_h1.wf _;have o_h2:Own h2 h1.next [.int .i64 0]:=e_h2▸Own.new F_h1.wf _;obtain⟨h3,e_h3⟩:∃h3,h3=halloc h2 [.int .i64 0]:=⟨_,rfl⟩;have F_h3:Fr [] h2 h3:=e_h3▸Fr.halloc F_h2.wf _;have o_h3:Own h3 h2.next [.int .i64 0]:=e_h3▸Own.new F_h2.wf _;obtain⟨h4,e_h4⟩:∃h4,h4=halloc h3 [.nilf]:=⟨_,rfl⟩;have F_h4:Fr [] h3 h4:=e_h4▸Fr.halloc F_h3.wf _;have o_h4:Own h4 h3.next [.nilf]:=e_h4▸Own.new F_h3.wf _;have n1:h1.next=h.next+1:=by rw[e_h1];rfl
 have n2:h2.next=h1.next+1:=by rw[e_h2];rfl
 have n3:h3.next=h2.next+1:=by rw[e_h3];rfl
 refine ah rfl rfl ?_;simp only[fn203,evs,seval,←e_h1,←e_h2,←e_h3,←e_h4];refine ab (c':=[.func (.func 252) [] [.ptr h1.next 0,.ptr h2.next 0,.ptr h3.next 0]]) F_h4.wf o_h4 rfl rfl rfl ?_;rintro h5 o5 F5 n5;have F15:Fr [] h1 h5:=Fr.new F_h1.wf (F_h2.then (F_h3.then F_h4)) F5 (by simp;omega);have ob:=F15.get o_h1;have B:MsB h1 h1.next h2.next h3.next:=⟨F_h1.wf,Nat.le_refl _,by omega,by omega,by omega,by omega,by omega⟩;have M:Ms h1 h5 h1.next h2.next h3.next 0 0:=⟨F15,F5.own _ _ (by simp;omega) (F_h4.get (F_h3.get o_h2)),F5.own _ _ (by simp;omega) (F_h4.get o_h3),o5,by omega⟩;have lw:ag h5 h3.next 0=some (.func (.func 252) [] [.ptr h1.next 0,.ptr h2.next 0,.ptr h3.next 0]):=o5.ld1 0;have A:=(FV (n.fr F_h1)).1;simp only[evs,seval,lw];refine aa (A h5 h.next 0 h1.next h2.next h3.next 1 0 0 B M (fun h' f=>(f.get o_h1).at6) (by omega) (by omega)) ?_;rintro _ h6 ⟨rfl,d,M6⟩;unfold NT.count;cases c:(NT.node k tg ky at' tx sub sub.walk 1 0).2
 ·simp only[evs,seval];refine ab (c':=[.int .i64 0]) M6.f.wf M6.oc rfl rfl rfl ?_;rintro h7 o7 F7 n7;have od7:=F7.own _ _ (by simp;omega) M6.od;simp only[evs,seval];refine ab (c':=[.int .i64 0]) F7.wf od7 rfl rfl rfl ?_;rintro h8 o8 F8 n8;have a7:ag h8 h1.next 0=some (.int .i64 0):=(F8.own _ _ (by simp;omega) o7).ld1 0;have a8:ag h8 h2.next 0=some (.int .i64 0):=o8.ld1 0;simp only[evs,seval,a7,a8];refine⟨0,by simp,?_⟩;exact Fr.new w F_h1 (Fr.trans (T:=[h1.next,h2.next]) (Fr.trans (T:=[h1.next,h2.next]) M6.f F7 F_h1.wf (by simp) (by simp)) F8 F_h1.wf (by simp) (by simp)) (by simp;omega)
 ·have lc:ag h6 h1.next 0=some (.int .i64 ((NT.node k tg ky at' tx sub sub.walk 1 0).1:Int)):=M6.oc.ld1 0;have ld:ag h6 h2.next 0=some (.int .i64 (d:Int)):=M6.od.ld1 0;simp only[evs,seval,eff,lc,ld];refine ab (c':=[.int .i64 ((NT.node k tg ky at' tx sub sub.walk 1 0).1:Int)]) M6.f.wf M6.oc rfl rfl rfl ?_;rintro h7 o7 F7 n7;have od7:=F7.own _ _ (by simp;omega) M6.od;have ld7:ag h7 h2.next 0=some (.int .i64 (d:Int)):=od7.ld1 0;simp only[evs,seval,eff];refine ab (c':=[.int .i64 (d:Int)]) F7.wf od7 rfl rfl rfl ?_;rintro h8 o8 F8 n8;have a7:ag h8 h1.next 0=some (.int .i64 ((NT.node k tg ky at' tx sub sub.walk 1 0).1:Int)):=(F8.own _ _ (by simp;omega) o7).ld1 0;have a8:ag h8 h2.next 0=some (.int .i64 (d:Int)):=o8.ld1 0;simp only[evs,seval,DF,lc,ld,ld7,a7,a8];refine⟨d,by simp,?_⟩;exact Fr.new w F_h1 (Fr.trans (T:=[h1.next,h2.next]) (Fr.trans (T:=[h1.next,h2.next]) M6.f F7 F_h1.wf (by simp) (by simp)) F8 F_h1.wf (by simp) (by simp)) (by simp;omega)
theorem lI{h:Heap}{k:Nat}{tg ky:Str}{at':List (Str×Str)}{tx:Str}{va vc:V}{sub:NT}(w:WF h)(n:NH h (.cons k tg ky at' tx va vc sub .nil)):
 ao go 142 [.agg [.int .u8 (k:Int),.str tg,.str ky,va,.str tx,vc]] h fun u h'=>u=.int .i64 (NT.count k tg ky at' tx sub:Nat)∧Fr [] h h':=by
 obtain⟨h1,e_h1⟩:∃h1,h1=halloc h [.int .u8 (k:Int),.str tg,.str ky,va,.str tx,vc]:=⟨_,rfl⟩;have F_h1:Fr [] h h1:=e_h1▸Fr.halloc w _;have o_h1:Own h1 h.next [.int .u8 (k:Int),.str tg,.str ky,va,.str tx,vc]:=e_h1▸Own.new w _;refine ah rfl rfl ?_;simp only[fn142,evs,seval,←e_h1,o_h1.at6.2.2.2.2.2.2];refine aa (v9 F_h1.wf (n.fr F_h1)) ?_;rintro _ h2 ⟨d,rfl,F2⟩;simp only[evs,seval];exact F_h1.then F2
theorem i7{h:Heap}{k:Nat}{tg ky:Str}{at':List (Str×Str)}{tx:Str}{va vc:V}{sub:NT}(w:WF h)(n:NH h (.cons k tg ky at' tx va vc sub .nil)):
 ao go 74 [.agg [.int .u8 (k:Int),.str tg,.str ky,va,.str tx,vc]] h fun u h'=>u=.int .i64 (if NT.count k tg ky at' tx sub=0 then 14 else 0)∧Fr [] h h':=by
 obtain⟨h1,e_h1⟩:∃h1,h1=halloc h [.int .u8 (k:Int),.str tg,.str ky,va,.str tx,vc]:=⟨_,rfl⟩;have F_h1:Fr [] h h1:=e_h1▸Fr.halloc w _;have o_h1:Own h1 h.next [.int .u8 (k:Int),.str tg,.str ky,va,.str tx,vc]:=e_h1▸Own.new w _;by_cases c:NT.count k tg ky at' tx sub=0
 ·refine ah rfl rfl ?_;simp only[fn74,evs,seval,←e_h1,o_h1.at6.2.2.2.2.2.2];refine aa (lI F_h1.wf (n.fr F_h1)) ?_;rintro _ h2 ⟨rfl,F2⟩;simp only[evs,seval,show((NT.count k tg ky at' tx sub:Nat):Int)=0 by omega];exact⟨by rw[if_pos c],F_h1.then F2⟩
 ·refine ah rfl rfl ?_;simp only[fn74,evs,seval,←e_h1,o_h1.at6.2.2.2.2.2.2];refine aa (lI F_h1.wf (n.fr F_h1)) ?_;rintro _ h2 ⟨rfl,F2⟩;simp only[evs,seval,show¬((NT.count k tg ky at' tx sub:Nat):Int)=0 by omega];exact⟨by rw[if_neg c],F_h1.then F2⟩
theorem wy(z:Str):NT.count 1 z [] [] [] .nil=if okN z then 1 else 0:=by
 have a:fy 1 z [] [] [] .nil=okN z:=by simp[fy,cY,eO,NT.keys,NT.len]
 have e:NT.node 1 z [] [] [] .nil NT.nil.walk 1 0=(1,okN z):=by
  unfold NT.node;rw[a];cases okN z<;>rfl
 unfold NT.count;rw[e]
theorem wx(z:Str):NT.count 2 [] [] [] z .nil=if okT z then 1 else 0:=by
 have a:fy 2 [] [] [] z .nil=okT z:=by simp[fy,NT.len]
 have e:NT.node 2 [] [] [] z .nil NT.nil.walk 1 0=(1,okT z):=by
  unfold NT.node;rw[a];cases okT z<;>rfl
 unfold NT.count;rw[e]
theorem i5{h:Heap}(k:Nat)(hk:k<256)(tg tx:Str):NH h (.cons k tg [] [] tx .nils .nils .nil .nil):=⟨hk,Recs.nil,by simp,⟨rfl,rfl⟩,by simp[NT.len],trivial,trivial⟩
theorem eV{h:Heap}{z:Str}(w:WF h):ao go 248 [.str z] h fun u h'=>u=.bool (okN z)∧Fr [] h h':=by
 refine ah rfl rfl ?_;simp only[fn248,evs,↓reduceIte,Nat.reduceEqDiff];refine aa (i7 (at':=[]) (sub:=.nil) w (i5 1 (by omega) z [])) ?_;rintro _ h1 ⟨rfl,F⟩;rw[wy];cases okN z
 ·simp only[evs,↓reduceIte];exact⟨rfl,F⟩
 ·simp only[evs,↓reduceIte];exact F
theorem k9{h:Heap}{z:Str}(w:WF h):ao go 246 [.str z] h fun u h'=>u=.bool (okT z)∧Fr [] h h':=by
 refine ah rfl rfl ?_;simp only[fn246,evs,↓reduceIte,Nat.reduceEqDiff];refine aa (i7 (at':=[]) (sub:=.nil) w (i5 2 (by omega) [] z)) ?_;rintro _ h1 ⟨rfl,F⟩;rw[wx];cases okT z
 ·simp only[evs,↓reduceIte];exact⟨rfl,F⟩
 ·simp only[evs,↓reduceIte];exact F
abbrev Slo:=Str×Nat×Str
def pC(s:Slo):List V:=[.str s.1,.int .u8 (s.2.1:Int),.str s.2.2]
theorem eG(s:Slo):(pC s).length=3:=rfl
def fD(p:Option Str)(s:Slo):Bool:=okN s.1&&(decide (s.2.1≤3)&&(okT s.2.2&&((decide (s.2.1=0)||s.2.2==[])&&bR p s.1)))
def dG:Option Str→List Slo→Bool
 |_,[]=>true
 |p,s::r=>fD p s&&dG (some s.1) r
theorem ip(p:Option Str)(s:Slo)(r:List Slo):dG p (s::r)=(fD p s&&dG (some s.1) r):=rfl
def cK(at':List Slo)(i:Nat):Option Str:=if i=0 then none else(at'[i-1]?).map (·.1)
theorem nM{at':List Slo}{i:Nat}{a:Slo}(h:at'[i]? =some a):cK at' (i+1)=some a.1:=by simp[cK,h]
def bN(l:List Slo):Bool:=decide (l.length≤8)&&dG none l
theorem nt{h:Heap}{v:V}{l:List Slo}(w:WF h)(ra:Recs pC 3 h v l)(na:l.length≤4096):ao go 283 [v] h fun u h'=>u=.bool (bN l)∧Fr [] h h':=by
 by_cases c8:l.length≤8
 ·refine ah rfl rfl ?_;simp only[fn283,evs,seval,ra.len,show¬(8:Int)<(l.length:Nat) by omega];refine aC (fun n env hh=>Fr [] h hh∧∃(i:Nat),env.get 10=some (.int .i64 i)∧env.get 9=some (.int .i64 l.length)∧env.get 8=some v∧env.get 0=some v∧
   i≤l.length∧dG (cK l i) (l.drop i)=dG none l∧n=l.length-i) l.length (by omega) ?_ ?_
  ·exact⟨Fr.refl w,0,(by simp),(by simp),(by simp),(by simp),by omega,rfl,rfl⟩
  ·rintro n env hh ⟨F,i,g103,g102,g101,g0,hi,e,rfl⟩;by_cases hlt:i<l.length
   ·have hlt':(i:Int)<l.length:=by omega
    obtain⟨b',o',a,p1,p2,p3,p4⟩:=(ra.fr F).ix eG .i64 (i:Int) (by omega) hlt';rw[Int.toNat_natCast]at p4;rw[aJ p4,ip]at e;have en:=nM p4;have bad:∀{h'},Fr [] h h'→fD (cK l i) a=false→V.bool false=.bool (bN l)∧Fr [] h h':=fun f c=>by
     rw[c]at e;exact⟨by simp[bN,←e],f⟩
    obtain⟨h1,e_h1⟩:∃h1,h1=halloc hh [.str [],.int .u8 0,.str []]:=⟨_,rfl⟩;have F_h1:Fr [] hh h1:=e_h1▸Fr.halloc F.wf _;have o_h1:Own h1 hh.next [.str [],.int .u8 0,.str []]:=e_h1▸Own.new F.wf _;simp only[evs,seval,g103,g102,g101,hlt',p1,p3,←e_h1];refine ab (c':=[.str a.1,.int .u8 (a.2.1:Int),.str a.2.2]) F_h1.wf o_h1 rfl rfl rfl ?_;rintro h2 o2 F2 n2;have F02:Fr [] hh h2:=F_h1.fresh F2 F.wf (Nat.le_refl _);have q0:ag h2 hh.next 0=some (.str a.1):=o2.ld1 0;simp only[evs,seval,eff,q0];refine aa (eV F02.wf) ?_;rintro _ h3 ⟨rfl,F3⟩;have F03:=(F.then F02).then F3;have r1:ag h3 hh.next 1=some (.int .u8 (a.2.1:Int)):=(F3.get o2).ld1 1;have r2:ag h3 hh.next 2=some (.str a.2.2):=(F3.get o2).ld1 2;cases c1:okN a.1
    ·simp only[evs,seval,DF,eff,q0];exact bad F03 (by simp[fD,c1])
    by_cases c2:3<a.2.1
    ·simp only[evs,seval,DF,eff,q0,r1,show(3:Int)<(a.2.1:Nat) by omega];exact bad F03 (by simp[fD];omega)
    have c2':¬(3:Int)<(a.2.1:Nat):=by omega
    simp only[evs,seval,eff,r1,c2',r2];refine aa (k9 F3.wf) ?_;rintro _ h4 ⟨rfl,F4⟩;have F04:=F03.then F4;have o4:=F4.get (F3.get o2);have s0:ag h4 hh.next 0=some (.str a.1):=o4.ld1 0;have s1:ag h4 hh.next 1=some (.int .u8 (a.2.1:Int)):=o4.ld1 1;have s2:ag h4 hh.next 2=some (.str a.2.2):=o4.ld1 2;cases c3:okT a.2.2
    ·simp only[evs,seval,DF,eff,q0,r1,r2];exact bad F04 (by simp[fD,c3])
    have fin:(decide (a.2.1=0)||a.2.2==[])=true→bR (cK l i) a.1=true→dG (cK l (i+1)) (l.drop (i+1))=dG none l:=fun x y=>by
     have z:fD (cK l i) a=true:=by
      unfold fD;rw[c1,c3,x,y,show decide (a.2.1≤3)=true by simp;omega];rfl
     rw[z,Bool.true_and]at e;rw[en];exact e
    by_cases cf:a.2.1=0
    ·by_cases c4:i=0
     ·simp(disch:=omega) only[evs,seval,DF,eff,ai,g103,q0,r1,r2,s1,show¬(0:Int)<(a.2.1:Nat) by omega,show¬(0:Int)<(i:Int) by omega];refine(aj _ _ _).2 ⟨l.length-(i+1),by omega,F04,i+1,(by simp),(by simp[g102]),(by simp[g101]),(by simp[g0]),by omega,fin (by simp[cf]) (by simp[cK,c4,bR]),rfl⟩
      done
     ·obtain⟨b2,o2',a2,t1,t2,t3,t4⟩:=(ra.fr F04).ix eG .i64 ((i:Int)-1) (by omega) (by omega);have t4':l[i-1]? =some a2:=by rw[←t4];congr 1;omega
      have t2':ag h4 b2 o2'=some (.str a2.1):=t2 0 (by omega);have pe:cK l i=some a2.1:=by simp[cK,c4,t4']
      cases c5:leS a.1 a2.1
      ·simp(disch:=omega) only[evs,seval,DF,eff,ai,g103,g0,q0,r1,r2,s0,s1,show¬(0:Int)<(a.2.1:Nat) by omega,c5,t1,t2',ju,show(0:Int)<(i:Int) by omega];refine(aj _ _ _).2 ⟨l.length-(i+1),by omega,F04,i+1,(by simp),(by simp[g102]),(by simp[g101]),(by simp[g0]),by omega,fin (by simp[cf]) (by rw[pe];simp[bR,c5]),rfl⟩
       done
      ·simp(disch:=omega) only[evs,seval,DF,eff,ai,g0,q0,r1,r2,s0,s1,show¬(0:Int)<(a.2.1:Nat) by omega,c5,t1,t2',ju,show(0:Int)<(i:Int) by omega];exact bad F04 (by simp[fD,pe,bR,c5])
    ·cases cv:a.2.2==[]
     ·simp only[evs,seval,DF,eff,q0,r1,r2,s1,s2,show(0:Int)<(a.2.1:Nat) by omega,aS,cv];exact bad F04 (by simp[fD,cf,cv])
     ·by_cases c4:i=0
      ·simp(disch:=omega) only[evs,seval,DF,eff,ai,g103,q0,r1,r2,s1,s2,show(0:Int)<(a.2.1:Nat) by omega,aS,cv,show¬(0:Int)<(i:Int) by omega];refine(aj _ _ _).2 ⟨l.length-(i+1),by omega,F04,i+1,(by simp),(by simp[g102]),(by simp[g101]),(by simp[g0]),by omega,fin (by simp[cv]) (by simp[cK,c4,bR]),rfl⟩
       done
      ·obtain⟨b2,o2',a2,t1,t2,t3,t4⟩:=(ra.fr F04).ix eG .i64 ((i:Int)-1) (by omega) (by omega);have t4':l[i-1]? =some a2:=by rw[←t4];congr 1;omega
       have t2':ag h4 b2 o2'=some (.str a2.1):=t2 0 (by omega);have pe:cK l i=some a2.1:=by simp[cK,c4,t4']
       cases c5:leS a.1 a2.1
       ·simp(disch:=omega) only[evs,seval,DF,eff,ai,g103,g0,q0,r1,r2,s0,s1,s2,show(0:Int)<(a.2.1:Nat) by omega,aS,cv,c5,t1,t2',ju,show(0:Int)<(i:Int) by omega];refine(aj _ _ _).2 ⟨l.length-(i+1),by omega,F04,i+1,(by simp),(by simp[g102]),(by simp[g101]),(by simp[g0]),by omega,fin (by simp[cv]) (by rw[pe];simp[bR,c5]),rfl⟩
        done
       ·simp(disch:=omega) only[evs,seval,DF,eff,ai,g0,q0,r1,r2,s0,s1,s2,show(0:Int)<(a.2.1:Nat) by omega,aS,cv,c5,t1,t2',ju,show(0:Int)<(i:Int) by omega];exact bad F04 (by simp[fD,pe,bR,c5])
   ·simp only[evs,seval,g103,g102,show¬(i:Int)<l.length by omega];rw[List.drop_of_length_le (by omega)]at e;exact⟨by simp[bN,c8,←e,dG],F⟩
 ·refine ah rfl rfl ?_;simp only[fn283,evs,seval,ra.len,show(8:Int)<(l.length:Nat) by omega];exact⟨by simp[bN,c8],Fr.refl w⟩
set_option maxRecDepth 4000
inductive PT where
 |nil
 |cons (kind:Nat) (tag key:Str) (slots:List Slo) (text:Str) (va vc:V) (sub next:PT)
namespace PT
def len:PT→Nat
 |nil=>0
 |cons _ _ _ _ _ _ _ _ nx=>nx.len+1
def cells:PT→List V
 |nil=>[]
 |cons k tg ky _ tx va vc _ nx=>[.int .u8 (k:Int),.str tg,.str ky,va,.str tx,vc]++nx.cells
def keys:PT→List Str
 |nil=>[]
 |cons _ _ ky _ _ _ _ _ nx=>ky::nx.keys
theorem cells_len:∀t:PT,t.cells.length=t.len*6
 |nil=>rfl
 |cons _ _ _ _ _ _ _ _ nx=>by simp[cells,len,cells_len nx];omega
theorem keys_len:∀t:PT,t.keys.length=t.len
 |nil=>rfl
 |cons _ _ _ _ _ _ _ _ nx=>by simp[keys,len,keys_len nx]
def at':PT→Nat→PT
 |t,0=>t
 |nil,_+1=>nil
 |cons _ _ _ _ _ _ _ _ nx,i+1=>nx.at' i
end PT
def PH(h:Heap):PT→Prop
 |.nil=>True
 |.cons k _ _ at' _ va vc sub nx=>k<256∧Recs pC 3 h va at'∧at'.length≤4096∧Sl h 6 vc sub.len sub.cells∧sub.len≤4096∧PH h sub∧PH h nx
theorem PH.fr{h h':Heap}(f:Fr [] h h'):∀{t:PT},PH h t→PH h' t
 |.nil,_=>trivial
 |.cons _ _ _ _ _ _ _ _ _,⟨a,b,c,d,e,g,i⟩=>⟨a,b.fr f,c,d.fr f,e,PH.fr f g,PH.fr f i⟩
namespace PT
theorem split:∀(t:PT)(i:Nat),i<t.len→∃k tg ky at' tx va vc sub nx,t.at' i=.cons k tg ky at' tx va vc sub nx∧t.cells.drop (i*6)=[.int .u8 ((k:Nat):Int),.str tg,.str ky,va,.str tx,vc]++nx.cells∧t.at' (i+1)=nx∧t.keys.drop i=ky::nx.keys∧t.keys[i]? =some ky∧nx.len+(i+1)=t.len
 |.nil,_,h=>by cases h
 |.cons k tg ky at' tx va vc sub nx,0,_=>⟨k,tg,ky,at',tx,va,vc,sub,nx,rfl,rfl,by cases nx<;>rfl,rfl,rfl,rfl⟩
 |.cons _ _ _ _ _ _ _ _ nx,i+1,h=>by
  obtain⟨k,tg,ky,at',tx,va,vc,sub,n,e1,e2,e3,e4,e5,e6⟩:=split nx i (by simp[len]at h;omega);refine⟨k,tg,ky,at',tx,va,vc,sub,n,e1,?_,e3,e4,?_,by simp only[len];omega⟩
  ·rw[show(i+1) *6=6+i*6 by omega,←List.drop_drop];exact e2
  ·simpa[keys]using e5
theorem at_end:∀(t:PT)(i:Nat),t.len≤i→t.at' i=.nil
 |.nil,0,_=>rfl
 |.nil,_+1,_=>rfl
 |.cons _ _ _ _ _ _ _ _ nx,0,h=>by simp[len]at h
 |.cons _ _ _ _ _ _ _ _ nx,i+1,h=>at_end nx i (by simp[len]at h;omega)
end PT
theorem PH.at'{h:Heap}:∀{t:PT}(i:Nat),PH h t→PH h (t.at' i)
 |.nil,0,_=>trivial
 |.nil,_+1,_=>trivial
 |.cons _ _ _ _ _ _ _ _ _,0,a=>a
 |.cons _ _ _ _ _ _ _ _ _,i+1,⟨_,_,_,_,_,_,g⟩=>PH.at' i g
def cR(k:Nat)(tg ky:Str)(sl:List Slo)(tx:Str)(n:Nat):Bool:=
 if k=1 then(ky==[]||okN ky)&&(decide (n≤16)&&(okN tg&&(bN sl&&tx==[])))
 else if k=5 then okN tg&&(bN sl&&(ky==[]&&(tx==[]&&decide (n=0))))
 else if k=2 then okT tx&&(tg==[]&&(ky==[]&&(decide (sl.length=0)&&decide (n=0))))
 else if k=3∨k=4 then tg==[]&&(ky==[]&&(tx==[]&&(decide (sl.length=0)&&decide (n=0))))
 else false
theorem PH.ones{h:Heap}:∀{t:PT},PH h t→aq t.cells=true
 |.nil,_=>rfl
 |.cons k tg ky _ tx va vc _ nx,⟨_,b,_,d,_,_,g⟩=>by
  show aq ([.int .u8 (k:Int),.str tg,.str ky,va,.str tx,vc]++nx.cells)=true;rw[aM,PH.ones g];simp only[aA,aF,Sl.one b,Sl.one d];rfl
namespace PT
def node(k:Nat)(tg ky:Str)(at':List Slo)(tx:Str)(sub:PT)(w:Nat→Nat→Nat×Bool)(l c:Nat):Nat×Bool:=
 if 6<l∨64<c+1∨cR k tg ky at' tx sub.len=false then(c+1,false)else w (l+1) (c+1)
def walk:PT→Nat→Nat→Nat×Bool
 |nil,_,c=>(c,true)
 |cons k tg ky at' tx _ _ sub nx,l,c=>let r:=node k tg ky at' tx sub sub.walk l c;if r.2=true then nx.walk l r.1 else r
theorem gF:∀(t:PT)(l c:Nat),c≤64→(t.walk l c).1≤65∧((t.walk l c).2=true→(t.walk l c).1≤64)
 |nil,_,c,h=>⟨by simp[walk];omega,fun _=>h⟩
 |cons k tg ky at' tx _ _ sub nx,l,c,h=>by
  have q:(node k tg ky at' tx sub sub.walk l c).1≤65∧((node k tg ky at' tx sub sub.walk l c).2=true→(node k tg ky at' tx sub sub.walk l c).1≤64):=by
   unfold node;split
   ·exact⟨by simp;omega,fun e=>by cases e⟩
   ·rename_i x;exact gF sub (l+1) (c+1) (by omega)
  simp only[walk];split
  ·rename_i x;exact gF nx l _ (q.2 x)
  ·exact q
theorem node_le(k:Nat)(tg ky:Str)(at':List Slo)(tx:Str)(sub:PT)(l c:Nat)(h:c≤64):(node k tg ky at' tx sub sub.walk l c).1≤65∧((node k tg ky at' tx sub sub.walk l c).2=true→(node k tg ky at' tx sub sub.walk l c).1≤64):=by
 unfold node;split
 ·exact⟨by simp;omega,fun e=>by cases e⟩
 ·exact gF sub (l+1) (c+1) (by omega)
end PT
set_option maxRecDepth 4000
theorem yz{h:Heap}{b o k:Nat}{tg ky tx:Str}{sl:List Slo}{va vc:V}{sub:PT}(w:WF h)(hA:∀h',Fr [] h h'→At6 h' b o (.int .u8 (k:Int)) (.str tg) (.str ky) va (.str tx) vc)
 (ra:Recs pC 3 h va sl) (na:sl.length≤4096) (rc:Sl h 6 vc sub.len sub.cells) (nc:sub.len≤4096):
 ao go 261 [.ptr b o] h fun u h'=>u=.bool (cR k tg ky sl tx sub.len)∧Fr [] h h':=by
 have q:=hA h (Fr.refl w);have va1:=Sl.one ra;have vc1:=rc.one;obtain⟨h1,e_h1⟩:∃h1,h1=halloc h [.int .u8 0,.str [],.str [],.nils,.str [],.nils]:=⟨_,rfl⟩;have F_h1:Fr [] h h1:=e_h1▸Fr.halloc w _;have o_h1:Own h1 h.next [.int .u8 0,.str [],.str [],.nils,.str [],.nils]:=e_h1▸Own.new w _;refine ah rfl rfl ?_;simp only[fn261,evs,seval,←e_h1,q.2.2.2.2.2.2];refine ab (c':=[.int .u8 (k:Int),.str tg,.str ky,va,.str tx,vc]) F_h1.wf o_h1 rfl (by simp only[V.cells,aA,aF,va1,vc1];rfl) rfl ?_;rintro h2 o2 F2 n2;have F02:Fr [] h h2:=F_h1.fresh F2 w (Nat.le_refl _);obtain⟨q0,q1,q2,q3,q4,q5,_⟩:=hA h2 F02;have l3:aP .lenS [va]=some (.int .i64 (sl.length:Nat)):=ra.len;have l5:aP .lenS [vc]=some (.int .i64 (sub.len:Nat)):=rc.len;have s1:ag h2 h.next 1=some (.str tg):=o2.ld1 1;have s2:ag h2 h.next 2=some (.str ky):=o2.ld1 2;have s3:ag h2 h.next 3=some va:=o2.ld1 3;have s4:ag h2 h.next 4=some (.str tx):=o2.ld1 4;have s5:ag h2 h.next 5=some vc:=o2.ld1 5;unfold cR;by_cases k1:k=1
 ·rw[if_pos k1];cases ck:ky==[]
  ·simp only[evs,seval,q0,show(k:Int)=1 by omega,q2,aS,ck];refine aa (eV F2.wf) ?_;rintro _ h3 ⟨rfl,F3⟩;have F03:=F02.then F3;cases cn:okN ky
   ·simp only[evs,seval];exact⟨by simp[],F03⟩
   have qp:=(hA h3 F03).2.2.2.2.2.1;by_cases cp0:¬sub.len≤16
   ·simp only[evs,seval,qp,l5,show(16:Int)<(sub.len:Nat) by omega];exact⟨by simp[cp0],F03⟩
   have cp:sub.len≤16:=by omega
   simp only[evs,seval,qp,l5,show¬(16:Int)<(sub.len:Nat) by omega];refine ab (c':=[.int .u8 (k:Int),.str tg,.str [],va,.str tx,vc]) F3.wf (F3.get o2) rfl rfl rfl ?_;rintro he oe Fe ne;simp only[evs,seval];refine ab (c':=[.int .u8 (k:Int),.str tg,.str [],va,.str tx,.nils]) Fe.wf oe rfl rfl rfl ?_;rintro hf of Ff nf;have Gf:Fr [] h hf:=(F03.fresh Fe w (Nat.le_refl _)).fresh Ff w (Nat.le_refl _);have qa:=(hA hf Gf).2.1;simp only[evs,seval,qa];refine aa (eV Gf.wf) ?_;rintro _ ha ⟨rfl,Fa⟩;have G1:=Gf.then Fa;have qb:=(hA ha G1).2.2.2.1;cases c1:okN tg
   ·simp only[evs,seval];exact⟨by simp[cp],G1⟩
   simp only[evs,seval,qb];refine aa (nt Fa.wf (ra.fr G1) na) ?_;rintro _ hb ⟨rfl,Fb⟩;have G2:=G1.then Fb;cases c2:bN sl
   ·simp only[evs,seval];exact⟨by simp[cp],G2⟩
   simp only[evs,seval];have oa:=Fb.get (Fa.get of);refine ab (c':=[.int .u8 (k:Int),.str [],.str [],va,.str tx,.nils]) Fb.wf oa rfl rfl rfl ?_;rintro hc oc Fc nc1;simp only[evs,seval];refine ab (c':=[.int .u8 (k:Int),.str [],.str [],.nils,.str tx,.nils]) Fc.wf oc rfl rfl rfl ?_;rintro hd od Fd nd;have G3:Fr [] h hd:=(G2.fresh Fc w (Nat.le_refl _)).fresh Fd w (Nat.le_refl _);have z1:ag hd h.next 1=some (.str []):=od.ld1 1;have z2:ag hd h.next 2=some (.str []):=od.ld1 2;have z3:ag hd h.next 3=some (.nils):=od.ld1 3;have z4:ag hd h.next 4=some (.str tx):=od.ld1 4;have z5:ag hd h.next 5=some (.nils):=od.ld1 5;cases tX:tx==[]
   ·simp only[evs,seval,z1,z2,z4,aI,show(([]:Str)==[])=true from rfl,tX];exact⟨by simp[cp],G3⟩
   simp only[evs,seval,z1,z2,z3,z4,z5,aI,show(([]:Str)==[])=true from rfl,tX];exact⟨by simp[cp],G3⟩
  ·have F03:=F02;have qp:=(hA h2 F02).2.2.2.2.2.1;by_cases cp0:¬sub.len≤16
   ·simp only[evs,seval,q0,show(k:Int)=1 by omega,q2,aS,ck,qp,l5,show(16:Int)<(sub.len:Nat) by omega];exact⟨by simp[cp0],F02⟩
   have cp:sub.len≤16:=by omega
   simp only[evs,seval,q0,show(k:Int)=1 by omega,q2,aS,ck,qp,l5,show¬(16:Int)<(sub.len:Nat) by omega];refine ab (c':=[.int .u8 (k:Int),.str tg,.str [],va,.str tx,vc]) F2.wf o2 rfl rfl rfl ?_;rintro he oe Fe ne;simp only[evs,seval];refine ab (c':=[.int .u8 (k:Int),.str tg,.str [],va,.str tx,.nils]) Fe.wf oe rfl rfl rfl ?_;rintro hf of Ff nf;have Gf:Fr [] h hf:=(F02.fresh Fe w (Nat.le_refl _)).fresh Ff w (Nat.le_refl _);have qa:=(hA hf Gf).2.1;simp only[evs,seval,qa];refine aa (eV Gf.wf) ?_;rintro _ ha ⟨rfl,Fa⟩;have G1:=Gf.then Fa;have qb:=(hA ha G1).2.2.2.1;cases c1:okN tg
   ·simp only[evs,seval];exact⟨by simp[cp],G1⟩
   simp only[evs,seval,qb];refine aa (nt Fa.wf (ra.fr G1) na) ?_;rintro _ hb ⟨rfl,Fb⟩;have G2:=G1.then Fb;cases c2:bN sl
   ·simp only[evs,seval];exact⟨by simp[cp],G2⟩
   simp only[evs,seval];have oa:=Fb.get (Fa.get of);refine ab (c':=[.int .u8 (k:Int),.str [],.str [],va,.str tx,.nils]) Fb.wf oa rfl rfl rfl ?_;rintro hc oc Fc nc1;simp only[evs,seval];refine ab (c':=[.int .u8 (k:Int),.str [],.str [],.nils,.str tx,.nils]) Fc.wf oc rfl rfl rfl ?_;rintro hd od Fd nd;have G3:Fr [] h hd:=(G2.fresh Fc w (Nat.le_refl _)).fresh Fd w (Nat.le_refl _);have z1:ag hd h.next 1=some (.str []):=od.ld1 1;have z2:ag hd h.next 2=some (.str []):=od.ld1 2;have z3:ag hd h.next 3=some (.nils):=od.ld1 3;have z4:ag hd h.next 4=some (.str tx):=od.ld1 4;have z5:ag hd h.next 5=some (.nils):=od.ld1 5;cases tX:tx==[]
   ·simp only[evs,seval,z1,z2,z4,aI,show(([]:Str)==[])=true from rfl,tX];exact⟨by simp[cp],G3⟩
   simp only[evs,seval,z1,z2,z3,z4,z5,aI,show(([]:Str)==[])=true from rfl,tX];exact⟨by simp[cp],G3⟩
 by_cases k5:k=5
 ·rw[if_neg k1,if_pos k5];have qa:=(hA h2 F02).2.1;simp only[evs,seval,q0,show(k:Int)=5 by omega,qa];refine aa (eV F02.wf) ?_;rintro _ ha ⟨rfl,Fa⟩;have G1:=F02.then Fa;have qb:=(hA ha G1).2.2.2.1;cases c1:okN tg
  ·simp only[evs,seval];exact⟨by simp[],G1⟩
  simp only[evs,seval,qb];refine aa (nt Fa.wf (ra.fr G1) na) ?_;rintro _ hb ⟨rfl,Fb⟩;have G2:=G1.then Fb;cases c2:bN sl
  ·simp only[evs,seval];exact⟨by simp[],G2⟩
  simp only[evs,seval];have oa:=Fb.get (Fa.get o2);refine ab (c':=[.int .u8 (k:Int),.str [],.str ky,va,.str tx,vc]) Fb.wf oa rfl rfl rfl ?_;rintro hc oc Fc nc1;simp only[evs,seval];refine ab (c':=[.int .u8 (k:Int),.str [],.str ky,.nils,.str tx,vc]) Fc.wf oc rfl rfl rfl ?_;rintro hd od Fd nd;have G3:Fr [] h hd:=(G2.fresh Fc w (Nat.le_refl _)).fresh Fd w (Nat.le_refl _);have z1:ag hd h.next 1=some (.str []):=od.ld1 1;have z2:ag hd h.next 2=some (.str ky):=od.ld1 2;have z3:ag hd h.next 3=some (.nils):=od.ld1 3;have z4:ag hd h.next 4=some (.str tx):=od.ld1 4;have z5:ag hd h.next 5=some (vc):=od.ld1 5;cases tK:ky==[]
  ·simp only[evs,seval,z1,z2,aI,show(([]:Str)==[])=true from rfl,tK];exact⟨by simp[],G3⟩
  cases tX:tx==[]
  ·simp only[evs,seval,z1,z2,z4,aI,show(([]:Str)==[])=true from rfl,tK,tX];exact⟨by simp[],G3⟩
  by_cases tP0:¬sub.len=0
  ·simp only[evs,seval,z1,z2,z3,z4,z5,aI,show(([]:Str)==[])=true from rfl,tK,tX,l5,show¬((sub.len:Nat):Int)=0 by omega];exact⟨by simp[tP0],G3⟩
  have tP:sub.len=0:=by omega
  simp only[evs,seval,z1,z2,z3,z4,z5,aI,show(([]:Str)==[])=true from rfl,tK,tX,l5,show((sub.len:Nat):Int)=0 by omega];exact⟨by simp[tP],G3⟩
 by_cases k2:k=2
 ·rw[if_neg k1,if_neg k5,if_pos k2];simp only[evs,seval,q0,show(k:Int)=2 by omega,q4];refine aa (k9 F2.wf) ?_;rintro _ h3 ⟨rfl,F3⟩;have F03:=F02.then F3;cases c1:okT tx
  ·simp only[evs,seval];exact⟨by simp,F03⟩
  simp only[evs,seval];refine ab (c':=[.int .u8 (k:Int),.str tg,.str ky,va,.str [],vc]) F3.wf (F3.get o2) rfl rfl rfl ?_;rintro hd od Fd nd;have G3:Fr [] h hd:=F03.fresh Fd w (Nat.le_refl _);have z1:ag hd h.next 1=some (.str tg):=od.ld1 1;have z2:ag hd h.next 2=some (.str ky):=od.ld1 2;have z3:ag hd h.next 3=some (va):=od.ld1 3;have z4:ag hd h.next 4=some (.str []):=od.ld1 4;have z5:ag hd h.next 5=some (vc):=od.ld1 5;cases tT:tg==[]
  ·simp only[evs,seval,z1,aI,tT];exact⟨by simp[],G3⟩
  cases tK:ky==[]
  ·simp only[evs,seval,z1,z2,aI,tT,tK];exact⟨by simp[],G3⟩
  by_cases tS0:¬sl.length=0
  ·simp only[evs,seval,z1,z2,z3,z4,aI,show(([]:Str)==[])=true from rfl,tT,tK,l3,show¬((sl.length:Nat):Int)=0 by omega];exact⟨by simp[tS0],G3⟩
  have tS:sl.length=0:=by omega
  by_cases tP0:¬sub.len=0
  ·simp only[evs,seval,z1,z2,z3,z4,z5,aI,show(([]:Str)==[])=true from rfl,tT,tK,l3,show((sl.length:Nat):Int)=0 by omega,l5,show¬((sub.len:Nat):Int)=0 by omega];exact⟨by simp[tS,tP0],G3⟩
  have tP:sub.len=0:=by omega
  simp only[evs,seval,z1,z2,z3,z4,z5,aI,show(([]:Str)==[])=true from rfl,tT,tK,l3,show((sl.length:Nat):Int)=0 by omega,l5,show((sub.len:Nat):Int)=0 by omega];exact⟨by simp[tS,tP],G3⟩
 by_cases k34:k=3∨k=4
 ·rw[if_neg k1,if_neg k5,if_neg k2,if_pos k34];by_cases k3:k=3
  ·have G3:=F02;cases tT:tg==[]
   ·simp only[evs,seval,q0,show(k:Int)=3 by omega,s1,aI,tT];exact⟨by simp[],G3⟩
   cases tK:ky==[]
   ·simp only[evs,seval,q0,show(k:Int)=3 by omega,s1,s2,aI,tT,tK];exact⟨by simp[],G3⟩
   cases tX:tx==[]
   ·simp only[evs,seval,q0,show(k:Int)=3 by omega,s1,s2,s4,aI,tT,tK,tX];exact⟨by simp[],G3⟩
   by_cases tS0:¬sl.length=0
   ·simp only[evs,seval,q0,show(k:Int)=3 by omega,s1,s2,s3,s4,aI,tT,tK,tX,l3,show¬((sl.length:Nat):Int)=0 by omega];exact⟨by simp[tS0],G3⟩
   have tS:sl.length=0:=by omega
   by_cases tP0:¬sub.len=0
   ·simp only[evs,seval,q0,show(k:Int)=3 by omega,s1,s2,s3,s4,s5,aI,tT,tK,tX,l3,show((sl.length:Nat):Int)=0 by omega,l5,show¬((sub.len:Nat):Int)=0 by omega];exact⟨by simp[tS,tP0],G3⟩
   have tP:sub.len=0:=by omega
   simp only[evs,seval,q0,show(k:Int)=3 by omega,s1,s2,s3,s4,s5,aI,tT,tK,tX,l3,show((sl.length:Nat):Int)=0 by omega,l5,show((sub.len:Nat):Int)=0 by omega];exact⟨by simp[tS,tP],G3⟩
  ·have G3:=F02;cases tT:tg==[]
   ·simp only[evs,seval,q0,show(k:Int)=4 by omega,s1,aI,tT];exact⟨by simp[],G3⟩
   cases tK:ky==[]
   ·simp only[evs,seval,q0,show(k:Int)=4 by omega,s1,s2,aI,tT,tK];exact⟨by simp[],G3⟩
   cases tX:tx==[]
   ·simp only[evs,seval,q0,show(k:Int)=4 by omega,s1,s2,s4,aI,tT,tK,tX];exact⟨by simp[],G3⟩
   by_cases tS0:¬sl.length=0
   ·simp only[evs,seval,q0,show(k:Int)=4 by omega,s1,s2,s3,s4,aI,tT,tK,tX,l3,show¬((sl.length:Nat):Int)=0 by omega];exact⟨by simp[tS0],G3⟩
   have tS:sl.length=0:=by omega
   by_cases tP0:¬sub.len=0
   ·simp only[evs,seval,q0,show(k:Int)=4 by omega,s1,s2,s3,s4,s5,aI,tT,tK,tX,l3,show((sl.length:Nat):Int)=0 by omega,l5,show¬((sub.len:Nat):Int)=0 by omega];exact⟨by simp[tS,tP0],G3⟩
   have tP:sub.len=0:=by omega
   simp only[evs,seval,q0,show(k:Int)=4 by omega,s1,s2,s3,s4,s5,aI,tT,tK,tX,l3,show((sl.length:Nat):Int)=0 by omega,l5,show((sub.len:Nat):Int)=0 by omega];exact⟨by simp[tS,tP],G3⟩
 ·rw[if_neg k1,if_neg k5,if_neg k2,if_neg k34];simp only[evs,seval,q0,show¬(k:Int)=1 by omega,show¬(k:Int)=5 by omega,show¬(k:Int)=2 by omega,show¬(k:Int)=3 by omega,show¬(k:Int)=4 by omega];exact F02
structure Tm(h0 h:Heap)(bc bf bw:Nat)(c:Nat):Prop where
 f:Fr [] h0 h
 oc:Own h bc [.int .i64 (c:Int)]
 od:Own h bf [.func (.func 222) [] []]
 ow:Own h bw [.func (.func 260) [] [.ptr bc 0,.ptr bf 0,.ptr bw 0]]
theorem Tm.fr{h0 h h':Heap}{bc bf bw c:Nat}(m:Tm h0 h bc bf bw c)(f:Fr [] h h'):Tm h0 h' bc bf bw c:=⟨m.f.then f,f.get m.oc,f.get m.od,f.get m.ow⟩
def ET(h0:Heap)(k:Nat)(tg ky:Str)(at':List Slo)(tx:Str)(va vc:V)(sub:PT):Prop:=
 ∀(h:Heap)(b o bc bd bw l c:Nat),MsB h0 bc bd bw→Tm h0 h bc bd bw c→(∀h',Fr [] h0 h'→At6 h' b o (.int .u8 (k:Int)) (.str tg) (.str ky) va (.str tx) vc)→l≤7→c≤64→
  ao go 260 [.ptr b o,.int .i64 (l:Int),.ptr bc 0,.ptr bd 0,.ptr bw 0] h fun u h'=>u=.bool (PT.node k tg ky at' tx sub sub.walk l c).2∧Tm h0 h' bc bd bw (PT.node k tg ky at' tx sub sub.walk l c).1
def TAll(h0:Heap):PT→Prop
 |.nil=>True
 |.cons k tg ky at' tx va vc sub nx=>ET h0 k tg ky at' tx va vc sub∧TAll h0 nx
theorem TAll.at'{h:Heap}:∀{t:PT}(i:Nat),TAll h t→TAll h (t.at' i)
 |.nil,0,_=>trivial
 |.nil,_+1,_=>trivial
 |.cons _ _ _ _ _ _ _ _ _,0,a=>a
 |.cons _ _ _ _ _ _ _ _ _,i+1,⟨_,g⟩=>TAll.at' i g
theorem Fp{h:Heap}(v:V):ao go 222 [v] h fun u h'=>u=.tup []∧h=h':=by
 refine ah rfl rfl ?_;simp only[fn222,evs]
theorem Ag{h0:Heap}{k:Nat}{tg ky:Str}{at':List Slo}{tx:Str}{va vc:V}{sub:PT}
 (ra:Recs pC 3 h0 va at') (na:at'.length≤4096) (rc:Sl h0 6 vc sub.len sub.cells) (nc:sub.len≤4096) (A:TAll h0 sub):ET h0 k tg ky at' tx va vc sub:=by
 intro h b o bc bd bw l c B M hA hl hc;have lc:ag h bc 0=some (.int .i64 (c:Int)):=M.oc.ld1 0;refine ah rfl rfl ?_;simp(disch:=omega) only[fn260,evs,seval,ai,lc];refine ab (c':=[.int .i64 ((c+1:Nat):Int)]) M.f.wf M.oc rfl rfl rfl ?_;rintro h1 o1 F1 n1;have M2:Tm h0 h1 bc bd bw (c+1):=by
  refine⟨?_,o1,F1.own _ _ (by simpa using B.cd.symm) M.od,F1.own _ _ (by simpa using B.cw.symm) M.ow⟩;exact Fr.trans M.f F1 B.w (fun x hx=>.inl hx) (fun x hx=>.inr (by simp at hx;subst hx;exact B.c))
 have lc2:ag h1 bc 0=some (.int .i64 ((c+1:Nat):Int)):=M2.oc.ld1 0;by_cases c1:6<l
 ·have e:PT.node k tg ky at' tx sub sub.walk l c=(c+1,false):=if_pos (.inl c1);simp only[evs,seval,show(6:Int)<(l:Int) by omega];rw[e];exact⟨rfl,M2⟩
 by_cases c2:64<c+1
 ·have e:PT.node k tg ky at' tx sub sub.walk l c=(c+1,false):=if_pos (.inr (.inl c2));simp only[evs,seval,show¬(6:Int)<(l:Int) by omega,lc2,show(64:Int)<((c+1:Nat):Int) by omega];rw[e];exact⟨rfl,M2⟩
 simp only[evs,seval,show¬(6:Int)<(l:Int) by omega,lc2,show¬(64:Int)<((c+1:Nat):Int) by omega];refine aa (yz M2.f.wf (fun h' f=>hA h' (M2.f.then f)) (ra.fr M2.f) na (rc.fr M2.f) nc) ?_;rintro _ h3 ⟨rfl,F3⟩;have M3:=M2.fr F3;cases c3:cR k tg ky at' tx sub.len
 ·have e:PT.node k tg ky at' tx sub sub.walk l c=(c+1,false):=if_pos (.inr (.inr c3));simp only[evs,seval];rw[e];exact⟨rfl,M3⟩
 have e:PT.node k tg ky at' tx sub sub.walk l c=sub.walk (l+1) (c+1):=if_neg (by simp[c3];omega);rw[e];have q5:=(hA h3 M3.f).2.2.2.2.2.1;have lf:ag h3 bd 0=some (.func (.func 222) [] []):=M3.od.ld1 0;simp only[evs,seval,lf];refine aa (Fp _) ?_;rintro _ _ ⟨rfl,rfl⟩;simp only[evs,seval,q5,(rc.fr M3.f).len];refine aC (fun n env hh=>∃(i c':Nat),Tm h0 hh bc bd bw c'∧env.get 30=some (.int .i64 i)∧env.get 29=some (.int .i64 sub.len)∧env.get 0=some (.ptr b o)∧env.get 1=some (.int .i64 l)∧env.get 4=some (.ptr bw 0)∧
  i≤sub.len∧c'≤64∧(sub.at' i).walk (l+1) c'=sub.walk (l+1) (c+1)∧n=sub.len-i) sub.len (by omega) ?_ ?_
 ·exact⟨0,c+1,M3,(by simp),(by simp),(by simp),(by simp),(by simp),by omega,by omega,by cases sub<;>rfl,rfl⟩
 ·rintro n env hh ⟨i,c',M',g30,g29,g0,g1,g4,hi,hc',e',rfl⟩;by_cases hlt:i<sub.len
  ·obtain⟨kd,tg',ky',at2,tx',va',vc',sb,nx,e1,e2,e3,e4,e5,e6⟩:=sub.split i hlt;have hlt':(i:Int)<sub.len:=by omega
   have a:=A.at' i;rw[e1]at a e';obtain⟨b',o',p1,_⟩:=(rc.fr M'.f).ix6 hlt e2;have hA':∀h',Fr [] h0 h'→At6 h' b' o' (.int .u8 (kd:Int)) (.str tg') (.str ky') va' (.str tx') vc':=fun h' f=>by
    obtain⟨b2,o2,p1',p2'⟩:=(rc.fr f).ix6 hlt e2;rw[p1]at p1';cases p1';exact p2'
   have q5:=(hA hh M'.f).2.2.2.2.2.1;have lw:ag hh bw 0=some (.func (.func 260) [] [.ptr bc 0,.ptr bd 0,.ptr bw 0]):=M'.ow.ld1 0;simp(disch:=omega) only[evs,seval,eff,ai,g30,g29,g0,g1,g4,hlt',lw,q5,p1];refine aa (a.1 hh b' o' bc bd bw (l+1) c' B M' hA' (by omega) hc') ?_;rintro _ h4 ⟨rfl,M4⟩;simp only[PT.walk]at e';have nl:=PT.node_le kd tg' ky' at2 tx' sb (l+1) c' hc';cases c4:(PT.node kd tg' ky' at2 tx' sb sb.walk (l+1) c').2
   ·rw[c4]at e';simp only[evs,seval,DF,eff,g4,lw,q5];rw[←e'];exact⟨by simp[c4],by simpa using M4⟩
   ·rw[c4]at e';simp(disch:=omega) only[evs,seval,DF,eff,ai,g30,g4,lw,q5];refine(aj _ _ _).2 ⟨sub.len-(i+1),by omega,i+1,_,M4,(by simp),(by simp[g29]),(by simp[g0]),(by simp[g1]),(by simp[g4]),by omega,nl.2 c4,?_,rfl⟩;rw[e3];simpa using e'
  ·simp only[evs,seval,g30,g29,show¬(i:Int)<sub.len by omega];rw[PT.at_end _ _ (by omega)]at e';rw[←e'];exact⟨rfl,M'⟩
theorem tall{h:Heap}:∀{t:PT},PH h t→TAll h t
 |.nil,_=>trivial
 |.cons _ _ _ _ _ _ _ _ _,⟨_,b,c,d,e,f,g⟩=>⟨Ag b c d e (tall f),tall g⟩
def PT.count(k:Nat)(tg ky:Str)(at':List Slo)(tx:Str)(sub:PT):Nat:=
 if k=1∧(node k tg ky at' tx sub sub.walk 1 0).2=true then(node k tg ky at' tx sub sub.walk 1 0).1 else 0
theorem Ae{h:Heap}{k b o:Nat}{tg ky:Str}{at':List Slo}{tx:Str}{va vc:V}{sub:PT}(w:WF h)(n:PH h (.cons k tg ky at' tx va vc sub .nil))
 (hA:∀h',Fr [] h h'→At6 h' b o (.int .u8 (k:Int)) (.str tg) (.str ky) va (.str tx) vc):
 ao go 221 [.ptr b o,.func (.func 222) [] []] h fun u h'=>u=.int .i64 (PT.count k tg ky at' tx sub:Nat)∧Fr [] h h':=by
 obtain⟨h2,e_h2⟩:∃h2,h2=halloc h [.func (.func 222) [] []]:=⟨_,rfl⟩;have F_h2:Fr [] h h2:=e_h2▸Fr.halloc w _;have o_h2:Own h2 h.next [.func (.func 222) [] []]:=e_h2▸Own.new w _;have q0:=(hA h2 F_h2).1;by_cases k1:k=1
 ·obtain⟨h3,e_h3⟩:∃h3,h3=halloc h2 [.int .i64 0]:=⟨_,rfl⟩;have F_h3:Fr [] h2 h3:=e_h3▸Fr.halloc F_h2.wf _;have o_h3:Own h3 h2.next [.int .i64 0]:=e_h3▸Own.new F_h2.wf _;have n2:h2.next=h.next+1:=by rw[e_h2];rfl
  have n3:h3.next=h2.next+1:=by rw[e_h3];rfl
  refine ah rfl rfl ?_;simp only[fn221,evs,seval,←e_h2,q0,show(k:Int)=1 by omega,←e_h3];refine ab (c':=[.int .i64 0]) F_h3.wf o_h3 rfl rfl rfl ?_;rintro h4 o4 F4 n4;obtain⟨h5,e_h5⟩:∃h5,h5=halloc h4 [.nilf]:=⟨_,rfl⟩;have F_h5:Fr [] h4 h5:=e_h5▸Fr.halloc F4.wf _;have o_h5:Own h5 h4.next [.nilf]:=e_h5▸Own.new F4.wf _;simp only[evs,seval,←e_h5];refine ab (c':=[.func (.func 260) [] [.ptr h2.next 0,.ptr h.next 0,.ptr h4.next 0]]) F_h5.wf o_h5 rfl rfl rfl ?_;rintro h6 o6 F6 n6;have F24:Fr [] h h4:=(F_h2.then F_h3).fresh F4 w (by omega);have F06:Fr [] h h6:=(F24.then F_h5).fresh F6 w (by omega);have B:MsB h h2.next h.next h4.next:=⟨w,by omega,Nat.le_refl _,by omega,by omega,by omega,by omega⟩;have M:Tm h h6 h2.next h.next h4.next 0:=⟨F06,F6.own _ _ (by simp;omega) (F_h5.get o4),F6.own _ _ (by simp;omega) (F_h5.get (F4.own _ _ (by simp;omega) (F_h3.get o_h2))),o6⟩;have lw:ag h6 h4.next 0=some (.func (.func 260) [] [.ptr h2.next 0,.ptr h.next 0,.ptr h4.next 0]):=o6.ld1 0;simp only[evs,seval,lw];refine aa ((tall n).1 h6 b o h2.next h.next h4.next 1 0 B M hA (by omega) (by omega)) ?_;rintro _ h7 ⟨rfl,M7⟩;unfold PT.count;cases c:(PT.node k tg ky at' tx sub sub.walk 1 0).2
  ·simp only[evs,seval];exact⟨by simp,M7.f⟩
  ·have lc:ag h7 h2.next 0=some (.int .i64 ((PT.node k tg ky at' tx sub sub.walk 1 0).1:Int)):=M7.oc.ld1 0;simp only[evs,seval,lc];exact⟨by simp[k1],M7.f⟩
 ·refine ah rfl rfl ?_;simp only[fn221,evs,seval,←e_h2,q0,show¬(k:Int)=1 by omega];exact⟨by simp[PT.count,k1],F_h2⟩
theorem pP{h:Heap}{k:Nat}{tg ky:Str}{at':List Slo}{tx:Str}{va vc:V}{sub:PT}(w:WF h)(n:PH h (.cons k tg ky at' tx va vc sub .nil)):
 ao go 163 [.agg [.int .u8 (k:Int),.str tg,.str ky,va,.str tx,vc]] h fun u h'=>u=.int .i64 (PT.count k tg ky at' tx sub:Nat)∧Fr [] h h':=by
 obtain⟨h1,e_h1⟩:∃h1,h1=halloc h [.int .u8 (k:Int),.str tg,.str ky,va,.str tx,vc]:=⟨_,rfl⟩;have F_h1:Fr [] h h1:=e_h1▸Fr.halloc w _;have o_h1:Own h1 h.next [.int .u8 (k:Int),.str tg,.str ky,va,.str tx,vc]:=e_h1▸Own.new w _;refine ah rfl rfl ?_;simp only[fn163,evs,seval,←e_h1];refine aa (Ae F_h1.wf (n.fr F_h1) (fun h' f=>(f.get o_h1).at6)) ?_;rintro _ h2 ⟨rfl,F2⟩;simp only[evs,seval];exact F_h1.then F2
theorem pQ{h:Heap}{k:Nat}{tg ky:Str}{at':List Slo}{tx:Str}{va vc:V}{sub:PT}(w:WF h)(n:PH h (.cons k tg ky at' tx va vc sub .nil)):
 ao go 89 [.agg [.int .u8 (k:Int),.str tg,.str ky,va,.str tx,vc]] h fun u h'=>u=.int .i64 (if PT.count k tg ky at' tx sub=0 then 14 else 0)∧Fr [] h h':=by
 obtain⟨h1,e_h1⟩:∃h1,h1=halloc h [.int .u8 (k:Int),.str tg,.str ky,va,.str tx,vc]:=⟨_,rfl⟩;have F_h1:Fr [] h h1:=e_h1▸Fr.halloc w _;have o_h1:Own h1 h.next [.int .u8 (k:Int),.str tg,.str ky,va,.str tx,vc]:=e_h1▸Own.new w _;by_cases c:PT.count k tg ky at' tx sub=0
 ·refine ah rfl rfl ?_;simp only[fn89,evs,seval,←e_h1,o_h1.at6.2.2.2.2.2.2];refine aa (pP F_h1.wf (n.fr F_h1)) ?_;rintro _ h2 ⟨rfl,F2⟩;simp only[evs,seval,show((PT.count k tg ky at' tx sub:Nat):Int)=0 by omega];exact⟨by rw[if_pos c],F_h1.then F2⟩
 ·refine ah rfl rfl ?_;simp only[fn89,evs,seval,←e_h1,o_h1.at6.2.2.2.2.2.2];refine aa (pP F_h1.wf (n.fr F_h1)) ?_;rintro _ h2 ⟨rfl,F2⟩;simp only[evs,seval,show¬((PT.count k tg ky at' tx sub:Nat):Int)=0 by omega];exact⟨by rw[if_neg c],F_h1.then F2⟩
theorem H6:D6 247:=⟨by decide,fun z h w=>by
 refine ah rfl rfl ?_;simp only[fn247,evs,seval];refine aa (eV w) ?_;rintro _ h1 ⟨rfl,F⟩;simp only[evs,seval];exact F⟩
def fM(x:Itm):Bool:=decide (x.key≠0)&&(okT x.text&&okM x.marks)
theorem sV{h:Heap}{x:Itm}(w:WF h)(a:ItmH h x):ao go 201 [.agg x.cells] h fun u h'=>u=.int .i64 (if fM x then 0 else 6)∧Fr [] h h':=by
 obtain⟨h1,e_h1⟩:∃h1,h1=halloc h x.cells:=⟨_,rfl⟩;have F_h1:Fr [] h h1:=e_h1▸Fr.halloc w _;have o_h1:Own h1 h.next x.cells:=e_h1▸Own.new w _;have l0:ag h1 h.next 0=some (.int .u64 (x.key:Int)):=o_h1.ld1 0;have l2:ag h1 h.next 2=some (.str x.text):=o_h1.ld1 2;by_cases c0:x.key=0
 ·refine ah rfl rfl ?_;simp only[fn201,evs,seval,←e_h1,l0,show(x.key:Int)=0 by omega];exact⟨by simp[fM,c0],F_h1⟩
 ·refine ah rfl rfl ?_;simp only[fn201,evs,seval,←e_h1,l0,show¬(x.key:Int)=0 by omega,l2];refine aa (k9 F_h1.wf) ?_;rintro _ h2 ⟨rfl,F2⟩;have F02:=F_h1.then F2;have l3:ag h2 h.next 3=some x.vm:=(F2.get o_h1).ld1 3;cases c2:okT x.text
  ·simp only[evs,seval];exact⟨by simp[fM,c2],F02⟩
  ·by_cases c3:x.marks.length≤8
   ·simp only[evs,seval,l3,a.m.len,show¬(8:Int)<(x.marks.length:Nat) by omega];refine aa (kO H6 F2.wf (a.m.fr F02) a.n) ?_;rintro _ h3 ⟨rfl,F3⟩;cases c4:x.marks.all okN
    ·simp only[evs,seval];exact⟨by simp[fM,okM,c4],F02.then F3⟩
    ·simp only[evs,seval];exact⟨by simp[fM,okM,c0,c2,c3,c4],F02.then F3⟩
   ·simp only[evs,seval,l3,a.m.len,show(8:Int)<(x.marks.length:Nat) by omega];exact⟨by simp[fM,okM,c3],F02⟩
def dec(n:Nat):Str:=if h:n<10 then[UInt8.ofNat (48+n)]else dec (n/10)++[UInt8.ofNat (48+n%10)]
termination_by n
decreasing_by omega
theorem sI{n:Nat}(h:n<10):dec n=[UInt8.ofNat (48+n)]:=by rw[dec,dif_pos h]
theorem ww{n:Nat}(h:¬n<10):dec n=dec (n/10)++[UInt8.ofNat (48+n%10)]:=by rw[dec,dif_neg h]
def c8(b:UInt8):V:=.int .u8 (b.toNat:Int)
theorem vh:∀z:Str,eF (z.map c8)=some z
 |[]=>rfl
 |b::z=>by
  show(match eF (z.map c8)with|some s=>some (UInt8.ofNat ((b.toNat:Int)).toNat::s)|none=>none)=_
  rw[vh z,Int.toNat_natCast,UInt8.ofNat_toNat]
theorem Bw:∀d,d<10→aP .ixstr [.str [48,49,50,51,52,53,54,55,56,57],.int .u64 (d:Nat)]=some (c8 (UInt8.ofNat (48+d))):=by
 intro d hd;match d,hd with
 |0,_=>rfl
 |1,_=>rfl
 |2,_=>rfl
 |3,_=>rfl
 |4,_=>rfl
 |5,_=>rfl
 |6,_=>rfl
 |7,_=>rfl
 |8,_=>rfl
 |9,_=>rfl
theorem Fk{call:aD}{loc:List V}{env:T V}{h:Heap}(x:Opd)(K:V→Heap→Prop):OQ (aK call loc env h (.b2s x)) K↔∃d,evO loc env x=some d∧VQ (tc h d) K h:=by
 simp only[aK,OQ,VQ];cases evO loc env x with
 |none=>simp
 |some d=>
  simp only[];cases e:tc h d with
  |none=>simp[e]
  |some v=>
   simp only[];exact⟨fun⟨_,_,q,k⟩=>by cases q;exact⟨d,rfl,_,e,k⟩,fun⟨_,q,_,e',k⟩=>by cases q;rw[e]at e';cases e';exact⟨_,_,rfl,k⟩⟩
theorem BI{h:Heap}(d:V)(K:V→Heap→Prop):(∃e,some d=some e∧VQ (tc h e) K h)↔VQ (tc h d) K h:=⟨fun⟨_,e,k⟩=>by cases e;exact k,fun k=>⟨d,rfl,k⟩⟩
theorem j6{h:Heap}{n:Nat}(w:WF h)(hn:n<18446744073709551616):ao go 251 [.int .u64 (n:Int)] h fun u h'=>u=.str (dec n)∧Fr [] h h':=by
 obtain⟨h1,e_h1⟩:∃h1,h1=halloc h [.int .u8 0,.int .u8 0,.int .u8 0,.int .u8 0,.int .u8 0,.int .u8 0,.int .u8 0,.int .u8 0,.int .u8 0,.int .u8 0,.int .u8 0,.int .u8 0,.int .u8 0,.int .u8 0,.int .u8 0,.int .u8 0,.int .u8 0,.int .u8 0,.int .u8 0,.int .u8 0]:=⟨_,rfl⟩;have F_h1:Fr [] h h1:=e_h1▸Fr.halloc w _;have o_h1:Own h1 h.next [.int .u8 0,.int .u8 0,.int .u8 0,.int .u8 0,.int .u8 0,.int .u8 0,.int .u8 0,.int .u8 0,.int .u8 0,.int .u8 0,.int .u8 0,.int .u8 0,.int .u8 0,.int .u8 0,.int .u8 0,.int .u8 0,.int .u8 0,.int .u8 0,.int .u8 0,.int .u8 0]:=e_h1▸Own.new w _;refine ah rfl rfl ?_;simp only[fn251,evs,←e_h1];refine aC (fun k env hh=>Fr [] h hh∧∃(i m:Nat)(acc:Str)(C:List V),env.get 4=some (.int .i64 i)∧env.get 0=some (.int .u64 m)∧env.get 3=some (.ptr h.next 0)∧Own hh h.next C∧
  C.length=20∧C.drop i=acc.map c8∧0<i∧i≤20∧m<10^i∧dec n=dec m++acc∧m<18446744073709551616∧k=i) 20 (by omega) ?_ ?_
 ·exact⟨F_h1,20,n,[],_,(by simp),(by simp),(by simp),o_h1,rfl,rfl,by omega,by omega,by omega,by simp,hn,rfl⟩
 ·rintro k env hh ⟨F,i,m,acc,C,g4,g0,g3,oC,hC,hd,i0,i20,hm,e,hm2,hk⟩;have r1:aP (.ib .rem) [.int .u64 (m:Int),.int .u64 10]=some (.int .u64 ((m%10:Nat):Int)):=by rw[ke _ _ _ (by decide)];rfl
  have r2:aP (.ib .quo) [.int .u64 (m:Int),.int .u64 10]=some (.int .u64 ((m/10:Nat):Int)):=by
   rw[lT _ _ _ (by decide),show((m:Int)).tdiv 10=((m/10:Nat):Int)from rfl,cP _ (by omega) (by omega)]
  have r3:=Bw (m%10) (Nat.mod_lt _ (by omega));obtain⟨j,rfl⟩:∃j,i=j+1:=⟨i-1,by omega⟩;have r4:=ti 1 h.next 0 20 .i64 ((j:Int)) (by omega) (by omega);simp only[Int.toNat_natCast,Nat.mul_one,Nat.zero_add]at r4;simp(disch:=omega) only[evs,seval,ai,g4,g0,g3,r1,r3,show(((j+1:Nat):Int)-1)=(j:Int) by omega,r4];refine ab (c':=C.set j (c8 (UInt8.ofNat (48+m%10)))) F.wf oC rfl rfl (iU C j _ (by omega)) ?_;rintro h2 o2 F2 n2;have F02:Fr [] h h2:=F.fresh F2 w (Nat.le_refl _);have hd2:(C.set j (c8 (UInt8.ofNat (48+m%10)))).drop j=(UInt8.ofNat (48+m%10)::acc).map c8:=by
   rw[List.set_eq_take_append_cons_drop,if_pos (by omega),hd,List.drop_append_of_le_length (by simp;omega)];rw[List.drop_of_length_le (by simp;omega)];rfl
  by_cases c:m/10=0
  ·have e2:dec n=UInt8.ofNat (48+m%10)::acc:=by
    rw[e,sI (by omega),show m%10=m by omega];rfl
   have s1:aP (.sl (some 20) 1 true false false) [.ptr h.next 0,.int .i64 (j:Int)]=some (.slice h.next j (20-j) (20-j)):=by
    simp only[aP,sZ,aR,bG .i64 (j:Int) 20 (by omega) (by omega),Option.map_some,Option.getD_none,ef (show(20:Nat)≠j by omega),cond_false,Int.toNat_natCast,Nat.zero_add,Nat.mul_one]
   have s2:tc h2 (.slice h.next j (20-j) (20-j))=some (.str (dec n)):=by
    have:ak h2 h.next j (20-j)=some ((UInt8.ofNat (48+m%10)::acc).map c8):=by
     rw[o2.ld,bq,aU _ _ (by simp;omega),List.take_of_length_le (by simp;omega),hd2]
    simp only[tc,this,vh,Option.map_some,e2]
   simp only[evs,seval,r2,g0,g3,show((m/10:Nat):Int)=0 by omega,s1,Fk,BI,s2];exact F02
  ·have e2:dec n=dec (m/10)++UInt8.ofNat (48+m%10)::acc:=by
    rw[e,ww (by omega)];simp
   have j0:0<j:=by
    rcases Nat.eq_zero_or_pos j with z|z
    ·subst z;simp at hm;omega
    ·exact z
   simp only[evs,seval,r2,g0,show¬((m/10:Nat):Int)=0 by omega];refine(aj _ _ _).2 ⟨j,by omega,F02,j,m/10,_,_,(by simp),(by simp),(by simp[g3]),o2,by simp[hC],hd2,j0,by omega,by rw[Nat.pow_succ]at hm;omega,e2,by omega,rfl⟩
   done
end Go.Ev.Lay
