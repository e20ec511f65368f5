/- An evaluator of the program, and contracts over it: StL to StaA. -/
import Derived.Laws.RangeString
import Derived.Laws.RangeAny
import Derived.Test.YtknldhlnhobdhaaGreatDoorP04
import Derived.Test.YtknldhlnhobdhaaGreatDoorP07
set_option linter.unusedSimpArgs false
set_option linter.unusedVariables false
set_option linter.constructorNameAsVariable false
set_option linter.unnecessarySimpa false
namespace Go.Ev.Lay
set_option maxRecDepth 4000
abbrev Z4:List V:=[.int .u64 0,.int .u8 0,.str [],.nils]
def NoI(l:List V):Prop:=∀x∈l,∀n:Int,x≠.int .i64 n
theorem NoI.sub{a b:List V}(h:NoI b)(s:∀x∈a,x∈b):NoI a:=fun x m=>h x (s x m)
theorem NoI.app{a b:List V}(h:NoI a)(g:NoI b):NoI (a++b):=fun x m=>(List.mem_append.1 m).elim (h x) (g x)
structure GpT(h:Heap)(b B:Nat)(v:V)(c1 G c2:List V)(a g m:Nat):Prop where
 ob:Own h b [v,.int .i64 (a:Int),.int .i64 (g:Int)]
 tb:TbC 4 h v B (c1++G++c2) (a+g+m)
 l1:c1.length=a*4
 lg:G.length=g*4
 l2:c2.length=m*4
 o1:av c1=true
 o2:av c2=true
 ne:B≠b
 nb:a+g+m≤8208
 am:a+m≤4096
 n6:NoI (c1++G++c2)
def Gp(h:Heap)(b B:Nat)(n:Nat)(l:List V):Prop:=∃v c1 G c2 a g m,GpT h b B v c1 G c2 a g m∧l=c1++c2∧n=a+m
variable {h : Heap} {b B : Nat} {v : V} {c1 G c2 : List V} {a g m : Nat}
theorem GpT.fr{h':Heap}(k:GpT h b B v c1 G c2 a g m){S:List Nat}(f:Fr S h h')(hb:b∉S)(hB:B∉S):GpT h' b B v c1 G c2 a g m:=
 ⟨f.own _ _ hb k.ob,k.tb.fr f hB,k.l1,k.lg,k.l2,k.o1,k.o2,k.ne,k.nb,k.am,k.n6⟩
theorem Gp.fr{h':Heap}{n:Nat}{l:List V}(k:Gp h b B n l){S:List Nat}(f:Fr S h h')(hb:b∉S)(hB:B∉S):Gp h' b B n l:=by let⟨v,c1,G,c2,a,g,m,k,e⟩:=k;exact⟨v,c1,G,c2,a,g,m,k.fr f hb hB,e⟩
theorem Gp.len{n:Nat}{l:List V}(k:Gp h b B n l):l.length=n*4∧n≤4096∧av l=true:=by obtain⟨v,c1,G,c2,a,g,m,k,rfl,rfl⟩:=k;have:=k.l1;have:=k.l2;have:=k.am;exact⟨by simp;omega,oM,by rw[aN,k.o1,k.o2];rfl⟩
theorem eS(k:GpT h b B v c1 G c2 a g m):aj go 64 [.ptr b 0] h fun u h'=>u=.int .i64 ((a+m:Nat):Int)∧h=h':=by have l0:=k.ob.ld1 0;have l2:=k.ob.ld1 2;have nb:=k.nb;simp only[bj,bR]at l0 l2;refine ab ?_;simp(disch:=omega) only[evs,seval,DF,eff,ah,l0,l2,k.tb.len];congr 1;omega
def yJ(n:Nat)(at' k:Int):Int:=if at'<0∨k<0∨(n:Int)<at'∨(n:Int)-at'<k then 4 else 0
theorem ki(k:GpT h b B v c1 G c2 a g m)(i n:Int):aj go 89 [.ptr b 0,.int .i64 i,.int .i64 n] h fun u h'=>u=.int .i64 (yJ (a+m) i n)∧h=h':=by unfold yJ;by_cases x1:i<0;refine ab ?_;simp only[evs,seval,x1];simp;by_cases x2:n<0;refine ab ?_;simp only[evs,seval,x1,x2];simp;have am:=k.am;by_cases x3:((a+m:Nat):Int)<i;refine ab ?_;simp only[evs,seval,x1,x2];refine aa (eS k) ?_;rintro _ _ ⟨rfl,rfl⟩;simp only[evs,seval,x3];simp;by_cases x4:((a+m:Nat):Int)-i<n;refine ab ?_;simp only[evs,seval,x1,x2];refine aa (eS k) ?_;rintro _ _ ⟨rfl,rfl⟩;simp only[evs,seval,x3];refine aa (eS k) ?_;rintro _ _ ⟨rfl,rfl⟩;simp(disch:=omega) only[evs,seval,ah,x4];simp;refine ab ?_;simp only[evs,seval,x1,x2];refine aa (eS k) ?_;rintro _ _ ⟨rfl,rfl⟩;simp only[evs,seval,x3];apply aa (eS k);rintro _ _ ⟨rfl,rfl⟩;simp(disch:=omega) only[evs,seval,ah,x4];simp
theorem Dh(k:GpT h b B v c1 G c2 a g m)(i:Nat)(hi:i≤4096):aj go 90 [.ptr b 0,.int .i64 (i:Int)] h fun u h'=>u=.int .i64 ((if a≤i then i+g else i:Nat):Int)∧h=h':=by have l1:=k.ob.ld1 1;have l2:=k.ob.ld1 2;have nb:=k.nb;simp only[bj,bR]at l1 l2;by_cases c:a≤i;refine ab ?_;simp(disch:=omega) only[evs,seval,ah,l1,l2,(oM:(a:Int)≤(i:Int))];rw[if_pos c];simp;refine ab ?_;simp only[evs,seval,l1,(oM:¬(a:Int)≤(i:Int))];rw[if_neg c]
theorem Hr{n i:Nat}(h:i<n):yJ n i 1=0:=by unfold yJ;rw[if_neg];omega
theorem I0{α:Type}(c1 G c2:List α)(a g i k:Nat)(l1:c1.length=a*k)(lg:G.length=g*k):
 ((c1++G++c2).drop ((if a≤i then i+g else i) *k)).take k=((c1++c2).drop (i*k)).take k:=by
 by_cases c:a≤i;rw[if_pos c];obtain⟨j,rfl⟩:∃j,i=a+j:=⟨i-a,oM⟩;have e1:(a+j+g) *k=(c1++G).length+j*k:=by grind
 have e2:(a+j) *k=c1.length+j*k:=by rw[l1,Nat.add_mul]
 rw[e1,e2,List.drop_length_add_append,List.drop_length_add_append];rw[if_neg c];have e:i*k+k≤c1.length:=by rw[l1,←Nat.succ_mul];exact Nat.mul_le_mul_right _ oM
 rw[List.append_assoc,List.drop_append_of_le_length oM,List.take_append_of_le_length oO,List.drop_append_of_le_length oM,List.take_append_of_le_length oO]
theorem GpT.at'(k:GpT h b B v c1 G c2 a g m){i:Nat}(hi:i<a+m):
 aP (.ixs 4) [v,.int .i64 ((if a≤i then i+g else i:Nat):Int)]=some (.ptr B ((if a≤i then i+g else i) *4))∧ak h B ((if a≤i then i+g else i) *4) 4=some (((c1++c2).drop (i*4)).take 4):=by
 have hp:(if a≤i then i+g else i)<a+g+m:=by split<;>omega
 obtain⟨hl,⟨rfl,z⟩|⟨rfl,o⟩⟩:=k.tb;omega;refine⟨?_,?_⟩;rw[jV _ _ _ _ _ _ _ oM oM];simp;rw[o.ld,bq,aZ,I0 c1 G c2 a g i 4 k.l1 k.lg];simp only[List.length_drop,hl];omega
theorem KT{l:List V}{n i:Nat}(hl:l.length=n*4)(hi:i<n)(ho:av l=true):∃x y z u,(l.drop (i*4)).take 4=[x,y,z,u]∧av [x,y,z,u]=true:=by
 have e:((l.drop (i*4)).take 4).length=4:=by simp;omega
 have ho':=eN 4 (dQ (i*4) ho);match q:(l.drop (i*4)).take 4,e with
 |[x,y,z,u],_=>exact⟨x,y,z,u,rfl,by rw[q]at ho';exact ho'⟩
theorem GpT.tot(k:GpT h b B v c1 G c2 a g m):(c1++c2).length=(a+m) *4∧av (c1++c2)=true:=by have:=k.l1;have:=k.l2;exact⟨by simp;omega,by rw[aN,k.o1,k.o2];rfl⟩
theorem D3(w:WF h)(k:GpT h b B v c1 G c2 a g m){i:Nat}(hi:i<a+m):aj go 40 [.ptr b 0,.int .i64 (i:Int)] h fun u h'=>Fr [] h h'∧u=.tup [.agg (((c1++c2).drop (i*4)).take 4),.int .i64 0]:=by
 have am:=k.am;let⟨x,y,z,u,ec,eo⟩:=KT k.tot.1 hi k.tot.2;let⟨h1,e_h1,F_h1,o_h1⟩:=ao w [.int .u64 0,.int .u8 0,.str [],.nils];have k1:=k.fr F_h1 iS iS;refine ab ?_;simp only[evs,seval,←e_h1];refine aa (ki k1 i 1) ?_;rintro _ _ ⟨rfl,rfl⟩;simp only[evs,seval,eff,Hr hi];have l0:=k1.ob.ld1 0;simp only[bj]at l0;have nh:h.next≠b:=by have:=k.ob.lt w;omega
 simp only[evs,seval,eff,l0];apply aa (Dh k1 i oM);rintro _ _ ⟨rfl,rfl⟩;have⟨a1,a2⟩:=k1.at' hi;rw[ec]at a2;simp only[evs,seval,eff,a1,a2];refine ai F_h1.wf o_h1 rfl eo rfl ?_;rintro h2 o2 F2 n2;have l0':ag h2 b 0=some v:=(F2.own b _ oO k1.ob).ld1 0;have a2':ak h2 B ((if a≤i then i+g else i) *4) 4=some [x,y,z,u]:=by
  obtain⟨hl,⟨rfl,z⟩|⟨rfl,o⟩⟩:=k1.tb;omega;have ne:B≠h.next:=by obtain⟨_,⟨q,_⟩|⟨_,q⟩⟩:=k.tb;cases q;have:=q.lt w;omega
  have o':=F2.own B _ (eV ne) o;rw[o.ld]at a2;rw[o'.ld];exact a2
 simp only[evs,seval,DF,eff,l0,a2,o2.ld];exact⟨F_h1.fresh F2 w (Nat.le_refl _),by rw[ec]⟩
variable {h : Heap} {b B : Nat} {v : V} {c1 G c2 : List V} {a g m : Nat}
theorem HK{α:Type}{c1 G c2:List α}{p g a:Nat}(l1:c1.length=a*4)(lg:G.length=g*4)(hp:p≤a)(C1:List α)
 (e:C1=(c1++G++c2).take ((p+g) *4)++((c1++G++c2).drop (p*4)).take ((a-p) *4)++(c1++G++c2).drop ((p+g) *4+(a-p) *4)):
 C1.take (p*4)=c1.take (p*4)∧C1.drop (p*4+g*4)=c1.drop (p*4)++c2:=by
 have hl:(p+g) *4≤(c1++G++c2).length:=by simp;omega
 have h1:((c1++G++c2).take ((p+g) *4)).length=p*4+g*4:=by grind
 have h2:((c1++G++c2).drop (p*4)).take ((a-p) *4)=c1.drop (p*4):=by rw[List.append_assoc,List.drop_append_of_le_length oM,List.take_append_of_le_length oO];exact List.take_of_length_le oO
 have h3:(c1++G++c2).drop ((p+g) *4+(a-p) *4)=c2:=by rw[(oO:(p+g) *4+(a-p) *4=(c1++G).length)];exact List.drop_left
 subst e;rw[h2,h3];refine⟨?_,?_⟩;grind;grind
theorem HJ{α:Type}{c1 G c2:List α}{p g a m:Nat}(l1:c1.length=a*4)(lg:G.length=g*4)(l2:c2.length=m*4)(hp:a≤p)(hm:p≤a+m)(C1:List α)
 (e:C1=(c1++G++c2).take (a*4)++((c1++G++c2).drop ((a+g) *4)).take ((p+g-(a+g)) *4)++(c1++G++c2).drop (a*4+(p+g-(a+g)) *4)):
 C1.take (p*4)=c1++c2.take ((p-a) *4)∧C1.drop (p*4+g*4)=c2.drop ((p-a) *4):=by
 have h1:(c1++G++c2).take (a*4)=c1:=by grind
 have h2:((c1++G++c2).drop ((a+g) *4)).take ((p+g-(a+g)) *4)=c2.take ((p-a) *4):=by rw[(oO:(a+g) *4=(c1++G).length),List.drop_left,(oM:p+g-(a+g)=p-a)]
 have h3:(c1++c2.take ((p-a) *4)).length=p*4:=by simp;omega
 have h4:p+g-(a+g)=p-a:=oM;subst e;rw[h1,h2];refine⟨?_,?_⟩;grind;rw[(oM:p*4+g*4=(c1++c2.take ((p-a) *4)).length+g*4),List.drop_length_add_append,List.drop_drop,h4,(oO:a*4+(p-a) *4+g*4=(c1++G).length+(p-a) *4),List.drop_length_add_append]
theorem NoI.rep{z:List V}(h:NoI z):∀n,NoI (ce z n)
 |0=>by rw[fK];intro x m;simp at m
 |n+1=>by rw[fL];exact h.app (NoI.rep h n)
theorem NoI.z4:NoI Z4:=by intro x m n;simp at m;obtain rfl|rfl|rfl|rfl:=m<;>simp
theorem EE(w:WF h)(k:GpT h b B v c1 G c2 a g m){p:Nat}(hp:p≤a+m):aj go 158 [.ptr b 0,.int .i64 (p:Int)] h fun u h'=>u=.tup []∧
 GpT h' b B v ((c1++c2).take (p*4)) (ce Z4 g) ((c1++c2).drop (p*4)) p g (a+m-p)∧Fr [b,B] h h':=by
 have l0:ag h b 0=some v:=k.ob.ld1 0;have l1:ag h b 1=some (.int .i64 (a:Int)):=k.ob.ld1 1;have l2:ag h b 2=some (.int .i64 (g:Int)):=k.ob.ld1 2;have nb:=k.nb;have am:=k.am;have tot:=k.tot;have n12:NoI (c1++c2):=k.n6.sub fun x m=>by simp at m⊢;obtain m|m:=m<;>simp[m]
 have tl:=k.l1;have tg:=k.lg;have t2l:=k.l2;by_cases c:p<a;let⟨u1,e1,s1,d1⟩:=k.tb.from oM .i64 ((p:Int)+g) (p+g) oM oM;let⟨u2,e2,s2,d2⟩:=k.tb.range oM .i64 .i64 p a p a rfl rfl oM oM;have⟨c1',c2'⟩:=HK (c2:=c2) k.l1 k.lg (Nat.le_of_lt c) _ rfl;have z1:(c1++c2).take (p*4)=c1.take (p*4):=List.take_append_of_le_length oM;have z2:(c1++c2).drop (p*4)=c1.drop (p*4)++c2:=List.drop_append_of_le_length oM;rw[←z1]at c1';rw[←z2]at c2';refine ab ?_;simp(disch:=omega) only[evs,seval,eff,ah,l0,l1,l2,e1,e2,(oM:(p:Int)<(a:Int))];refine mG oM w d1 s2 ?_ oM k.tb ?_;rw[List.append_assoc,List.drop_append_of_le_length oM,List.take_append_of_le_length oO];exact eN _ (dQ _ k.o1);rintro h1 t1 F1 n1;have ob1:=F1.own b _ (eV k.ne.symm) k.ob;have l0':ag h1 b 0=some v:=ob1.ld1 0;simp only[evs,seval,DF,l0,l1,l2];apply stu F1.wf ob1;rintro h2 o2 F2 n2;have t2:=t1.fr F2 (eV k.ne);have l0'':ag h2 b 0=some v:=o2.ld1 0;have l2'':ag h2 b 2=some (.int .i64 (g:Int)):=o2.ld1 2;let⟨u3,e3,s3,d3⟩:=t2.range oM .i64 .i64 p ((p:Int)+g) p (p+g) rfl oM oM oM;simp(disch:=omega) only[evs,seval,eff,ah,l0'',l2'',e3];apply Eu F2.wf d3 rfl rfl t2;rintro h3 t3 F3 n3;rw[(oM:p+g-p=g),c1',c2']at t3;simp only[evs,seval,DF,l0'',l2''];refine⟨⟨F3.own b _ (eV k.ne.symm) o2,?_,by simp;omega,fU _ _,by simp;omega,eN _ tot.2,dQ _ tot.2,k.ne,oM,oM,((n12.sub fun x m=>List.mem_of_mem_take m).app (NoI.rep NoI.z4 g)).app (n12.sub fun x m=>List.mem_of_mem_drop m)⟩,?_⟩;grind;refine Fr.trans (T:=[b,B]) (Fr.trans (T:=[b,B]) F1 F2 w ?_ ?_) F3 w ?_ ?_<;>intro x hx<;>simp at hx⊢ <;>omega
 let⟨u1,e1,s1,d1⟩:=k.tb.from oM .i64 (a:Int) a rfl oM;let⟨u2,e2,s2,d2⟩:=k.tb.range oM .i64 .i64 ((a:Int)+g) ((p:Int)+g) (a+g) (p+g) oM oM oM oM;have⟨c1',c2'⟩:=HJ k.l1 k.lg k.l2 (Nat.le_of_not_lt c) hp _ rfl;have z1:(c1++c2).take (p*4)=c1++c2.take ((p-a) *4):=by rw[(oM:p*4=c1.length+(p-a) *4),List.take_length_add_append]
 have z2:(c1++c2).drop (p*4)=c2.drop ((p-a) *4):=by rw[(oM:p*4=c1.length+(p-a) *4),List.drop_length_add_append]
 rw[←z1]at c1';rw[←z2]at c2';refine ab ?_;simp(disch:=omega) only[evs,seval,eff,ah,l0,l1,l2,e1,e2,(oM:¬(p:Int)<(a:Int))];refine mG oM w d1 s2 ?_ oM k.tb ?_;rw[(oO:(a+g) *4=(c1++G).length),List.drop_left];exact eN _ k.o2;rintro h1 t1 F1 n1;have ob1:=F1.own b _ (eV k.ne.symm) k.ob;have l0':ag h1 b 0=some v:=ob1.ld1 0;simp only[evs,seval,DF,l0,l1,l2];apply stu F1.wf ob1;rintro h2 o2 F2 n2;have t2:=t1.fr F2 (eV k.ne);have l0'':ag h2 b 0=some v:=o2.ld1 0;have l2'':ag h2 b 2=some (.int .i64 (g:Int)):=o2.ld1 2;let⟨u3,e3,s3,d3⟩:=t2.range oM .i64 .i64 p ((p:Int)+g) p (p+g) rfl oM oM oM;simp(disch:=omega) only[evs,seval,eff,ah,l0'',l2'',e3];apply Eu F2.wf d3 rfl rfl t2;rintro h3 t3 F3 n3;rw[(oM:p+g-p=g),c1',c2']at t3;simp only[evs,seval,DF,l0'',l2''];refine⟨⟨F3.own b _ (eV k.ne.symm) o2,?_,by simp;omega,fU _ _,by simp;omega,eN _ tot.2,dQ _ tot.2,k.ne,oM,oM,((n12.sub fun x m=>List.mem_of_mem_take m).app (NoI.rep NoI.z4 g)).app (n12.sub fun x m=>List.mem_of_mem_drop m)⟩,?_⟩;rw[(oM:p+g+(a+m-p)=a+g+m)];exact t3;refine Fr.trans (T:=[b,B]) (Fr.trans (T:=[b,B]) F1 F2 w ?_ ?_) F3 w ?_ ?_<;>intro x hx<;>simp at hx⊢ <;>omega
variable {h : Heap} {b B : Nat} {v : V} {c1 G c2 : List V} {a g m : Nat}
theorem IW{α:Type}{c1 c2 Z:List α}{a g m:Nat}(l1:c1.length=a*4)(l2:c2.length=m*4)(lz:Z.length=(a+m+g) *4):
 (Z.take 0++c1++Z.drop (0+a*4)).take ((a+g) *4)++c2++(Z.take 0++c1++Z.drop (0+a*4)).drop ((a+g) *4+m*4)=c1++(Z.drop (a*4)).take (g*4)++c2:=by
 simp only[List.take_zero,List.nil_append,Nat.zero_add];have h1:(c1++Z.drop (a*4)).length=(a+g) *4+m*4:=by simp;omega
 rw[←h1,List.drop_length,List.append_nil,(oM:(a+g) *4=c1.length+g*4),List.take_length_add_append]
theorem TbC.fr'{e:Nat}{h h':Heap}{v:V}{B N:Nat}{C:List V}{S:List Nat}(a:TbC e h v B C N)(f:Fr S h h')(hB:v=.nils∨B∉S):TbC e h' v B C N:=by obtain⟨hl,⟨rfl,rfl⟩|⟨rfl,o⟩⟩:=a;exact⟨hl,.inl ⟨rfl,rfl⟩⟩;obtain q|q:=hB;cases q;exact⟨hl,.inr ⟨rfl,f.own _ _ q o⟩⟩
theorem A8(w:WF h)(k:GpT h b B v c1 G c2 a g m){n:Nat}(hn:a+m+n≤4096):aj go 159 [.ptr b 0,.int .i64 (n:Int)] h fun u h'=>u=.tup []∧
 ∃B' v' G' g',(B'=B∨h.next≤B')∧GpT h' b B' v' c1 G' c2 a g' m∧n≤g'∧Fr [b] h h':=by
 have l0:ag h b 0=some v:=k.ob.ld1 0;have l1:ag h b 1=some (.int .i64 (a:Int)):=k.ob.ld1 1;have l2:ag h b 2=some (.int .i64 (g:Int)):=k.ob.ld1 2;have nb:=k.nb;have am:=k.am;have blt:=k.ob.lt w;by_cases c:n≤g;refine ab ?_;simp only[evs,seval,l2,(oM:(n:Int)≤(g:Int))];exact⟨B,v,G,g,.inl rfl,k,c,Fr.refl w⟩;have hq:(a+g+m)/2≤4104:=oM;have q:aP (.ib .quo) [.int .i64 ((a+g+m:Nat):Int),.int .i64 2]=some (.int .i64 (((a+g+m)/2:Nat):Int)):=by rw[nT _ _ _ dI,(iR:(((a+g+m:Nat):Int)).tdiv 2=(((a+g+m)/2:Nat):Int)),ah _ oM oM]
 generalize(a+g+m)/2=d at q hq;refine ab ?_;simp(disch:=omega) only[evs,seval,ah,l0,l2,(oM:¬(n:Int)≤(g:Int)),k.tb.len,q];refine aa (eS k) ?_;rintro _ _ ⟨rfl,rfl⟩;simp(disch:=omega) only[evs,seval,ah];rw[(oM:((a+m:Nat):Int)+(↑n+ ↑d+8)=((a+m+(n+d+8):Nat):Int))];refine(gz _ _ _ _ _ _ _ _ oM oM oM oM).2 ?_;simp only[Int.toNat_natCast];have ln:(ce Z4 (a+m+(n+d+8))).length=(a+m+(n+d+8)) *4:=fU _ _;obtain⟨h1,e_h1⟩:∃h1,h1=halloc h (ce [.int .u64 0,.int .u8 0,.str [],.nils] (a+m+(n+d+8))):=⟨_,rfl⟩;have F_h1:Fr [] h h1:=e_h1▸Fr.halloc w _;have o_h1:Own h1 h.next (ce Z4 (a+m+(n+d+8))):=e_h1▸Own.new w _;rw[←e_h1];clear e_h1;have nz:NoI (ce Z4 (a+m+(n+d+8))):=NoI.rep NoI.z4 _;generalize ce Z4 (a+m+(n+d+8))=Z at ln o_h1 nz;have k1:=k.fr F_h1 iS iS;have l0:ag h1 b 0=some v:=k1.ob.ld1 0;have l1:ag h1 b 1=some (.int .i64 (a:Int)):=k1.ob.ld1 1;have l2:ag h1 b 2=some (.int .i64 (g:Int)):=k1.ob.ld1 2;have tz:TbC 4 h1 (.slice h.next 0 (a+m+(n+d+8)) (a+m+(n+d+8))) h.next Z (a+m+(n+d+8)):=⟨ln,.inr ⟨rfl,o_h1⟩⟩;have nB:v=.nils∨B≠h.next:=by obtain⟨_,⟨q,_⟩|⟨_,q⟩⟩:=k.tb;exact .inl q;right;have:=q.lt w;omega
 let⟨u2,e2,s2⟩:=k1.tb.upto oM .i64 (a:Int) a rfl oM;rw[List.append_assoc,←k.l1,List.take_left]at s2;have d1:Dst 4 h1 h.next Z (.slice h.next 0 (a+m+(n+d+8)) (a+m+(n+d+8))) 0 (a+m+(n+d+8)):=⟨oM,.inr ⟨_,rfl,o_h1⟩⟩;simp only[evs,seval,eff,l0,l1,e2];apply mG oM F_h1.wf d1 s2 k.o1 oM tz;rintro h2 t2 F2 n2;have ob2:=F2.own b _ oO k1.ob;have tb2:TbC 4 h2 v B (c1++G++c2) (a+g+m):=k1.tb.fr' F2 (nB.imp id iS);let⟨u3,e3,s3,_⟩:=tb2.from oM .i64 ((a:Int)+g) (a+g) oM oM;let⟨u4,e4,_,d4⟩:=t2.from oM .i64 ((a:Int)+(n+d+8)) (a+(n+d+8)) oM oM;have s3':Sl h2 4 u3 m c2:=by rw[(oM:a+g+m-(a+g)=m),show(a+g) *4=(c1++G).length by simp[k.l1,k.lg];omega,List.drop_left]at s3;rwa[List.take_of_length_le (by rw[k.l2];omega)]at s3
 have l0':ag h2 b 0=some v:=ob2.ld1 0;have l1':ag h2 b 1=some (.int .i64 (a:Int)):=ob2.ld1 1;have l2':ag h2 b 2=some (.int .i64 (g:Int)):=ob2.ld1 2;simp(disch:=omega) only[evs,seval,DF,eff,ah,l0,l1,l0',l1',l2',e3,e4];apply mG oM F2.wf d4 s3' k.o2 oM t2;rintro h3 t3 F3 n3;rw[IW k.l1 k.l2 (by rw[ln])]at t3;have ob3:=F3.own b _ oO ob2;have l0'':ag h3 b 0=some v:=ob3.ld1 0;simp only[evs,seval,DF,l0',l1',l2'];apply stu F3.wf ob3;rintro h4 ob4 F4 n4;simp only[evs,seval];apply stu F4.wf ob4;rintro h5 ob5 F5 n5;simp only[evs];refine⟨h.next,.slice h.next 0 (a+m+(n+d+8)) (a+m+(n+d+8)),(Z.drop (a*4)).take ((n+d+8) *4),n+d+8,.inr (Nat.le_refl _),⟨ob5,?_,k.l1,?_,k.l2,k.o1,k.o2,oM,oM,oM,((k.n6.sub fun x m=>by simp[m]).app (nz.sub fun x m=>List.mem_of_mem_drop (List.mem_of_mem_take m))).app (k.n6.sub fun x m=>by simp[m])⟩,oM,?_⟩;have t5:=(t3.fr F4 oO).fr F5 oO;rw[(oM:a+m+(n+d+8)=a+(n+d+8)+m)]at t5⊢;exact t5;simp[ln];omega;have f1:Fr [h.next] h h2:=Fr.trans F_h1 F2 w iS iS;have f2:Fr [h.next] h h3:=Fr.trans f1 F3 w iS iS;have f3:Fr [b] h h3:=⟨f2.next,f2.wf,fun x c hx o=>f2.own x c (by have:=o.lt w;simp;omega) o,fun x c hx o=>f2.pl x c (by have:=o.own.lt w;simp;omega) o,f2.lp,f2.ro⟩;exact Fr.trans (Fr.trans f3 F4 w (fun x hx=>.inl hx) (fun x hx=>.inl hx)) F5 w (fun x hx=>.inl hx) (fun x hx=>.inl hx)
variable {h : Heap} {b B : Nat}
theorem Ar{n p:Nat}(h:p≤n):yJ n p 0=0:=by unfold yJ;rw[if_neg];omega
theorem Ly{α:Type}{c1 G c2 xs:List α}{p q:Nat}(l1:c1.length=p*4)(lx:xs.length=q*4)(lg:q*4≤G.length):
 (c1++G++c2).take (p*4)++xs++(c1++G++c2).drop (p*4+q*4)=(c1++xs)++G.drop (q*4)++c2:=by
 rw[←l1,List.append_assoc c1 G c2,List.take_left,List.drop_length_add_append,List.drop_append_of_le_length lg];simp
theorem yK{n q p:Nat}{l xs:List V}{u:V}(w:WF h)(k:Gp h b B n l)(s:∀h',Fr [b,B] h h'→Sl h' 4 u q xs)(ox:av xs=true)(nx:NoI xs)(hp:p≤n)(hq:n+q≤4096):
 aj go 100 [.ptr b 0,.int .i64 (p:Int),u] h fun z h'=>z=.int .i64 0∧∃B',(B'=B∨h.next≤B')∧Gp h' b B' (n+q) (l.take (p*4)++xs++l.drop (p*4))∧Fr [b,B] h h':=by
 obtain⟨v,c1,G,c2,a,g,m,k,rfl,rfl⟩:=k;have s0:=s h (Fr.refl w);have lx:=s0.1;have am:=k.am;by_cases c0:q=0;subst c0;refine ab ?_;simp only[evs,↓reduceIte,Nat.reduceEqDiff,Nat.reduceAdd];refine aa (ki k (p:Int) 0) ?_;rintro _ _ ⟨rfl,rfl⟩;simp only[evs,↓reduceIte,Nat.reduceEqDiff,Ar hp,s0.len];apply aa (eS k);rintro _ _ ⟨rfl,rfl⟩;simp(disch:=omega) only[evs,↓reduceIte,Nat.reduceEqDiff,ah,(oM:¬(4096-((a+m:Nat):Int)<((0:Nat):Int))),s0.len,(iS:(((0:Nat):Int)=0)=True)];have hx:xs=[]:=List.length_eq_zero_iff.1 oM;subst hx;refine⟨B,.inl rfl,⟨v,c1,G,c2,a,g,m,k,iS,oM⟩,Fr.refl w⟩;have nh:4096-((a+m:Nat):Int)<(q:Int)↔False:=by simp;omega
 have nz:(q:Int)=0↔False:=by simp;omega
 have sl:=s0.len;refine ab ?_;simp only[evs,↓reduceIte,Nat.reduceEqDiff,Nat.reduceAdd];refine aa (ki k (p:Int) 0) ?_;rintro _ _ ⟨rfl,rfl⟩;simp only[evs,↓reduceIte,Nat.reduceEqDiff,Ar hp,sl];apply aa (eS k);rintro _ _ ⟨rfl,rfl⟩;simp(disch:=omega) only[evs,↓reduceIte,Nat.reduceEqDiff,ah,nh,sl,nz];apply aa (EE w k hp);rintro _ h1 ⟨rfl,k1,F1⟩;simp only[evs,↓reduceIte,Nat.reduceEqDiff,sl];apply aa (A8 F1.wf k1 (n:=q) oM);rintro _ h2 ⟨rfl,B',v',G',g',hB,k2,hg,F2⟩;have F02:Fr [b,B] h h2:=Fr.trans F1 F2 w (fun x hx=>.inl hx) (fun x hx=>.inl (by simp at hx;simp[hx]));have s2:=s h2 F02;have l0:ag h2 b 0=some v':=k2.ob.ld1 0;have l1:ag h2 b 1=some (.int .i64 (p:Int)):=k2.ob.ld1 1;have nb2:=k2.nb;let⟨u1,e1,_,d1⟩:=k2.tb.from oM .i64 (p:Int) p rfl oM;simp only[evs,↓reduceIte,Nat.reduceEqDiff,eff,l0,l1,e1];apply mG oM F2.wf d1 s2 ox oM k2.tb;rintro h3 t3 F3 n3;rw[Ly k2.l1 lx (by rw[k2.lg];omega)]at t3;have ob3:=F3.own b _ (eV k2.ne.symm) k2.ob;have l1':ag h3 b 1=some (.int .i64 (p:Int)):=ob3.ld1 1;simp(disch:=omega) only[evs,eff,ah];apply stu F3.wf ob3;rintro h4 ob4 F4 n4;have l2:ag h4 b 2=some (.int .i64 (g':Int)):=ob4.ld1 2;simp(disch:=omega) only[evs,↓reduceIte,Nat.reduceEqDiff,Nat.reduceAdd,DF,Nat.reduceSub,ah,l0,l1,l1',l2,sl];refine ai (c':=[v',.int .i64 ((p+q:Nat):Int),.int .i64 ((g'-q:Nat):Int)]) F4.wf ob4 rfl rfl (by rw[(oM:((g'-q:Nat):Int)=(g':Int)-q)];rfl) ?_;rintro h5 ob5 F5 n5;simp only[evs,↓reduceIte];have ne:=k2.ne;have tl:=k2.l1;have tg:=k2.lg;have t2:=k2.l2;refine⟨B',hB.imp id (fun q=>Nat.le_trans F1.next q),⟨v',(c1++c2).take (p*4)++xs,G'.drop (q*4),(c1++c2).drop (p*4),p+q,g'-q,a+m-p,⟨ob5,?_,?_,?_,t2,?_,k2.o2,ne,oM,oM,((NoI.app (k2.n6.sub fun x m=>by simp[m]) nx).app (k2.n6.sub fun x m=>by simp[List.mem_of_mem_drop m])).app (k2.n6.sub fun x m=>by simp[m])⟩,iS,oM⟩,?_⟩;exact(oM:p+g'+(a+m-p)=p+q+(g'-q)+(a+m-p))▸(t3.fr F4 (eV ne)).fr F5 (eV ne);rw[List.length_append];omega;rw[List.length_drop];omega;rw[aN,k2.o1,ox];rfl;have f3:Fr [b,B] h h3:=Fr.trans F02 F3 w (fun x hx=>.inl hx) (fun x hx=>by
  simp at hx;subst hx;obtain rfl|hB:=hB;exact .inl iS;exact .inr (Nat.le_trans F1.next hB))
 exact Fr.trans (Fr.trans f3 F4 w (fun x hx=>.inl hx) (fun x hx=>.inl (by simp at hx;simp[hx]))) F5 w (fun x hx=>.inl hx) (fun x hx=>.inl (by simp at hx;simp[hx]))
theorem Fr.new{h h1 h2:Heap}{S:List Nat}(w:WF h)(f1:Fr [] h h1)(f2:Fr S h1 h2)(hs:∀x∈S,h.next≤x):Fr [] h h2:=
 Fr.trans f1 f2 w (fun x hx=>.inl hx) (fun x hx=>.inr (hs x hx))
variable {h : Heap} {b B : Nat}
theorem wL{n:Nat}{l:List V}(k:Gp h b B n l):aj go 64 [.ptr b 0] h fun u h'=>u=.int .i64 (n:Int)∧h=h':=by obtain⟨v,c1,G,c2,a,g,m,k,rfl,rfl⟩:=k;exact eS k
end Go.Ev.Lay
namespace Go.Ev
variable {call : aC}
theorem WF.hnew{h:Heap}(w:WF h)(k:Blk):WF (hnew h k):=by intro p hp;have hp':h.next+1≤p:=hp;have:=w p oM;exact⟨by show(h.bl.set _ _).get p=none;rw[T.get_set_ne _ _ oM];exact this.1,this.2⟩
theorem Fr.hnew{h:Heap}(w:WF h)(k:Blk):Fr [] h (hnew h k) where
 next:=Nat.le_succ _
 wf:=w.hnew k
 own:=fun b c _ o=>by have:=o.lt w;let⟨f,k',e,x⟩:=o;exact⟨f,k',by show(h.bl.set _ _).get b=_;rw[T.get_set_ne _ _ oM];exact e,x⟩
 pl:=fun b c _ o=>by have:=o.own.lt w;let⟨⟨k',e⟩,f⟩:=o;exact⟨⟨k',by show(h.bl.set _ _).get b=_;rw[T.get_set_ne _ _ oM];exact e⟩,f⟩
 lp:=fun b x _ e=>by
  have:b≠h.next:=by rintro rfl;rw[(w _ (Nat.le_refl _)).1]at e;cases e
  show(h.bl.set _ _).get b=_;rw[T.get_set_ne _ _ this];exact e
 ro:=fun b c r=>r.new w _
structure FrB(S:List Nat)(B:Nat)(h h':Heap):Prop where
 next:h.next≤h'.next
 wf:WF h'
 own:∀b c,b∉S→Own h b c→Own h' b c
 pl:∀b c,b∉S→Pl h b c→Pl h' b c
 lp:∀b x,b≠B→Hm x=true→h.bl.get b=some x→h'.bl.get b=some x
 ro:∀b c,Rs h b c→Rs h' b c
theorem Fr.b{S S':List Nat}{h h':Heap}{B:Nat}(f:Fr S' h h')(hs:∀x∈S',x∈S):FrB S B h h':=⟨f.next,f.wf,fun b c hb o=>f.own b c (fun q=>hb (hs b q)) o,fun b c hb o=>f.pl b c (fun q=>hb (hs b q)) o,fun b x _ hx e=>f.lp b x hx e,f.ro⟩
theorem FrB.trans{S:List Nat}{h h1 h2:Heap}{B:Nat}(a:FrB S B h h1)(b:FrB S B h1 h2):FrB S B h h2:=
 ⟨Nat.le_trans a.next b.next,b.wf,fun x c hx o=>b.own x c hx (a.own x c hx o),fun x c hx o=>b.pl x c hx (a.pl x c hx o),fun x k hx hk o=>b.lp x k hx hk (a.lp x k hx hk o),fun x c r=>b.ro x c (a.ro x c r)⟩
theorem FrB.hset{S:List Nat}{h:Heap}(w:WF h){B:Nat}{x:Blk}(e:h.bl.get B=some x)(hx:Hm x=true)(k:Blk):FrB S B h (hset h B k):=by
 have hB:B<h.next:=by obtain q|q:=Nat.lt_or_ge B h.next;exact q;rw[(w B q).1]at e;cases e
 refine⟨Nat.le_refl _,?_,?_,?_,?_,?_⟩;intro p hp;have hp':h.next≤p:=hp;have:=w p hp';exact⟨by show(h.bl.set _ _).get p=none;rw[T.get_set_ne _ _ oM];exact this.1,this.2⟩;rintro b c _ ⟨f,k',e',y⟩;have:b≠B:=by rintro rfl;rw[e]at e';cases e';cases hx
 exact⟨f,k',by show(h.bl.set _ _).get b=_;rw[T.get_set_ne _ _ this];exact e',y⟩;rintro b c _ ⟨⟨k',e'⟩,y⟩;have:b≠B:=by rintro rfl;rw[e]at e';cases e';cases hx
 exact⟨⟨k',by show(h.bl.set _ _).get b=_;rw[T.get_set_ne _ _ this];exact e'⟩,y⟩;intro b y hb hy e';show(h.bl.set _ _).get b=_;rw[T.get_set_ne _ _ hb];exact e';rintro b c ⟨f,k',ow,e1,e2,e3,e4⟩;have h1:b≠B:=by rintro rfl;rw[e]at e1;cases e1;cases hx
 have h2:ow≠B:=by grind
 exact⟨f,k',ow,by show(h.bl.set _ _).get b=_;rw[T.get_set_ne _ _ h1];exact e1,e2,by show(h.bl.set _ _).get ow=_;rw[T.get_set_ne _ _ h2];exact e3,e4⟩
theorem FrB.fr{S:List Nat}{B:Nat}{h h1 h2:Heap}(w:WF h)(f:Fr [] h h1)(a:FrB S B h1 h2)(hs:∀x∈S,h.next≤x)(hB:h.next≤B):Fr [] h h2:=
 ⟨Nat.le_trans f.next a.next,a.wf,fun b c _ o=>a.own b c (fun q=>by have:=hs b q;have:=o.lt w;omega) (f.get o),fun b c _ o=>a.pl b c (fun q=>by have:=hs b q;have:=o.own.lt w;omega) (f.pl b c iS o),
  fun b x hx e=>a.lp b x (by rintro rfl;rw[(w _ hB).1]at e;cases e) hx (f.lp b x hx e),fun b c r=>a.ro b c (f.ro b c r)⟩
theorem DQ(h:Heap)(B:Nat)(k:Blk):(hset h B k).bl.get B=some k:=T.get_set_self _ _ _
theorem qt(h:Heap)(k:Blk):(hnew h k).bl.get h.next=some k:=T.get_set_self _ _ _
def Rdb(h:Heap)(b:Nat)(c:List V):Prop:=Own h b c∨Rs h b c
theorem Rdb.cells{h:Heap}{b:Nat}{c:List V}(a:Rdb h b c):c9 h b=some c:=by obtain o|⟨f,k,ow,e1,e2,_⟩:=a;exact o.cells;simp only[c9,e1,rd,e2,Nat.beq_refl,Bool.or_true];rfl
theorem Rdb.ld1{h:Heap}{b:Nat}{c:List V}(a:Rdb h b c)(o:Nat):ag h b o=nth c o:=by simp only[ag,a.cells]
theorem Rdb.ld{h:Heap}{b:Nat}{c:List V}(a:Rdb h b c)(o n:Nat):ak h b o n=cT n (eY c o):=by simp only[ak,a.cells]
def ASl(h:Heap)(esz:Nat)(v:V)(n:Nat)(cs:List V):Prop:=
 cs.length=n*esz∧match v with
 |.nils=>n=0
 |.sliceE=>n=0
 |.sliceZ _ _=>n=0
 |.slice b o len cap=>len=n∧n≤cap∧∃c,Rdb h b c∧o+n*esz≤c.length∧cs=(c.drop o).take (n*esz)
 |.sliceU b o len e=>len=n∧e=esz∧∃c,Rdb h b c∧o+n*esz≤c.length∧cs=(c.drop o).take (n*esz)
 |_=>False
theorem Sl.a{h:Heap}{esz:Nat}{v:V}{n:Nat}{cs:List V}(a:Sl h esz v n cs):ASl h esz v n cs:=by
 let⟨hl,a⟩:=a;refine⟨hl,?_⟩;cases v with
 |slice b o l k=>let⟨h1,h2,c,o,x⟩:=a;exact⟨h1,h2,c,.inl o,x⟩
 |sliceU b o l k=>let⟨h1,h2,c,o,x⟩:=a;exact⟨h1,h2,c,.inl o,x⟩
 |sliceZ _ _=>exact a.elim
 |_=>exact a
theorem ASl.map{h h':Heap}{esz:Nat}{v:V}{n:Nat}{cs:List V}(a:ASl h esz v n cs)(f:∀b c,Rdb h b c→(cs≠[]→∃x∈cs,x∈c)→Rdb h' b c):ASl h' esz v n cs:=by
 let⟨hl,a⟩:=a;refine⟨hl,?_⟩;have key:∀(o:Nat)(c:List V),cs=(c.drop o).take (n*esz)→cs≠[]→∃x∈cs,x∈c:=by intro o c e hne;let⟨x,hx⟩:=List.exists_mem_of_ne_nil cs hne;exact⟨x,hx,List.mem_of_mem_drop (List.mem_of_mem_take (e▸hx))⟩
 cases v with
 |slice b o l k=>let⟨h1,h2,c,oc,x1,x2⟩:=a;exact⟨h1,h2,c,f b c oc (key o c x2),x1,x2⟩
 |sliceU b o l k=>let⟨h1,h2,c,oc,x1,x2⟩:=a;exact⟨h1,h2,c,f b c oc (key o c x2),x1,x2⟩
 |_=>exact a
theorem ASl.fr{h h':Heap}{esz:Nat}{v:V}{n:Nat}{cs:List V}(a:ASl h esz v n cs)(f:Fr [] h h'):ASl h' esz v n cs:=a.map fun b c r _=>r.imp (fun o=>f.get o) (f.ro b c)
theorem ASl.len{h:Heap}{esz:Nat}{v:V}{n:Nat}{cs:List V}(a:ASl h esz v n cs):aP .lenS [v]=some (.int .i64 n):=by
 let⟨hl,a⟩:=a;cases v with
 |slice b o l k=>obtain⟨rfl,_⟩:=a;rfl
 |sliceU b o l k=>obtain⟨rfl,_⟩:=a;rfl
 |nils=>have a:n=0:=a;subst a;rfl
 |sliceE=>have a:n=0:=a;subst a;rfl
 |sliceZ _ _=>have a:n=0:=a;subst a;rfl
 |_=>exact a.elim
theorem ASl.one{h:Heap}{esz:Nat}{v:V}{n:Nat}{cs:List V}(a:ASl h esz v n cs):v.one=true:=by
 let⟨hl,a⟩:=a;cases v with
 |slice b o l k=>rfl
 |sliceU b o l k=>rfl
 |nils=>rfl
 |sliceE=>rfl
 |sliceZ _ _=>rfl
 |_=>exact a.elim
theorem ASl.ix{h:Heap}{esz:Nat}{v:V}{n:Nat}{cs:List V}(a:ASl h esz v n cs)(k:IntKind)(i:Int)(h0:0≤i)(h1:i<n):
 ∃b o,aP (.ixs esz) [v,.int k i]=some (.ptr b o)∧(∀j,j<esz→ag h b (o+j)=cs[i.toNat*esz+j]?)∧ak h b o esz=some ((cs.drop (i.toNat*esz)).take esz):=by
 let⟨hl,a⟩:=a;obtain⟨m,rfl⟩:∃m:Nat,i=m:=⟨i.toNat,oM⟩;have hm:m<n:=oM;have hmul:m*esz+esz≤n*esz:=by rw[←Nat.succ_mul];exact Nat.mul_le_mul_right _ hm
 have main:∀(b o:Nat)(c:List V),Rdb h b c→o+n*esz≤c.length→cs=(c.drop o).take (n*esz)→
  (∀j,j<esz→ag h b (o+m*esz+j)=cs[m*esz+j]?)∧ak h b (o+m*esz) esz=some ((cs.drop (m*esz)).take esz):=by
  intro b o c hc hlen e;subst e;constructor;intro j hj;rw[hc.ld1,gR,List.getElem?_take,if_pos oM,List.getElem?_drop];congr 1;omega;rw[hc.ld,bq,aZ _ _ oO,List.drop_take,List.drop_drop,List.take_take];congr 2;omega
 cases v with
 |slice b o l q=>obtain⟨rfl,_,c,hc,hlen,e⟩:=a;exact⟨b,o+m*esz,jV _ _ _ _ _ _ _ h0 h1,main b o c hc hlen e⟩
 |sliceU b o l q=>obtain⟨rfl,rfl,c,hc,hlen,e⟩:=a;exact⟨b,o+m*q,lP _ _ _ _ _ _ _ h0 h1,main b o c hc hlen e⟩
 |nils=>have a:n=0:=a;omega
 |sliceE=>have a:n=0:=a;omega
 |sliceZ _ _=>have a:n=0:=a;omega
 |_=>exact a.elim
section
variable {α : Type} {f : α → List V} {k : Nat}
def ARecs(f:α→List V)(k:Nat)(h:Heap)(v:V)(L:List α):Prop:=ASl h k v L.length (L.flatMap f)
theorem Recs.a{h:Heap}{v:V}{L:List α}(a:Recs f k h v L):ARecs f k h v L:=Sl.a a
theorem ARecs.fr{h h':Heap}{v:V}{L:List α}(a:ARecs f k h v L)(r:Fr [] h h'):ARecs f k h' v L:=ASl.fr a r
theorem ARecs.len{h:Heap}{v:V}{L:List α}(a:ARecs f k h v L):aP .lenS [v]=some (.int .i64 L.length):=ASl.len a
theorem ARecs.one{h:Heap}{v:V}{L:List α}(a:ARecs f k h v L):v.one=true:=ASl.one a
theorem ARecs.ix{h:Heap}{v:V}{L:List α}(hf:∀x,(f x).length=k)(a:ARecs f k h v L)(kd:IntKind)(i:Int)(h0:0≤i)(h1:i<L.length):
 ∃b o x,aP (.ixs k) [v,.int kd i]=some (.ptr b o)∧(∀j,j<k→ag h b (o+j)=(f x)[j]?)∧ak h b o k=some (f x)∧L[i.toNat]? =some x:=by
 let⟨b,o,e,g,g2⟩:=ASl.ix a kd i h0 h1;have hi:i.toNat<L.length:=oM;have e3:L[i.toNat]? =some L[i.toNat]:=by simp[hi]
 have ed:L.drop i.toNat=L[i.toNat]::L.drop (i.toNat+1):=List.drop_eq_getElem_cons hi;refine⟨b,o,L[i.toNat],e,fun j hj=>?_,?_,e3⟩;rw[g j hj,←List.getElem?_drop,eO hf,ed,List.flatMap_cons,List.getElem?_append_left (by rw[hf];exact hj)];rw[g2,eO hf,ed,List.flatMap_cons];have:=hf L[i.toNat];rw[List.take_append,List.take_of_length_le oM,this];simp
end
end Go.Ev
namespace Go.Ev.Lay
set_option maxRecDepth 4000
def ItQ(h:Heap)(nx:Bool)(o:Option V)(K:V→Heap→Prop):Prop:=∃d,o=some d∧OQ (ait h nx d) K
theorem qZ{h:Heap}(nx:Bool)(d:V)(K:V→Heap→Prop):ItQ h nx (some d) K↔OQ (ait h nx d) K:=
 ⟨fun⟨_,e,k⟩=>by cases e;exact k,fun k=>⟨d,rfl,k⟩⟩
theorem Dj{call:aC}{loc:List V}{env:T V}{h:Heap}(nx:Bool)(x:Opd)(K:V→Heap→Prop):OQ (aK call loc env h (.it nx x)) K↔ItQ h nx (evO loc env x) K:=by
 simp only[aK,OQ,ItQ];cases evO loc env x with
 |none=>simp
 |some d=>simp
theorem Ju{h:Heap}(z:List UInt8)(K:V→Heap→Prop):OQ (ait h false (.str z)) K↔K (.ptr h.next 0) (hnew h (.si z 0)):=bZ _ _ _
theorem Jv{h:Heap}{b pos:Nat}{z:List UInt8}(hb:h.bl.get b=some (.si z pos))(hp:¬pos<z.length)(K:V→Heap→Prop):OQ (ait h true (.ptr b 0)) K↔K (.tup [.bool false]) h:=by
 show OQ (match h.bl.get b with|some (.si z pos)=>_|_=>_) K↔_
 rw[hb];simp only[if_neg hp];exact bZ _ _ _
theorem Hl{h:Heap}{b pos:Nat}{z:List UInt8}(hb:h.bl.get b=some (.si z pos))(hp:pos<z.length)(K:V→Heap→Prop):OQ (ait h true (.ptr b 0)) K↔
 K (.tup [.bool true,.int .i64 (pos:Int),.int .i32 ((Utf8.decode ⟨z.toArray⟩ pos).1:Int)]) (hset h b (.si z (pos+(Utf8.decode ⟨z.toArray⟩ pos).2))):=by
 show OQ (match h.bl.get b with|some (.si z pos)=>_|_=>_) K↔_
 rw[hb];simp only[if_pos hp];exact bZ _ _ _
theorem _root_.Go.Ev.WF.hset{h:Heap}(w:WF h){b:Nat}{x:Blk}(hb:h.bl.get b=some x)(y:Blk):WF (hset h b y):=by intro p hp;let⟨q1,q2⟩:=w p hp;refine⟨?_,q2⟩;show(h.bl.set b y).get p=none;rw[T.get_set,if_neg (by rintro rfl;rw[hb]at q1;cases q1)];exact q1
theorem Fr.si{h:Heap}(w:WF h){b pos pos':Nat}{z:List UInt8}(hb:h.bl.get b=some (.si z pos)):Fr [] h (hset h b (.si z pos')) where
 next:=Nat.le_refl _
 wf:=WF.hset w hb _
 own:=fun x c _ ⟨f,k,e,q⟩=>⟨f,k,by
  show(h.bl.set b _).get x=_;rw[T.get_set,if_neg (by rintro rfl;rw[hb]at e;cases e)];exact e,q⟩
 pl:=fun x c _ ⟨⟨k,e⟩,q⟩=>⟨⟨k,by
  show(h.bl.set b _).get x=_;rw[T.get_set,if_neg (by rintro rfl;rw[hb]at e;cases e)];exact e⟩,q⟩
 lp:=fun x k hk e=>by show(h.bl.set b _).get x=_;rw[T.get_set,if_neg (by rintro rfl;rw[hb]at e;cases e;cases hk)];exact e
 ro:=fun x c ⟨f,k,ow,e,q1,q2,q3⟩=>⟨f,k,ow,by
  show(h.bl.set b _).get x=_;rw[T.get_set,if_neg (by rintro rfl;rw[hb]at e;cases e)];exact e,q1,by
  show(h.bl.set b _).get ow=_;rw[T.get_set,if_neg (by rintro rfl;rw[hb]at q2;cases q2)];exact q2,q3⟩
def Fv(g:Nat)(p:Int→Bool):Prop:=g<1099511627776∧(∀(r:Int)(h:Heap),aj go g [.int .i32 r] h fun u h'=>u=.bool (p r)∧h=h')∧∀r:Int,128≤r→p r=true
def dU(p:Int→Bool)(z:List UInt8):Bool:=z.any fun b=>p (b.toNat:Int)
theorem JB(z:List UInt8)(pos:Nat)(hp:pos<z.length)(p:Int→Bool)(h128:∀r:Int,128≤r→p r=true):
 (p ((Utf8.decode ⟨z.toArray⟩ pos).1:Int)=p ((z[pos]).toNat:Int))∧(p ((z[pos]).toNat:Int)=false→(Utf8.decode ⟨z.toArray⟩ pos).2=1):=by
 have hs:pos<(ByteArray.mk z.toArray).size:=hp;have he:(ByteArray.mk z.toArray)[pos]'hs=z[pos]:=rfl;by_cases c:(z[pos]).toNat<128;have:=Go.decode_ascii ⟨z.toArray⟩ pos hs (by rw[he];exact c);rw[this,he];exact⟨rfl,fun _=>rfl⟩;have:=Go.decode_high ⟨z.toArray⟩ pos hs (by rw[he];omega);rw[h128 _ oM,h128 _ oM];exact⟨rfl,fun e=>by cases e⟩
theorem sT{h:Heap}{z:List UInt8}{g:Nat}{p:Int→Bool}(w:WF h)(P:Fv g p)(hz:z.length<16777216):
 aj go 258 [.str z,.func (.func g) [] [],.bool true] h fun u h'=>∃r:Int,u=.int .i64 r∧(decide (0≤r)=dU p z)∧Fr [] h h':=by
 let⟨hg,hp,h128⟩:=P;obtain⟨h1,e_h1⟩:∃h1,h1=hnew h (.si z 0):=⟨_,rfl⟩;have F_h1:Fr [] h h1:=e_h1▸Fr.hnew w _;have b1:h1.bl.get h.next=some (.si z 0):=by rw[e_h1];exact qt _ _
 refine ab ?_;simp only[evs,seval,Dj,qZ,Ju,←e_h1];refine aA (fun k env hh=>Fr [] h hh∧∃(i:Nat),env.get 10=some (.ptr h.next 0)∧env.get 1=some (.func (.func g) [] [])∧env.get 2=some (.bool true)∧hh.bl.get h.next=some (.si z i)∧
  i≤z.length∧dU p (z.drop i)=dU p z∧k=z.length-i) z.length oM ?_ ?_
 ·exact⟨F_h1,0,iS,iS,iS,b1,oM,rfl,rfl⟩
 ·rintro k env hh ⟨F,i,g10,g1,g2,bb,hi,e,rfl⟩;by_cases hlt:i<z.length
  ·have⟨d1,d2⟩:=JB z i hlt p h128;have F1:Fr [] hh (hset hh h.next (.si z (i+(Utf8.decode ⟨z.toArray⟩ i).2))):=Fr.si F.wf bb;have b2:=DQ hh h.next (.si z (i+(Utf8.decode ⟨z.toArray⟩ i).2));rw[List.drop_eq_getElem_cons hlt]at e;simp only[evs,seval,g10,g1,Dj,qZ,Hl bb hlt,hg];refine aa (hp _ _) ?_;rintro _ h2 ⟨rfl,rfl⟩;cases c:p ((z[i]).toNat:Int)
   ·have w1:=d2 c;rw[c]at d1;rw[w1]at F1 b2⊢;simp only[evs,seval,d1,g2];unfold dU at e;rw[List.any_cons,c,Bool.false_or]at e;refine rqn ⟨z.length-(i+1),oM,F.then F1,i+1,iX,iX,iX,b2,oM,e,rfl⟩
    done
   ·rw[c]at d1;simp only[evs,seval,d1,g2];unfold dU at e⊢;rw[List.any_cons,c,Bool.true_or]at e;exact⟨i,rfl,by rw[←e];simp,F.then F1⟩
  ·simp only[evs,seval,g10,Dj,qZ,Jv bb hlt];rw[List.drop_of_length_le oM]at e;exact⟨-1,rfl,by rw[←e];rfl,F⟩
theorem oR{h:Heap}{z:List UInt8}{g:Nat}{p:Int→Bool}(w:WF h)(P:Fv g p)(hz:z.length<16777216):
 aj go 150 [.str z,.func (.func g) [] []] h fun u h'=>u=.bool (dU p z)∧Fr [] h h':=by
 refine ab ?_;simp only[evs,seval];refine aa (?_:aj go 209 _ _ (fun u h'=>∃r:Int,u=.int .i64 r∧(decide (0≤r)=dU p z)∧Fr [] h h')) ?_;refine ab ?_;simp only[evs,seval];refine aa (sT w P hz) ?_;rintro _ h1 ⟨r,rfl,e,F⟩;simp only[evs,seval];exact⟨r,rfl,e,F⟩;rintro _ h1 ⟨r,rfl,e,F⟩;simp only[evs,seval];exact⟨by rw[e],F⟩
def gH(r:Int):Bool:=decide (r<32)||decide (126<r)
def cQ(r:Int):Bool:=(decide (r<97)||decide (122<r))&&(decide (r<48)||decide (57<r))
theorem LR:Fv 151 gH:=⟨dI,fun r h=>by
 by_cases c:r<32;refine ab ?_;simp only[evs,seval,c];simp[gH,c];refine ab ?_;simp only[evs,seval,c];simp[gH,c],fun r hr=>by simp[gH];omega⟩
theorem LP:Fv 211 cQ:=⟨dI,fun r h=>by
 by_cases c:r<97;by_cases d:r<48;refine ab ?_;simp only[evs,seval,c,d];simp[cQ,c,d];refine ab ?_;simp only[evs,seval,c,d];simp[cQ,c,d];by_cases c':(122:Int)<r;by_cases d:r<48;omega;refine ab ?_;simp only[evs,seval,c,d,c'];simp[cQ,c,d,c'];refine ab ?_;simp only[evs,seval,c,c'];simp[cQ,c,c'],fun r hr=>by simp[cQ];omega⟩
def okT(z:List UInt8):Bool:=decide (z.length≤64)&& !dU gH z
def okN(z:List UInt8):Bool:=decide (0<z.length)&&(decide (z.length≤16)&& !dU cQ z)
theorem aD(a:List UInt8):aP .lenStr [.str a]=some (.int .i64 (a.length:Nat)):=rfl
theorem aV(a b:List UInt8):aP (.sb .neq) [.str a,.str b]=some (.bool (!(a==b))):=rfl
theorem aJ(a b:List UInt8):aP (.sb .eql) [.str a,.str b]=some (.bool (a==b)):=rfl
theorem jT(z:List UInt8):(z==[])=decide (z.length=0):=by cases z<;>rfl
theorem GY{h:Heap}{z:List UInt8}(w:WF h):aj go 155 [.str z] h fun u h'=>u=.bool (okN z)∧Fr [] h h':=by by_cases c0:z.length=0;refine ab ?_;simp only[evs,seval,aV,jT,c0];exact⟨by simp[okN,c0],Fr.refl w⟩;by_cases c1:z.length≤16;refine ab ?_;simp only[evs,seval,aD,aV,jT,c0,(oM:(z.length:Int)≤16)];refine aa (oR w LP oM) ?_;rintro _ h1 ⟨rfl,F⟩;simp only[evs,seval];exact⟨by simp[okN,c1];intro _;omega,F⟩;refine ab ?_;simp only[evs,seval,aD,aV,jT,c0,(oM:¬(z.length:Int)≤16)];exact⟨by simp[okN,c1],Fr.refl w⟩
abbrev sS(s:List UInt8):List V:=[.str s]
theorem fT(s:List UInt8):(sS s).length=1:=rfl
theorem Dt{h:Heap}{z:List UInt8}(w:WF h):aj go 154 [.str z] h fun u h'=>u=.bool (!okN z)∧Fr [] h h':=by refine ab ?_;simp only[evs,seval];refine aa (GY w) ?_;rintro _ h1 ⟨rfl,F⟩;simp only[evs,seval];exact F
def H8(g:Nat):Prop:=g<1099511627776∧∀(z:List UInt8)(h:Heap),WF h→aj go g [.str z] h fun u h'=>u=.bool (!okN z)∧Fr [] h h'
theorem LT:H8 154:=⟨dI,fun _ _ w=>Dt w⟩
theorem BM{h:Heap}{v:V}{g:Nat}{L:List (List UInt8)}(P:H8 g)(w:WF h)(a:ARecs sS 1 h v L)(hn:L.length≤4096):
 aj go 210 [v,.func (.func g) [] []] h fun u h'=>∃r:Int,u=.int .i64 r∧(decide (0≤r)= !L.all okN)∧Fr [] h h':=by
 refine ab ?_;simp only[evs,seval,a.len];refine aA (fun k env hh=>Fr [] h hh∧∃(i:Nat),env.get 8=some (.int .i64 i)∧env.get 7=some (.int .i64 L.length)∧env.get 0=some v∧env.get 1=some (.func (.func g) [] [])∧
  i≤L.length∧(L.drop i).all okN=L.all okN∧k=L.length-i) L.length oM ?_ ?_
 ·exact⟨Fr.refl w,0,iS,iS,iS,iS,oM,rfl,rfl⟩
 ·rintro k env hh ⟨F,i,g8,g7,g0,g1,hi,e,rfl⟩;by_cases hlt:i<L.length
  ·have hlt':(i:Int)<L.length:=oM
   let⟨b,o,s,e1,e2,_,e5⟩:=(a.fr F).ix fT .i64 i oM hlt';have e4:ag hh b o=some (.str s):=e2 0 oM;rw[Int.toNat_natCast]at e5;rw[aG e5,List.all_cons]at e;simp only[evs,seval,g8,g7,g0,g1,hlt',e1,e4,P.1];refine aa (P.2 _ _ F.wf) ?_;rintro _ h1 ⟨rfl,F1⟩;cases c:okN s
   ·simp only[evs,seval];rw[c]at e;exact⟨i,rfl,by rw[←e];simp,F.then F1⟩
   ·simp(disch:=omega) only[evs,seval,ah,g8];rw[c]at e;refine rqn ⟨L.length-(i+1),oM,F.then F1,i+1,iS,iX,iX,iX,oM,by simpa using e,rfl⟩
    done
  ·simp only[evs,seval,g8,g7,(oM:¬(i:Int)<L.length)];rw[List.drop_of_length_le oM]at e;exact⟨-1,rfl,by rw[←e];rfl,F⟩
theorem mH{h:Heap}{v:V}{g:Nat}{L:List (List UInt8)}(P:H8 g)(w:WF h)(a:ARecs sS 1 h v L)(hn:L.length≤4096):
 aj go 153 [v,.func (.func g) [] []] h fun u h'=>u=.bool (!L.all okN)∧Fr [] h h':=by
 refine ab ?_;simp only[evs,seval];refine aa (BM P w a hn) ?_;rintro _ h1 ⟨r,rfl,e,F⟩;simp only[evs,seval];exact⟨by rw[e],F⟩
structure Itm where
 key:Nat
 type:Nat
 text:List UInt8
 marks:List (List UInt8)
 vm:V
def Itm.cells(x:Itm):List V:=[.int .u64 (x.key:Int),.int .u8 (x.type:Int),.str x.text,x.vm]
structure ItmH(h:Heap)(x:Itm):Prop where
 k:x.key<18446744073709551616
 t:x.type<256
 m:ARecs sS 1 h x.vm x.marks
 n:x.marks.length≤4096
 l:x.text.length<16777216
theorem ItmH.fr{h h':Heap}{x:Itm}(a:ItmH h x)(f:Fr [] h h'):ItmH h' x:=⟨a.k,a.t,a.m.fr f,a.n,a.l⟩
theorem ItmH.one{h:Heap}{x:Itm}(a:ItmH h x):av x.cells=true:=by show av [.int .u64 (x.key:Int),.int .u8 (x.type:Int),.str x.text,x.vm]=true;simp only[aB,aF,a.m.one];rfl
def okM(ms:List (List UInt8)):Bool:=decide (ms.length≤8)&&ms.all okN
def okI(x:Itm)(types:Nat):Bool:=decide (x.key≠0)&&(decide (x.type<types)&&(okT x.text&&okM x.marks))
theorem Gm{h:Heap}{x:Itm}{b:Nat}(w:WF h)(a:ItmH h x)(o:Own h b x.cells):aj go 149 [.ptr b 0] h fun u h'=>u=.bool (okT x.text)∧Fr [] h h':=by have l2:ag h b 2=some (.str x.text):=o.ld1 2;by_cases c:x.text.length≤64;refine ab ?_;simp only[evs,seval,l2,aD,(oM:(x.text.length:Int)≤64)];refine aa (oR w LR a.l) ?_;rintro _ h1 ⟨rfl,F⟩;simp only[evs,seval];exact⟨by simp[okT,c],F⟩;refine ab ?_;simp only[evs,seval,l2,aD,(oM:¬(x.text.length:Int)≤64)];exact⟨by simp[okT,c],Fr.refl w⟩
theorem Dv{h:Heap}{x:Itm}{b:Nat}(w:WF h)(a:ItmH h x)(o:Own h b x.cells):aj go 152 [.ptr b 0] h fun u h'=>u=.bool (okM x.marks)∧Fr [] h h':=by have l2:ag h b 3=some x.vm:=o.ld1 3;by_cases c:x.marks.length≤8;refine ab ?_;simp only[evs,seval,l2,a.m.len,(oM:(x.marks.length:Int)≤8)];refine aa (mH LT w a.m a.n) ?_;rintro _ h1 ⟨rfl,F⟩;simp only[evs,seval];exact⟨by simp[okM,c],F⟩;refine ab ?_;simp only[evs,seval,l2,a.m.len,(oM:¬(x.marks.length:Int)≤8)];exact⟨by simp[okM,c],Fr.refl w⟩
theorem xr{h:Heap}{x:Itm}{types:Nat}(w:WF h)(a:ItmH h x)(ht:types<256):aj go 91 [.agg x.cells,.int .i64 (types:Int)] h fun u h'=>u=.int .i64 (if okI x types then 0 else 6)∧Fr [] h h':=by let⟨h1,e_h1,F_h1,o_h1⟩:=ao w x.cells;have l0:ag h1 h.next 0=some (.int .u64 (x.key:Int)):=o_h1.ld1 0;have l1:ag h1 h.next 1=some (.int .u8 (x.type:Int)):=o_h1.ld1 1;have xt:=a.t;by_cases c0:x.key=0;refine ab ?_;simp only[evs,seval,←e_h1,l0,(oM:(x.key:Int)=0)];exact⟨by simp[okI,c0],F_h1⟩;by_cases c1:x.type<types;refine ab ?_;simp(disch:=omega) only[evs,seval,ah,←e_h1,l0,(oM:¬(x.key:Int)=0),l1,(oM:¬(types:Int)≤x.type)];refine aa (Gm F_h1.wf (a.fr F_h1) o_h1) ?_;rintro _ h2 ⟨rfl,F2⟩;cases c2:okT x.text;simp only[evs,seval];exact⟨by simp[okI,c2],F_h1.then F2⟩;simp only[evs,seval];refine aa (Dv F2.wf (a.fr (F_h1.then F2)) (F2.get o_h1)) ?_;rintro _ h3 ⟨rfl,F3⟩;cases c3:okM x.marks;simp only[evs,seval];exact⟨by simp[okI,c3],(F_h1.then F2).then F3⟩;simp only[evs,seval];exact⟨by simp[okI,c0,c1,c2,c3],(F_h1.then F2).then F3⟩;refine ab ?_;simp(disch:=omega) only[evs,seval,ah,←e_h1,l0,(oM:¬(x.key:Int)=0),l1,(oM:(types:Int)≤x.type)];exact⟨by simp[okI,c1],F_h1⟩
theorem BO{h:Heap}(r:Nat):aj go 310 [.int .u8 (r:Int)] h fun u h'=>u=.bool (!cQ r)∧h=h':=by by_cases c:(97:Int)≤r;by_cases d:(r:Int)≤122;refine ab ?_;simp only[evs,seval,c,d];simp[cQ];omega;by_cases e:(48:Int)≤r;by_cases f:(r:Int)≤57;omega;refine ab ?_;simp only[evs,seval,c,d,e,f];simp[cQ];omega;omega;by_cases e:(48:Int)≤r;by_cases f:(r:Int)≤57;refine ab ?_;simp only[evs,seval,c,e,f];simp[cQ];omega;refine ab ?_;simp only[evs,seval,c,e,f];simp[cQ];omega;refine ab ?_;simp only[evs,seval,c,e];simp[cQ];omega
theorem bF{z:List UInt8}{i:Nat}(h:i<z.length)(k:IntKind):aP .ixstr [.str z,.int k (i:Int)]=some (.int .u8 ((z[i]).toNat:Nat)):=by show(z[i]?).map _=_;rw[List.getElem?_eq_getElem h];rfl
theorem qf{h:Heap}{z:List UInt8}:aj go 292 [.str z] h fun u h'=>u=.bool (okN z)∧h=h':=by
 by_cases c0:z.length<1
 ·refine ab ?_;simp only[evs,seval,aD,(oM:(z.length:Int)<1)];simp[okN];intro _;omega
 by_cases c1:16<z.length
 ·refine ab ?_;simp only[evs,seval,aD,(oM:¬(z.length:Int)<1),(oM:(16:Int)<z.length)];simp[okN];intro _ _;omega
 ·have e0:okN z= !dU cQ z:=by simp[okN,(oM:0<z.length),(oM:z.length≤16)]
  rw[e0];refine ab ?_;simp only[evs,seval,aD,(oM:¬(z.length:Int)<1),(oM:¬(16:Int)<z.length)];refine aA (fun k env hh=>h=hh∧∃(i:Nat),env.get 14=some (.int .i64 i)∧env.get 13=some (.int .i64 z.length)∧env.get 0=some (.str z)∧
   i≤z.length∧dU cQ (z.drop i)=dU cQ z∧k=z.length-i) z.length oM ?_ ?_
  ·exact⟨rfl,0,iS,iS,iS,oM,rfl,rfl⟩
  ·rintro k env hh ⟨rfl,i,g14,g13,g0,hi,e,rfl⟩;by_cases hlt:i<z.length
   ·unfold dU at e;rw[List.drop_eq_getElem_cons hlt,List.any_cons]at e;simp only[evs,seval,g14,g13,g0,(oM:(i:Int)<z.length),bF hlt];refine aa (BO _) ?_;rintro _ _ ⟨rfl,rfl⟩;cases c:cQ ((z[i]).toNat:Int)
    ·simp(disch:=omega) only[evs,seval,ah,g14];rw[c,Bool.false_or]at e;refine rqn ⟨z.length-(i+1),oM,rfl,i+1,iS,iX,iX,oM,e,rfl⟩
     done
    ·simp only[evs,seval];rw[c,Bool.true_or]at e;unfold dU;rw[←e];simp
   ·simp only[evs,seval,g14,g13,(oM:¬(i:Int)<z.length)];rw[List.drop_of_length_le oM]at e;rw[←e];rfl
theorem LO:Fv 309 gH:=⟨dI,fun r h=>by
 by_cases c:r<32;refine ab ?_;simp only[evs,seval,c];simp[gH,c];refine ab ?_;simp only[evs,seval,c];simp[gH,c],fun r hr=>by simp[gH];omega⟩
theorem wp{h:Heap}{z:List UInt8}(w:WF h):aj go 291 [.str z] h fun u h'=>u=.bool (okT z)∧Fr [] h h':=by
 by_cases c:z.length≤64;refine ab ?_;simp only[evs,seval,aD,(oM:(z.length:Int)≤64)];refine aa (?_:aj go 209 _ _ (fun u h'=>∃r:Int,u=.int .i64 r∧(decide (0≤r)=dU gH z)∧Fr [] h h')) ?_;refine ab ?_;simp only[evs,seval];refine aa (sT w LO oM) ?_;rintro _ h1 ⟨r,rfl,e,F⟩;simp only[evs,seval];exact⟨r,rfl,e,F⟩;rintro _ h1 ⟨r,rfl,e,F⟩;simp only[evs,seval];refine⟨?_,F⟩;have:decide (r<0)= !decide (0≤r):=by grind
 simp[okT,c,←e];exact this;refine ab ?_;simp only[evs,seval,aD,(oM:¬(z.length:Int)≤64)];exact⟨by simp[okT,c],Fr.refl w⟩
abbrev Str:=List UInt8
inductive NT where
 |nil
 |cons (kind:Nat) (tag key:Str) (attrs:List (Str×Str)) (text:Str) (va vc:V) (sub next:NT)
def fg(a:Str×Str):List V:=[.str a.1,.str a.2]
theorem dK(a:Str×Str):(fg a).length=2:=rfl
namespace NT
def len:NT→Nat
 |nil=>0
 |cons _ _ _ _ _ _ _ _ nx=>nx.len+1
def cells:NT→List V
 |nil=>[]
 |cons k tg ky _ tx va vc _ nx=>[.int .u8 (k:Int),.str tg,.str ky,va,.str tx,vc]++nx.cells
def keys:NT→List Str
 |nil=>[]
 |cons _ _ ky _ _ _ _ _ nx=>ky::nx.keys
theorem cells_len:∀t:NT,t.cells.length=t.len*6
 |nil=>rfl
 |cons _ _ _ _ _ _ _ _ nx=>by simp[cells,len,cells_len nx];omega
theorem keys_len:∀t:NT,t.keys.length=t.len
 |nil=>rfl
 |cons _ _ _ _ _ _ _ _ nx=>by simp[keys,len,keys_len nx]
def at':NT→Nat→NT
 |t,0=>t
 |nil,_+1=>nil
 |cons _ _ _ _ _ _ _ _ nx,i+1=>nx.at' i
end NT
def NH(h:Heap):NT→Prop
 |.nil=>True
 |.cons k _ _ at' _ va vc sub nx=>k<256∧Recs fg 2 h va at'∧at'.length≤4096∧Sl h 6 vc sub.len sub.cells∧sub.len≤4096∧NH h sub∧NH h nx
theorem NH.fr{h h':Heap}(f:Fr [] h h'):∀{t:NT},NH h t→NH h' t
 |.nil,_=>trivial
 |.cons _ _ _ _ _ _ _ _ _,⟨a,b,c,d,e,g,i⟩=>⟨a,b.fr f,c,d.fr f,e,NH.fr f g,NH.fr f i⟩
set_option maxRecDepth 4000
namespace NT
theorem split:∀(t:NT)(i:Nat),i<t.len→∃k tg ky at' tx va vc sub nx,t.at' i=.cons k tg ky at' tx va vc sub nx∧t.cells.drop (i*6)=[.int .u8 ((k:Nat):Int),.str tg,.str ky,va,.str tx,vc]++nx.cells∧t.at' (i+1)=nx∧t.keys.drop i=ky::nx.keys∧t.keys[i]? =some ky∧nx.len+(i+1)=t.len
 |.nil,_,h=>by cases h
 |.cons k tg ky at' tx va vc sub nx,0,_=>⟨k,tg,ky,at',tx,va,vc,sub,nx,rfl,rfl,by cases nx<;>rfl,rfl,rfl,rfl⟩
 |.cons _ _ _ _ _ _ _ _ nx,i+1,h=>by let⟨k,tg,ky,at',tx,va,vc,sub,n,e1,e2,e3,e4,e5,e6⟩:=split nx i (by simp[len]at h;omega);refine⟨k,tg,ky,at',tx,va,vc,sub,n,e1,?_,e3,e4,?_,by simp only[len];omega⟩;rw[(oM:(i+1) *6=6+i*6),←List.drop_drop];exact e2;simpa[keys]using e5
theorem at_end:∀(t:NT)(i:Nat),t.len≤i→t.at' i=.nil
 |.nil,0,_=>rfl
 |.nil,_+1,_=>rfl
 |.cons _ _ _ _ _ _ _ _ nx,0,h=>by simp[len]at h
 |.cons _ _ _ _ _ _ _ _ nx,i+1,h=>at_end nx i (by simp[len]at h;omega)
end NT
theorem NH.at'{h:Heap}:∀{t:NT}(i:Nat),NH h t→NH h (t.at' i)
 |.nil,0,_=>trivial
 |.nil,_+1,_=>trivial
 |.cons _ _ _ _ _ _ _ _ _,0,a=>a
 |.cons _ _ _ _ _ _ _ _ _,i+1,⟨_,_,_,_,_,_,g⟩=>NH.at' i g
def At6(h:Heap)(b o:Nat)(x0 x1 x2 x3 x4 x5:V):Prop:=ag h b o=some x0∧ag h b (o+1)=some x1∧ag h b (o+2)=some x2∧ag h b (o+3)=some x3∧ag h b (o+4)=some x4∧ag h b (o+5)=some x5∧ak h b o 6=some [x0,x1,x2,x3,x4,x5]
theorem _root_.Go.Ev.Sl.ix6{h:Heap}{v:V}{n:Nat}{cs:List V}(a:Sl h 6 v n cs){i:Nat}(hi:i<n){x0 x1 x2 x3 x4 x5:V}{r:List V}(e:cs.drop (i*6)=[x0,x1,x2,x3,x4,x5]++r):
 ∃b o,aP (.ixs 6) [v,.int .i64 (i:Int)]=some (.ptr b o)∧At6 h b o x0 x1 x2 x3 x4 x5:=by
 let⟨b,o,e1,e2,e3⟩:=Sl.ix a .i64 (i:Int) oM oM;rw[Int.toNat_natCast]at e2 e3;rw[e]at e3;have g:∀j,cs[i*6+j]? =([x0,x1,x2,x3,x4,x5]++r)[j]? :=fun j=>by rw[←e,List.getElem?_drop]
 refine⟨b,o,e1,?_,?_,?_,?_,?_,?_,e3⟩;have:=e2 0 oM;rw[g]at this;exact this;grind;grind;grind;grind;grind
theorem _root_.Go.Ev.Own.at6{h:Heap}{b:Nat}{x0 x1 x2 x3 x4 x5:V}(o:Own h b [x0,x1,x2,x3,x4,x5]):At6 h b 0 x0 x1 x2 x3 x4 x5:=⟨o.ld1 0,o.ld1 1,o.ld1 2,o.ld1 3,o.ld1 4,o.ld1 5,by rw[o.ld];rfl⟩
theorem yg{h:Heap}{x0 x1 x3 x4 x5:V}{ky k0:Str}{bk:Nat}(w:WF h)(hk:∀h',Fr [] h h'→ag h' bk 2=some (.str k0))(ones:av [x0,x1,.str ky,x3,x4,x5]=true):
 aj go 294 [.agg [x0,x1,.str ky,x3,x4,x5],.ptr bk 0] h fun u h'=>u=.bool (ky==k0)∧Fr [] h h':=by
 let⟨h1,e_h1,F_h1,o_h1⟩:=ao w [x0,x1,.str ky,x3,x4,x5];have l2:ag h1 h.next 2=some (.str ky):=o_h1.ld1 2;refine ab ?_;simp only[evs,seval,←e_h1,l2,hk h1 F_h1,aJ];exact F_h1
theorem BN{h:Heap}{u:V}{t:NT}{i bk:Nat}{k0:Str}(w:WF h)(a:Sl h 6 u i (t.cells.take (i*6)))(hi:i≤t.len)(hn:i≤4096)(ones:av t.cells=true)(hk:∀h',Fr [] h h'→ag h' bk 2=some (.str k0)):
 aj go 293 [u,.func (.func 294) [] [.ptr bk 0]] h fun z h'=>z=.bool ((t.keys.take i).any (· ==k0))∧Fr [] h h':=by
 refine ab ?_;simp only[evs,seval];refine aa (?_:aj go 311 _ _ (fun z h'=>∃r:Int,z=.int .i64 r∧(decide (0≤r)=(t.keys.take i).any (· ==k0))∧Fr [] h h')) ?_
 ·refine ab ?_;simp only[evs,seval,a.len];refine aA (fun k env hh=>Fr [] h hh∧∃(j:Nat),env.get 8=some (.int .i64 j)∧env.get 7=some (.int .i64 i)∧env.get 0=some u∧env.get 1=some (.func (.func 294) [] [.ptr bk 0])∧
   j≤i∧((t.keys.take i).drop j).any (· ==k0)=(t.keys.take i).any (· ==k0)∧k=i-j) i oM ?_ ?_
  ·exact⟨Fr.refl w,0,iS,iS,iS,iS,oM,rfl,rfl⟩
  ·rintro k env hh ⟨F,j,g8,g7,g0,g1,hj,e,rfl⟩;by_cases hlt:j<i
   ·let⟨kd,tg,ky,at',tx,va,vc,sub,nx,e1,e2,e3,e4,e5,_⟩:=t.split j oM;have q:(t.cells.take (i*6)).drop (j*6)=[.int .u8 (kd:Int),.str tg,.str ky,va,.str tx,vc]++nx.cells.take (i*6-j*6-6):=by
     rw[List.drop_take,e2,(oO:i*6-j*6=([.int .u8 (kd:Int),.str tg,.str ky,va,.str tx,vc]:List V).length+(i*6-j*6-6)),List.take_length_add_append];simp
    let⟨b,o,p1,p2⟩:=(a.fr F).ix6 hlt q;have on:av [.int .u8 (kd:Int),.str tg,.str ky,va,.str tx,vc]=true:=by
     have:=dQ (j*6) ones;rw[e2,aN]at this;exact(Bool.and_eq_true _ _▸this).1
    have ek:(t.keys.take i)[j]? =some ky:=by grind
    rw[aG ek,List.any_cons]at e;simp only[evs,seval,g8,g7,g0,g1,(oM:(j:Int)<(i:Int)),p1,p2.2.2.2.2.2.2];refine aa (yg F.wf (fun h' f=>hk h' (F.then f)) on) ?_;rintro _ h1 ⟨rfl,F1⟩;cases c:ky==k0
    ·simp(disch:=omega) only[evs,seval,ah,g8];rw[c]at e;refine rqn ⟨i-(j+1),oM,F.then F1,j+1,iS,iX,iX,iX,oM,by simpa using e,rfl⟩
     done
    ·simp only[evs,seval];rw[c]at e;exact⟨j,rfl,by rw[←e];simp,F.then F1⟩
   ·simp only[evs,seval,g8,g7,(oM:¬(j:Int)<(i:Int))];rw[List.drop_of_length_le oO]at e;exact⟨-1,rfl,by rw[←e];rfl,F⟩
 ·rintro _ h1 ⟨r,rfl,e,F⟩;simp only[evs,seval];exact⟨by rw[e],F⟩
set_option maxRecDepth 4000
def leS(a b:Str):Bool:=Op.bytesLess a b||a==b
theorem ko(a b:Str):aP (.sb .leq) [.str a,.str b]=some (.bool (leS a b)):=rfl
def bT(p:Option Str)(n:Str):Bool:=match p with
 |none=>true
 |some q=> !leS n q
def db:Option Str→List (Str×Str)→Bool
 |_,[]=>true
 |p,(n,v)::r=>(okN n&&(okT v&&bT p n))&&db (some n) r
def fA:List Str→List Str→Bool
 |_,[]=>true
 |pr,k::r=>(k==[]|| !(pr.any (· ==k)))&&fA (pr++[k]) r
theorem oK(pr:List Str)(k:Str)(r:List Str):fA pr (k::r)=((k==[]|| !(pr.any (· ==k)))&&fA (pr++[k]) r):=rfl
theorem mQ(p:Option Str)(a:Str×Str)(r:List (Str×Str)):db p (a::r)=((okN a.1&&(okT a.2&&bT p a.1))&&db (some a.1) r):=rfl
def gA(k:Nat)(tg ky:Str)(at':List (Str×Str))(tx:Str)(sub:NT):Bool:=
 if k=2 then okT tx&&(tg==[]&&(ky==[]&&(decide (at'.length=0)&&decide (sub.len=0))))
 else decide (k=1)&&(okN tg&&((ky==[]||okN ky)&&(tx==[]&&(decide (at'.length≤8)&&(decide (sub.len≤16)&&(db none at'&&fA [] sub.keys))))))
def i9(at':List (Str×Str))(i:Nat):Option Str:=if i=0 then none else(at'[i-1]?).map (·.1)
theorem pY{at':List (Str×Str)}{i:Nat}{a:Str×Str}(h:at'[i]? =some a):i9 at' (i+1)=some a.1:=by simp[i9,h]
theorem JL{h:Heap}{b o:Nat}{x0 x1 x2 x3 x4 vc:V}{sub:NT}{env:T V}{R:V→Heap→Prop}(w:WF h)(hA:∀h',Fr [] h h'→At6 h' b o x0 x1 x2 x3 x4 vc)
 (rc:Sl h 6 vc sub.len sub.cells) (nc:sub.len≤4096) (ones:av sub.cells=true) (g0:env.get 0=some (.ptr b o))
 (k:∀h',Fr [] h h'→R (.bool (fA [] sub.keys)) h'):W go alC env h (iC [.t 2] R):=by
 have q5:=(hA h (Fr.refl w)).2.2.2.2.2.1;simp only[evs,seval,alC,g0,q5,rc.len];refine aA (fun n env hh=>Fr [] h hh∧∃(i:Nat),env.get 142=some (.int .i64 i)∧env.get 141=some (.int .i64 sub.len)∧env.get 140=some vc∧env.get 0=some (.ptr b o)∧
  i≤sub.len∧fA (sub.keys.take i) (sub.keys.drop i)=fA [] sub.keys∧n=sub.len-i) sub.len oM ?_ ?_
 ·exact⟨Fr.refl w,0,iS,iS,iS,iX,oM,rfl,rfl⟩
 ·rintro n env hh ⟨F,i,g142,g141,g140,g0,hi,e,rfl⟩;by_cases hlt:i<sub.len
  ·let⟨kd,tg,ky,at',tx,va,vc',sb,nx,e1,e2,e3,e4,e5,_⟩:=sub.split i hlt;let⟨b',o',p1,p2⟩:=(rc.fr F).ix6 hlt e2;have on:av [.int .u8 (kd:Int),.str tg,.str ky,va,.str tx,vc']=true:=by
    have:=dQ (i*6) ones;rw[e2,aN]at this;exact(Bool.and_eq_true _ _▸this).1
   have hlt':(i:Int)<sub.len:=oM
   rw[e4]at e;rw[oK]at e;have ek:(sub.keys.take i)++[ky]=sub.keys.take (i+1):=by grind
   have ed:nx.keys=sub.keys.drop (i+1):=by
    rw[←List.drop_drop (i:=1),e4];rfl
   rw[ek,ed]at e;let⟨h1,e_h1,F_h1,o_h1⟩:=ao F.wf [.int .u8 0,.str [],.str [],.nils,.str [],.nils];simp only[evs,seval,g142,g141,g140,hlt',p1,p2.2.2.2.2.2.2,←e_h1];refine ai (c':=[.int .u8 (kd:Int),.str tg,.str ky,va,.str tx,vc']) F_h1.wf o_h1 rfl on rfl ?_;rintro h2 o2 F2 n2;have F02:Fr [] hh h2:=F_h1.fresh F2 F.wf (Nat.le_refl _);have q2:ag h2 hh.next 2=some (.str ky):=o2.ld1 2;have q5:=(hA h2 (F.then F02)).2.2.2.2.2.1;cases c:ky==[]
   ·let⟨u,s1,s2⟩:=(rc.fr (F.then F02)).upto oM (Sl.ne (rc.fr (F.then F02)) oM) .i64 (i:Int) oM oM;rw[Int.toNat_natCast]at s2;simp only[evs,seval,g0,q2,aV,c,q5,s1];apply aa (BN F02.wf s2 oM oM ones (fun h' f=>(f.get o2).ld1 2));rintro _ h3 ⟨rfl,F3⟩;cases c2:(sub.keys.take i).any (· ==ky)
    ·simp(disch:=omega) only[evs,seval,ah,g142];rw[c,c2]at e;refine rqn ⟨sub.len-(i+1),oM,(F.then F02).then F3,i+1,iS,iX,iX,iX,oM,by simpa using e,rfl⟩
     done
    ·simp only[evs,seval];have:=k _ ((F.then F02).then F3);rw[←e,c,c2]at this;simpa using this
   ·simp(disch:=omega) only[evs,seval,ah,g142,q2,aV,c];rw[c]at e;refine rqn ⟨sub.len-(i+1),oM,F.then F02,i+1,iS,iX,iX,iX,oM,by simpa using e,rfl⟩
    done
  ·simp only[evs,seval,g142,g141,(oM:¬(i:Int)<sub.len)];rw[List.drop_of_length_le (by rw[NT.keys_len];omega)]at e;have:=k _ F;rw[←e]at this;exact this
theorem EK{h:Heap}{b o:Nat}{x0 x1 x2 va x4 vc:V}{at':List (Str×Str)}{sub:NT}{env:T V}{R:V→Heap→Prop}(w:WF h)(hA:∀h',Fr [] h h'→At6 h' b o x0 x1 x2 va x4 vc)
 (ra:Recs fg 2 h va at') (na:at'.length≤4096) (rc:Sl h 6 vc sub.len sub.cells) (nc:sub.len≤4096) (ones:av sub.cells=true) (g0:env.get 0=some (.ptr b o))
 (k:∀h',Fr [] h h'→R (.bool (db none at'&&fA [] sub.keys)) h'):W go alA env h (iC [.t 2] R):=by
 have q3:=(hA h (Fr.refl w)).2.2.2.1;simp only[evs,seval,alA,g0,q3,ra.len];refine aA (fun n env hh=>Fr [] h hh∧∃(i:Nat),env.get 103=some (.int .i64 i)∧env.get 102=some (.int .i64 at'.length)∧env.get 101=some va∧env.get 0=some (.ptr b o)∧
  i≤at'.length∧db (i9 at' i) (at'.drop i)=db none at'∧n=at'.length-i) at'.length oM ?_ ?_
 ·exact⟨Fr.refl w,0,iS,iS,iS,iX,oM,rfl,rfl⟩
 ·rintro n env hh ⟨F,i,g103,g102,g101,g0,hi,e,rfl⟩;by_cases hlt:i<at'.length
  ·have hlt':(i:Int)<at'.length:=oM
   let⟨b',o',a,p1,p2,p3,p4⟩:=(ra.fr F).ix dK .i64 (i:Int) oM hlt';rw[Int.toNat_natCast]at p4;rw[aG p4,mQ]at e;have en:=pY p4;let⟨h1,e_h1,F_h1,o_h1⟩:=ao F.wf [.str [],.str []];simp only[evs,seval,g103,g102,g101,hlt',p1,p3,←e_h1];apply stu F_h1.wf o_h1;rintro h2 o2 F2 n2;have F02:Fr [] hh h2:=F_h1.fresh F2 F.wf (Nat.le_refl _);have q0:ag h2 hh.next 0=some (.str a.1):=o2.ld1 0;have q1:ag h2 hh.next 1=some (.str a.2):=o2.ld1 1;simp only[evs,seval,eff,q0];apply aa qf;rintro _ _ ⟨rfl,rfl⟩;cases c1:okN a.1
   ·simp only[evs,seval,DF,eff,q0];have:=k _ (F.then F02);rw[←e,c1]at this;simpa using this
   simp only[evs,seval,eff,q1];apply aa (wp F02.wf);rintro _ h3 ⟨rfl,F3⟩;have F03:=(F.then F02).then F3;have q0':ag h3 hh.next 0=some (.str a.1):=(F3.get o2).ld1 0;cases c2:okT a.2
   ·simp only[evs,seval,DF,eff,q0,q1];have:=k _ F03;rw[←e,c1,c2]at this;simpa using this
   have fin:bT (i9 at' i) a.1=true→db (i9 at' (i+1)) (at'.drop (i+1))=db none at':=fun c=>by grind
   by_cases c3:i=0
   ·simp(disch:=omega) only[evs,seval,DF,eff,ah,g103,q0,q1,(oM:¬(0:Int)<(i:Int))];refine rqn ⟨at'.length-(i+1),oM,F03,i+1,iS,iX,iX,iX,oM,fin (by rw[c3];rfl),rfl⟩
    done
   ·let⟨b2,o2',a2,r1,r2,r3,r4⟩:=(ra.fr F03).ix dK .i64 ((i:Int)-1) oM oM;have r4':at'[i-1]? =some a2:=by rw[←r4];congr 1;omega
    have r2':ag h3 b2 o2'=some (.str a2.1):=r2 0 oM;have q3:=(hA h3 F03).2.2.2.1;have pe:i9 at' i=some a2.1:=by simp[i9,c3,r4']
    cases c4:leS a.1 a2.1
    ·simp(disch:=omega) only[evs,seval,DF,eff,ah,c4,g103,g0,q0,q1,q0',q3,r1,r2',ko,(oM:(0:Int)<(i:Int))];refine rqn ⟨at'.length-(i+1),oM,F03,i+1,iS,iX,iX,iX,oM,fin (by rw[pe];simp[bT,c4]),rfl⟩
     done
    ·simp(disch:=omega) only[evs,seval,DF,eff,ah,c4,g0,q0,q1,q0',q3,r1,r2',ko,(oM:(0:Int)<(i:Int))];have:=k _ F03;rw[←e,pe,c1,c2]at this;simpa[bT,c4]using this
  ·simp only[evs,seval,g103,g102,(oM:¬(i:Int)<at'.length)];rw[List.drop_of_length_le oM]at e;refine JL F.wf (fun h' f=>hA h' (F.then f)) (rc.fr F) nc ones iX fun h' f=>?_;have:=k h' (F.then f);rw[←e]at this;simpa[db]using this
theorem EI{h:Heap}{b o k:Nat}{tg ky tx:Str}{at':List (Str×Str)}{va vc:V}{sub:NT}(w:WF h)(hA:∀h',Fr [] h h'→At6 h' b o (.int .u8 (k:Int)) (.str tg) (.str ky) va (.str tx) vc)
 (ra:Recs fg 2 h va at') (na:at'.length≤4096) (rc:Sl h 6 vc sub.len sub.cells) (nc:sub.len≤4096) (ones:av sub.cells=true):
 aj go 265 [.ptr b o] h fun u h'=>u=.bool (gA k tg ky at' tx sub)∧Fr [] h h':=by
 have q0:ag h b o=some (.int .u8 (k:Int)):=(hA h (Fr.refl w)).1;by_cases c0:k=2;have q4:ag h b (o+4)=some (.str tx):=(hA h (Fr.refl w)).2.2.2.2.1;unfold gA;rw[if_pos c0];refine ab ?_;simp only[evs,seval,q0,(oM:(k:Int)=2),q4];refine aa (wp w) ?_;rintro _ h1 ⟨rfl,F1⟩;let⟨_,q1,q2,q3,_,q5,_⟩:=hA h1 F1;have l1:=(ra.fr F1).len;have l2:=(rc.fr F1).len;cases c1:okT tx;simp only[evs,seval];exact⟨rfl,F1⟩;cases c2:tg==[];simp only[evs,seval,q1,aJ,c2];exact⟨rfl,F1⟩;cases c3:ky==[];simp only[evs,seval,q1,aJ,c2,q2,c3];exact⟨rfl,F1⟩;by_cases c4:at'.length=0;by_cases c5:sub.len=0;simp only[evs,seval,q1,aJ,c2,q2,c3,q3,l1,(oM:((at'.length:Nat):Int)=0),q5,l2,(oM:((sub.len:Nat):Int)=0)];exact⟨by simp[c4,c5],F1⟩;simp only[evs,seval,q1,aJ,c2,q2,c3,q3,l1,(oM:((at'.length:Nat):Int)=0),q5,l2,(oM:¬((sub.len:Nat):Int)=0)];exact⟨by simp[c5],F1⟩;simp only[evs,seval,q1,aJ,c2,q2,c3,q3,l1,(oM:¬((at'.length:Nat):Int)=0)];exact⟨by simp[c4],F1⟩;unfold gA;rw[if_neg c0];by_cases c1:k=1;let⟨_,q1,q2,q3,q4,q5,_⟩:=hA h (Fr.refl w);have l1:=ra.len;have l2:=rc.len;refine ab ?_;simp only[evs,seval,q0,(oM:(k:Int)=1),q1];refine aa qf ?_;rintro _ _ ⟨rfl,rfl⟩;cases c2:okN tg;simp only[evs,seval];exact⟨iS,Fr.refl w⟩;cases ck:ky==[];simp only[evs,seval,q2,aV,ck];refine aa qf ?_;rintro _ _ ⟨rfl,rfl⟩;cases cn:okN ky;simp only[evs,seval];exact⟨iS,Fr.refl w⟩;cases ct:tx==[];simp only[evs,seval,aV,q4,ct];exact⟨iS,Fr.refl w⟩;by_cases ca:at'.length≤8;by_cases cs:sub.len≤16;simp only[evs,seval,aV,q4,ct,q3,l1,(oM:¬(8:Int)<(at'.length:Nat)),q5,l2,(oM:¬(16:Int)<(sub.len:Nat))];refine EK w hA ra na rc nc ones iS fun h' f=>⟨by simp[c1,ca,cs],f⟩;simp only[evs,seval,aV,q4,ct,q3,l1,(oM:¬(8:Int)<(at'.length:Nat)),q5,l2,(oM:(16:Int)<(sub.len:Nat))];exact⟨by simp[cs],Fr.refl w⟩;simp only[evs,seval,aV,q4,ct,q3,l1,(oM:(8:Int)<(at'.length:Nat))];exact⟨by simp[ca],Fr.refl w⟩;cases ct:tx==[];simp only[evs,seval,q2,aV,ck,q4,ct];exact⟨iS,Fr.refl w⟩;by_cases ca:at'.length≤8;by_cases cs:sub.len≤16;simp only[evs,seval,q2,aV,ck,q4,ct,q3,l1,(oM:¬(8:Int)<(at'.length:Nat)),q5,l2,(oM:¬(16:Int)<(sub.len:Nat))];refine EK w hA ra na rc nc ones iS fun h' f=>⟨by simp[c1,ca,cs],f⟩;simp only[evs,seval,q2,aV,ck,q4,ct,q3,l1,(oM:¬(8:Int)<(at'.length:Nat)),q5,l2,(oM:(16:Int)<(sub.len:Nat))];exact⟨by simp[cs],Fr.refl w⟩;simp only[evs,seval,q2,aV,ck,q4,ct,q3,l1,(oM:(8:Int)<(at'.length:Nat))];exact⟨by simp[ca],Fr.refl w⟩;refine ab ?_;simp only[evs,seval,q0,(oM:¬(k:Int)=2),(oM:¬(k:Int)=1)];exact⟨by simp[c1],Fr.refl w⟩
theorem NH.ones{h:Heap}:∀{t:NT},NH h t→av t.cells=true
 |.nil,_=>rfl
 |.cons k tg ky _ tx va vc _ nx,⟨_,b,_,d,_,_,g⟩=>by show av ([.int .u8 (k:Int),.str tg,.str ky,va,.str tx,vc]++nx.cells)=true;rw[aN,NH.ones g];simp only[aB,aF,Sl.one b,Sl.one d];rfl
namespace NT
def node(k:Nat)(tg ky:Str)(at':List (Str×Str))(tx:Str)(sub:NT)(w:Nat→Nat→Nat×Bool)(l c:Nat):Nat×Bool:=
 if 6<l∨64<c+1∨gA k tg ky at' tx sub=false then(c+1,false)else w (l+1) (c+1)
def walk:NT→Nat→Nat→Nat×Bool
 |nil,_,c=>(c,true)
 |cons k tg ky at' tx _ _ sub nx,l,c=>let r:=node k tg ky at' tx sub sub.walk l c;if r.2=true then nx.walk l r.1 else r
theorem iH:∀(t:NT)(l c:Nat),c≤64→(t.walk l c).1≤65∧((t.walk l c).2=true→(t.walk l c).1≤64)
 |nil,_,c,h=>⟨by simp[walk];omega,fun _=>h⟩
 |cons k tg ky at' tx _ _ sub nx,l,c,h=>by
  have q:(node k tg ky at' tx sub sub.walk l c).1≤65∧((node k tg ky at' tx sub sub.walk l c).2=true→(node k tg ky at' tx sub sub.walk l c).1≤64):=by unfold node;split;grind;rename_i x;exact iH sub (l+1) (c+1) oM
  simp only[walk];split;rename_i x;exact iH nx l _ (q.2 x);exact q
theorem node_le(k:Nat)(tg ky:Str)(at':List (Str×Str))(tx:Str)(sub:NT)(l c:Nat)(h:c≤64):(node k tg ky at' tx sub sub.walk l c).1≤65∧((node k tg ky at' tx sub sub.walk l c).2=true→(node k tg ky at' tx sub sub.walk l c).1≤64):=by unfold node;split;grind;exact iH sub (l+1) (c+1) oM
end NT
structure Ms(h0 h:Heap)(bc bd bw:Nat)(c d:Nat):Prop where
 f:Fr [] h0 h
 oc:Own h bc [.int .i64 (c:Int)]
 od:Own h bd [.int .i64 (d:Int)]
 ow:Own h bw [.func (.func 264) [] [.ptr bc 0,.ptr bd 0,.ptr bw 0]]
 dl:d≤7
structure MsB(h0:Heap)(bc bd bw:Nat):Prop where
 w:WF h0
 c:h0.next≤bc
 d:h0.next≤bd
 b:h0.next≤bw
 cd:bc≠bd
 cw:bc≠bw
 dw:bd≠bw
theorem Ms.fr{h0 h h':Heap}{bc bd bw c d:Nat}(m:Ms h0 h bc bd bw c d)(f:Fr [] h h'):Ms h0 h' bc bd bw c d:=⟨m.f.then f,f.get m.oc,f.get m.od,f.get m.ow,m.dl⟩
def FZ(h0:Heap)(k:Nat)(tg ky:Str)(at':List (Str×Str))(tx:Str)(va vc:V)(sub:NT):Prop:=
 ∀(h:Heap)(b o bc bd bw l c d:Nat),MsB h0 bc bd bw→Ms h0 h bc bd bw c d→(∀h',Fr [] h0 h'→At6 h' b o (.int .u8 (k:Int)) (.str tg) (.str ky) va (.str tx) vc)→l≤7→c≤64→
  aj go 264 [.ptr b o,.int .i64 (l:Int),.ptr bc 0,.ptr bd 0,.ptr bw 0] h fun u h'=>u=.bool (NT.node k tg ky at' tx sub sub.walk l c).2∧∃d',Ms h0 h' bc bd bw (NT.node k tg ky at' tx sub sub.walk l c).1 d'
def AllE(h0:Heap):NT→Prop
 |.nil=>True
 |.cons k tg ky at' tx va vc sub nx=>FZ h0 k tg ky at' tx va vc sub∧AllE h0 nx
theorem AllE.at'{h:Heap}:∀{t:NT}(i:Nat),AllE h t→AllE h (t.at' i)
 |.nil,0,_=>trivial
 |.nil,_+1,_=>trivial
 |.cons _ _ _ _ _ _ _ _ _,0,a=>a
 |.cons _ _ _ _ _ _ _ _ _,i+1,⟨_,g⟩=>AllE.at' i g
theorem HH{h0:Heap}{k:Nat}{tg ky:Str}{at':List (Str×Str)}{tx:Str}{va vc:V}{sub:NT}
 (ra:Recs fg 2 h0 va at') (na:at'.length≤4096) (rc:Sl h0 6 vc sub.len sub.cells) (nc:sub.len≤4096) (ns:NH h0 sub) (A:AllE h0 sub):FZ h0 k tg ky at' tx va vc sub:=by
 intro h b o bc bd bw l c d B M hA hl hc;have lc:ag h bc 0=some (.int .i64 (c:Int)):=M.oc.ld1 0;refine ab ?_;simp(disch:=omega) only[evs,seval,ah,lc];refine stu M.f.wf M.oc ?_;rintro h1 o1 F1 n1;have od1:Own h1 bd [.int .i64 (d:Int)]:=F1.own _ _ (eV B.cd.symm) M.od;have ld:ag h1 bd 0=some (.int .i64 (d:Int)):=od1.ld1 0;simp only[evs,seval,ld];have dl:=M.dl;refine ai (c':=[.int .i64 ((max d l:Nat):Int)]) F1.wf od1 rfl rfl (by rw[(oM:((max d l:Nat):Int)=max (d:Int) (l:Int))];rfl) ?_;rintro h2 o2 F2 n2;have M2:Ms h0 h2 bc bd bw (c+1) (max d l):=by refine⟨?_,F2.own _ _ (eV B.cd) o1,o2,F2.own _ _ (eV B.dw.symm) (F1.own _ _ (eV B.cw.symm) M.ow),oM⟩;exact Fr.trans (Fr.trans M.f F1 B.w (fun x hx=>.inl hx) (fun x hx=>.inr (by simp at hx;subst hx;exact B.c))) F2 B.w (fun x hx=>.inl hx) (fun x hx=>.inr (by simp at hx;subst hx;exact B.d))
 have lc2:ag h2 bc 0=some (.int .i64 ((c+1:Nat):Int)):=M2.oc.ld1 0;by_cases c1:6<l;have e:NT.node k tg ky at' tx sub sub.walk l c=(c+1,false):=if_pos (.inl c1);simp only[evs,seval,(oM:(6:Int)<(l:Int))];rw[e];exact⟨rfl,_,M2⟩;by_cases c2:64<c+1;have e:NT.node k tg ky at' tx sub sub.walk l c=(c+1,false):=if_pos (.inr (.inl c2));simp only[evs,seval,(oM:¬(6:Int)<(l:Int)),lc2,(oM:(64:Int)<((c+1:Nat):Int))];rw[e];exact⟨rfl,_,M2⟩;simp only[evs,seval,(oM:¬(6:Int)<(l:Int)),lc2,(oM:¬(64:Int)<((c+1:Nat):Int))];apply aa (EI M2.f.wf (fun h' f=>hA h' (M2.f.then f)) (ra.fr M2.f) na (rc.fr M2.f) nc ns.ones);rintro _ h3 ⟨rfl,F3⟩;have M3:=M2.fr F3;cases c3:gA k tg ky at' tx sub;have e:NT.node k tg ky at' tx sub sub.walk l c=(c+1,false):=if_pos (.inr (.inr c3));simp only[evs,seval];rw[e];exact⟨rfl,_,M3⟩;have e:NT.node k tg ky at' tx sub sub.walk l c=sub.walk (l+1) (c+1):=if_neg (by simp[c3];omega);rw[e];have q5:=(hA h3 M3.f).2.2.2.2.2.1;simp only[evs,seval,q5,(rc.fr M3.f).len];refine aA (fun n env hh=>∃(i c' d':Nat),Ms h0 hh bc bd bw c' d'∧env.get 30=some (.int .i64 i)∧env.get 29=some (.int .i64 sub.len)∧env.get 0=some (.ptr b o)∧env.get 1=some (.int .i64 l)∧env.get 4=some (.ptr bw 0)∧
  i≤sub.len∧c'≤64∧(sub.at' i).walk (l+1) c'=sub.walk (l+1) (c+1)∧n=sub.len-i) sub.len oM ?_ ?_
 exact⟨0,c+1,max d l,M3,iS,iS,iS,iS,iS,oM,oM,by cases sub<;>rfl,rfl⟩;rintro n env hh ⟨i,c',d',M',g30,g29,g0,g1,g4,hi,hc',e',rfl⟩;by_cases hlt:i<sub.len;let⟨kd,tg',ky',at2,tx',va',vc',sb,nx,e1,e2,e3,e4,e5,e6⟩:=sub.split i hlt;have hlt':(i:Int)<sub.len:=oM;have a:=A.at' i;rw[e1]at a e';let⟨b',o',p1,_⟩:=(rc.fr M'.f).ix6 hlt e2;have hA':∀h',Fr [] h0 h'→At6 h' b' o' (.int .u8 (kd:Int)) (.str tg') (.str ky') va' (.str tx') vc':=fun h' f=>by let⟨b2,o2,p1',p2'⟩:=(rc.fr f).ix6 hlt e2;rw[p1]at p1';cases p1';exact p2'
 have q5:=(hA hh M'.f).2.2.2.2.2.1;have lw:ag hh bw 0=some (.func (.func 264) [] [.ptr bc 0,.ptr bd 0,.ptr bw 0]):=M'.ow.ld1 0;simp(disch:=omega) only[evs,seval,eff,ah,g30,g29,g0,g1,g4,hlt',lw,q5,p1];apply aa (a.1 hh b' o' bc bd bw (l+1) c' d' B M' hA' oM hc');rintro _ h4 ⟨rfl,d4,M4⟩;simp only[NT.walk]at e';have nl:=NT.node_le kd tg' ky' at2 tx' sb (l+1) c' hc';cases c4:(NT.node kd tg' ky' at2 tx' sb sb.walk (l+1) c').2;rw[c4]at e';simp only[evs,seval,DF,eff,g4,lw,q5];rw[←e'];exact⟨by simp[c4],d4,by simpa using M4⟩;rw[c4]at e';simp(disch:=omega) only[evs,seval,DF,eff,ah,g30,g4,lw,q5];refine rqn ⟨sub.len-(i+1),oM,i+1,_,d4,M4,iS,iX,iX,iX,iX,oM,nl.2 c4,?_,rfl⟩;rw[e3];simpa using e';simp only[evs,seval,g30,g29,(oM:¬(i:Int)<sub.len)];rw[NT.at_end _ _ oM]at e';rw[←e'];exact⟨rfl,d',M'⟩
theorem JK{h:Heap}:∀{t:NT},NH h t→AllE h t
 |.nil,_=>trivial
 |.cons _ _ _ _ _ _ _ _ _,⟨_,b,c,d,e,f,g⟩=>⟨HH b c d e f (JK f),JK g⟩
def NT.count(k:Nat)(tg ky:Str)(at':List (Str×Str))(tx:Str)(sub:NT):Nat:=
 if(node k tg ky at' tx sub sub.walk 1 0).2=true then(node k tg ky at' tx sub sub.walk 1 0).1 else 0
theorem yy{h:Heap}{k:Nat}{tg ky:Str}{at':List (Str×Str)}{tx:Str}{va vc:V}{sub:NT}(w:WF h)(n:NH h (.cons k tg ky at' tx va vc sub .nil)):
 aj go 220 [.agg [.int .u8 (k:Int),.str tg,.str ky,va,.str tx,vc]] h fun u h'=>∃d:Nat,u=.tup [.int .i64 (NT.count k tg ky at' tx sub:Nat),.int .i64 (d:Int)]∧Fr [] h h':=by
 let⟨h1,e_h1,F_h1,o_h1⟩:=ao w [.int .u8 (k:Int),.str tg,.str ky,va,.str tx,vc];let⟨h2,e_h2,F_h2,o_h2⟩:=ao F_h1.wf [.int .i64 0];let⟨h3,e_h3,F_h3,o_h3⟩:=ao F_h2.wf [.int .i64 0];let⟨h4,e_h4,F_h4,o_h4⟩:=ao F_h3.wf [.nilf];have n1:=hnx e_h1;have n2:=hnx e_h2;have n3:=hnx e_h3;refine ab ?_;simp only[evs,seval,←e_h1,←e_h2,←e_h3,←e_h4];refine stu F_h4.wf o_h4 ?_;rintro h5 o5 F5 n5;have F15:Fr [] h1 h5:=Fr.new F_h1.wf (F_h2.then (F_h3.then F_h4)) F5 oO;have ob:=F15.get o_h1;have B:MsB h1 h1.next h2.next h3.next:=⟨F_h1.wf,Nat.le_refl _,oM,oM,oM,oM,oM⟩;have M:Ms h1 h5 h1.next h2.next h3.next 0 0:=⟨F15,F5.own _ _ oO (F_h4.get (F_h3.get o_h2)),F5.own _ _ oO (F_h4.get o_h3),o5,oM⟩;have lw:ag h5 h3.next 0=some (.func (.func 264) [] [.ptr h1.next 0,.ptr h2.next 0,.ptr h3.next 0]):=o5.ld1 0;have A:=(JK (n.fr F_h1)).1;simp only[evs,seval,lw];apply aa (A h5 h.next 0 h1.next h2.next h3.next 1 0 0 B M (fun h' f=>(f.get o_h1).at6) oM oM);rintro _ h6 ⟨rfl,d,M6⟩;unfold NT.count;cases c:(NT.node k tg ky at' tx sub sub.walk 1 0).2;simp only[evs,seval];apply stu M6.f.wf M6.oc;rintro h7 o7 F7 n7;have od7:=F7.own _ _ oO M6.od;simp only[evs,seval];apply stu F7.wf od7;rintro h8 o8 F8 n8;have a7:ag h8 h1.next 0=some (.int .i64 0):=(F8.own _ _ oO o7).ld1 0;have a8:ag h8 h2.next 0=some (.int .i64 0):=o8.ld1 0;simp only[evs,seval,a7,a8];refine⟨0,iS,?_⟩;exact Fr.new w F_h1 (Fr.trans (T:=[h1.next,h2.next]) (Fr.trans (T:=[h1.next,h2.next]) M6.f F7 F_h1.wf iS iS) F8 F_h1.wf iS iS) oO;have lc:ag h6 h1.next 0=some (.int .i64 ((NT.node k tg ky at' tx sub sub.walk 1 0).1:Int)):=M6.oc.ld1 0;have ld:ag h6 h2.next 0=some (.int .i64 (d:Int)):=M6.od.ld1 0;simp only[evs,seval,eff,lc,ld];apply stu M6.f.wf M6.oc;rintro h7 o7 F7 n7;have od7:=F7.own _ _ oO M6.od;have ld7:ag h7 h2.next 0=some (.int .i64 (d:Int)):=od7.ld1 0;simp only[evs,seval,eff];apply stu F7.wf od7;rintro h8 o8 F8 n8;have a7:ag h8 h1.next 0=some (.int .i64 ((NT.node k tg ky at' tx sub sub.walk 1 0).1:Int)):=(F8.own _ _ oO o7).ld1 0;have a8:ag h8 h2.next 0=some (.int .i64 (d:Int)):=o8.ld1 0;simp only[evs,seval,DF,lc,ld,ld7,a7,a8];refine⟨d,iS,?_⟩;exact Fr.new w F_h1 (Fr.trans (T:=[h1.next,h2.next]) (Fr.trans (T:=[h1.next,h2.next]) M6.f F7 F_h1.wf iS iS) F8 F_h1.wf iS iS) oO
theorem nu{h:Heap}{k:Nat}{tg ky:Str}{at':List (Str×Str)}{tx:Str}{va vc:V}{sub:NT}(w:WF h)(n:NH h (.cons k tg ky at' tx va vc sub .nil)):
 aj go 162 [.agg [.int .u8 (k:Int),.str tg,.str ky,va,.str tx,vc]] h fun u h'=>u=.int .i64 (NT.count k tg ky at' tx sub:Nat)∧Fr [] h h':=by
 let⟨h1,e_h1,F_h1,o_h1⟩:=ao w [.int .u8 (k:Int),.str tg,.str ky,va,.str tx,vc];refine ab ?_;simp only[evs,seval,←e_h1,o_h1.at6.2.2.2.2.2.2];refine aa (yy F_h1.wf (n.fr F_h1)) ?_;rintro _ h2 ⟨d,rfl,F2⟩;simp only[evs,seval];exact F_h1.then F2
theorem sG{h:Heap}{k:Nat}{tg ky:Str}{at':List (Str×Str)}{tx:Str}{va vc:V}{sub:NT}(w:WF h)(n:NH h (.cons k tg ky at' tx va vc sub .nil)):
 aj go 261 [.agg [.int .u8 (k:Int),.str tg,.str ky,va,.str tx,vc]] h fun u h'=>u=.int .i64 (if NT.count k tg ky at' tx sub=0 then 14 else 0)∧Fr [] h h':=by
 let⟨h1,e_h1,F_h1,o_h1⟩:=ao w [.int .u8 (k:Int),.str tg,.str ky,va,.str tx,vc];by_cases c:NT.count k tg ky at' tx sub=0;refine ab ?_;simp only[evs,seval,←e_h1,o_h1.at6.2.2.2.2.2.2];refine aa (nu F_h1.wf (n.fr F_h1)) ?_;rintro _ h2 ⟨rfl,F2⟩;simp only[evs,seval,(oM:((NT.count k tg ky at' tx sub:Nat):Int)=0)];exact⟨by rw[if_pos c],F_h1.then F2⟩;refine ab ?_;simp only[evs,seval,←e_h1,o_h1.at6.2.2.2.2.2.2];refine aa (nu F_h1.wf (n.fr F_h1)) ?_;rintro _ h2 ⟨rfl,F2⟩;simp only[evs,seval,(oM:¬((NT.count k tg ky at' tx sub:Nat):Int)=0)];exact⟨by rw[if_neg c],F_h1.then F2⟩
theorem yS(z:Str):NT.count 1 z [] [] [] .nil=if okN z then 1 else 0:=by
 have a:gA 1 z [] [] [] .nil=okN z:=by simp[gA,db,fA,NT.keys,NT.len]
 have e:NT.node 1 z [] [] [] .nil NT.nil.walk 1 0=(1,okN z):=by unfold NT.node;rw[a];cases okN z<;>rfl
 unfold NT.count;rw[e]
theorem yR(z:Str):NT.count 2 [] [] [] z .nil=if okT z then 1 else 0:=by
 have a:gA 2 [] [] [] z .nil=okT z:=by simp[gA,NT.len]
 have e:NT.node 2 [] [] [] z .nil NT.nil.walk 1 0=(1,okT z):=by unfold NT.node;rw[a];cases okT z<;>rfl
 unfold NT.count;rw[e]
theorem j7{h:Heap}(k:Nat)(hk:k<256)(tg tx:Str):NH h (.cons k tg [] [] tx .nils .nils .nil .nil):=⟨hk,Recs.nil,iS,⟨rfl,rfl⟩,by simp[NT.len],trivial,trivial⟩
theorem fJ{h:Heap}{z:Str}(w:WF h):aj go 216 [.str z] h fun u h'=>u=.bool (okN z)∧Fr [] h h':=by refine ab ?_;simp only[evs,↓reduceIte,Nat.reduceEqDiff];refine aa (sG (at':=[]) (sub:=.nil) w (j7 1 oM z [])) ?_;rintro _ h1 ⟨rfl,F⟩;rw[yS];cases okN z;simp only[evs,↓reduceIte];exact⟨rfl,F⟩;simp only[evs,↓reduceIte];exact F
theorem ng{h:Heap}{z:Str}(w:WF h):aj go 214 [.str z] h fun u h'=>u=.bool (okT z)∧Fr [] h h':=by refine ab ?_;simp only[evs,↓reduceIte,Nat.reduceEqDiff];refine aa (sG (at':=[]) (sub:=.nil) w (j7 2 oM [] z)) ?_;rintro _ h1 ⟨rfl,F⟩;rw[yR];cases okT z;simp only[evs,↓reduceIte];exact⟨rfl,F⟩;simp only[evs,↓reduceIte];exact F
abbrev Slo:=Str×Nat×Str
def pO(s:Slo):List V:=[.str s.1,.int .u8 (s.2.1:Int),.str s.2.2]
theorem eW(s:Slo):(pO s).length=3:=rfl
def gF(p:Option Str)(s:Slo):Bool:=okN s.1&&(decide (s.2.1≤3)&&(okT s.2.2&&((decide (s.2.1=0)||s.2.2==[])&&bT p s.1)))
def dP:Option Str→List Slo→Bool
 |_,[]=>true
 |p,s::r=>gF p s&&dP (some s.1) r
theorem jz(p:Option Str)(s:Slo)(r:List Slo):dP p (s::r)=(gF p s&&dP (some s.1) r):=rfl
def cU(at':List Slo)(i:Nat):Option Str:=if i=0 then none else(at'[i-1]?).map (·.1)
theorem pX{at':List Slo}{i:Nat}{a:Slo}(h:at'[i]? =some a):cU at' (i+1)=some a.1:=by simp[cU,h]
def bP(l:List Slo):Bool:=decide (l.length≤8)&&dP none l
theorem pN{h:Heap}{v:V}{l:List Slo}(w:WF h)(ra:Recs pO 3 h v l)(na:l.length≤4096):aj go 290 [v] h fun u h'=>u=.bool (bP l)∧Fr [] h h':=by
 by_cases c8:l.length≤8
 ·refine ab ?_;simp only[evs,seval,ra.len,(oM:¬(8:Int)<(l.length:Nat))];refine aA (fun n env hh=>Fr [] h hh∧∃(i:Nat),env.get 10=some (.int .i64 i)∧env.get 9=some (.int .i64 l.length)∧env.get 8=some v∧env.get 0=some v∧
   i≤l.length∧dP (cU l i) (l.drop i)=dP none l∧n=l.length-i) l.length oM ?_ ?_
  ·exact⟨Fr.refl w,0,iS,iS,iS,iS,oM,rfl,rfl⟩
  ·rintro n env hh ⟨F,i,g103,g102,g101,g0,hi,e,rfl⟩;by_cases hlt:i<l.length
   ·have hlt':(i:Int)<l.length:=oM
    let⟨b',o',a,p1,p2,p3,p4⟩:=(ra.fr F).ix eW .i64 (i:Int) oM hlt';rw[Int.toNat_natCast]at p4;rw[aG p4,jz]at e;have en:=pX p4;have bad:∀{h'},Fr [] h h'→gF (cU l i) a=false→V.bool false=.bool (bP l)∧Fr [] h h':=fun f c=>by
     rw[c]at e;exact⟨by simp[bP,←e],f⟩
    let⟨h1,e_h1,F_h1,o_h1⟩:=ao F.wf [.str [],.int .u8 0,.str []];simp only[evs,seval,g103,g102,g101,hlt',p1,p3,←e_h1];refine stu F_h1.wf o_h1 ?_;rintro h2 o2 F2 n2;have F02:Fr [] hh h2:=F_h1.fresh F2 F.wf (Nat.le_refl _);have q0:ag h2 hh.next 0=some (.str a.1):=o2.ld1 0;simp only[evs,seval,eff,q0];refine aa (fJ F02.wf) ?_;rintro _ h3 ⟨rfl,F3⟩;have F03:=(F.then F02).then F3;have r1:ag h3 hh.next 1=some (.int .u8 (a.2.1:Int)):=(F3.get o2).ld1 1;have r2:ag h3 hh.next 2=some (.str a.2.2):=(F3.get o2).ld1 2;cases c1:okN a.1
    ·simp only[evs,seval,DF,eff,q0];exact bad F03 (by simp[gF,c1])
    by_cases c2:3<a.2.1
    ·simp only[evs,seval,DF,eff,q0,r1,(oM:(3:Int)<(a.2.1:Nat))];exact bad F03 (by simp[gF];omega)
    have c2':¬(3:Int)<(a.2.1:Nat):=oM
    simp only[evs,seval,eff,r1,c2',r2];refine aa (ng F3.wf) ?_;rintro _ h4 ⟨rfl,F4⟩;have F04:=F03.then F4;have o4:=F4.get (F3.get o2);have s0:ag h4 hh.next 0=some (.str a.1):=o4.ld1 0;have s1:ag h4 hh.next 1=some (.int .u8 (a.2.1:Int)):=o4.ld1 1;have s2:ag h4 hh.next 2=some (.str a.2.2):=o4.ld1 2;cases c3:okT a.2.2
    ·simp only[evs,seval,DF,eff,q0,r1,r2];exact bad F04 (by simp[gF,c3])
    have fin:(decide (a.2.1=0)||a.2.2==[])=true→bT (cU l i) a.1=true→dP (cU l (i+1)) (l.drop (i+1))=dP none l:=fun x y=>by
     have z:gF (cU l i) a=true:=by
      unfold gF;rw[c1,c3,x,y,(oO:decide (a.2.1≤3)=true)];rfl
     rw[z,Bool.true_and]at e;rw[en];exact e
    by_cases cf:a.2.1=0
    ·by_cases c4:i=0
     ·simp(disch:=omega) only[evs,seval,DF,eff,ah,g103,q0,r1,r2,s1,(oM:¬(0:Int)<(a.2.1:Nat)),(oM:¬(0:Int)<(i:Int))];refine rqn ⟨l.length-(i+1),oM,F04,i+1,iS,iX,iX,iX,oM,fin iX (by simp[cU,c4,bT]),rfl⟩
      done
     ·let⟨b2,o2',a2,t1,t2,t3,t4⟩:=(ra.fr F04).ix eW .i64 ((i:Int)-1) oM oM;have t4':l[i-1]? =some a2:=by rw[←t4];congr 1;omega
      have t2':ag h4 b2 o2'=some (.str a2.1):=t2 0 oM;have pe:cU l i=some a2.1:=by simp[cU,c4,t4']
      cases c5:leS a.1 a2.1
      ·simp(disch:=omega) only[evs,seval,DF,eff,ah,g103,g0,q0,r1,r2,s0,s1,(oM:¬(0:Int)<(a.2.1:Nat)),c5,t1,t2',ko,(oM:(0:Int)<(i:Int))];refine rqn ⟨l.length-(i+1),oM,F04,i+1,iS,iX,iX,iX,oM,fin iX (by rw[pe];simp[bT,c5]),rfl⟩
       done
      ·simp(disch:=omega) only[evs,seval,DF,eff,ah,g0,q0,r1,r2,s0,s1,(oM:¬(0:Int)<(a.2.1:Nat)),c5,t1,t2',ko,(oM:(0:Int)<(i:Int))];exact bad F04 (by simp[gF,pe,bT,c5])
    ·cases cv:a.2.2==[]
     ·simp only[evs,seval,DF,eff,q0,r1,r2,s1,s2,(oM:(0:Int)<(a.2.1:Nat)),aV,cv];exact bad F04 (by simp[gF,cf,cv])
     ·by_cases c4:i=0
      ·simp(disch:=omega) only[evs,seval,DF,eff,ah,g103,q0,r1,r2,s1,s2,(oM:(0:Int)<(a.2.1:Nat)),aV,cv,(oM:¬(0:Int)<(i:Int))];refine rqn ⟨l.length-(i+1),oM,F04,i+1,iS,iX,iX,iX,oM,fin iX (by simp[cU,c4,bT]),rfl⟩
       done
      ·let⟨b2,o2',a2,t1,t2,t3,t4⟩:=(ra.fr F04).ix eW .i64 ((i:Int)-1) oM oM;have t4':l[i-1]? =some a2:=by rw[←t4];congr 1;omega
       have t2':ag h4 b2 o2'=some (.str a2.1):=t2 0 oM;have pe:cU l i=some a2.1:=by simp[cU,c4,t4']
       cases c5:leS a.1 a2.1
       ·simp(disch:=omega) only[evs,seval,DF,eff,ah,g103,g0,q0,r1,r2,s0,s1,s2,(oM:(0:Int)<(a.2.1:Nat)),aV,cv,c5,t1,t2',ko,(oM:(0:Int)<(i:Int))];refine rqn ⟨l.length-(i+1),oM,F04,i+1,iS,iX,iX,iX,oM,fin iX (by rw[pe];simp[bT,c5]),rfl⟩
        done
       ·simp(disch:=omega) only[evs,seval,DF,eff,ah,g0,q0,r1,r2,s0,s1,s2,(oM:(0:Int)<(a.2.1:Nat)),aV,cv,c5,t1,t2',ko,(oM:(0:Int)<(i:Int))];exact bad F04 (by simp[gF,pe,bT,c5])
   ·simp only[evs,seval,g103,g102,(oM:¬(i:Int)<l.length)];rw[List.drop_of_length_le oM]at e;exact⟨by simp[bP,c8,←e,dP],F⟩
 ·refine ab ?_;simp only[evs,seval,ra.len,(oM:(8:Int)<(l.length:Nat))];exact⟨by simp[bP,c8],Fr.refl w⟩
set_option maxRecDepth 4000
inductive PT where
 |nil
 |cons (kind:Nat) (tag key:Str) (slots:List Slo) (text:Str) (va vc:V) (sub next:PT)
namespace PT
def len:PT→Nat
 |nil=>0
 |cons _ _ _ _ _ _ _ _ nx=>nx.len+1
def cells:PT→List V
 |nil=>[]
 |cons k tg ky _ tx va vc _ nx=>[.int .u8 (k:Int),.str tg,.str ky,va,.str tx,vc]++nx.cells
def keys:PT→List Str
 |nil=>[]
 |cons _ _ ky _ _ _ _ _ nx=>ky::nx.keys
theorem cells_len:∀t:PT,t.cells.length=t.len*6
 |nil=>rfl
 |cons _ _ _ _ _ _ _ _ nx=>by simp[cells,len,cells_len nx];omega
theorem keys_len:∀t:PT,t.keys.length=t.len
 |nil=>rfl
 |cons _ _ _ _ _ _ _ _ nx=>by simp[keys,len,keys_len nx]
def at':PT→Nat→PT
 |t,0=>t
 |nil,_+1=>nil
 |cons _ _ _ _ _ _ _ _ nx,i+1=>nx.at' i
end PT
def PH(h:Heap):PT→Prop
 |.nil=>True
 |.cons k _ _ at' _ va vc sub nx=>k<256∧Recs pO 3 h va at'∧at'.length≤4096∧Sl h 6 vc sub.len sub.cells∧sub.len≤4096∧PH h sub∧PH h nx
theorem PH.fr{h h':Heap}(f:Fr [] h h'):∀{t:PT},PH h t→PH h' t
 |.nil,_=>trivial
 |.cons _ _ _ _ _ _ _ _ _,⟨a,b,c,d,e,g,i⟩=>⟨a,b.fr f,c,d.fr f,e,PH.fr f g,PH.fr f i⟩
namespace PT
theorem split:∀(t:PT)(i:Nat),i<t.len→∃k tg ky at' tx va vc sub nx,t.at' i=.cons k tg ky at' tx va vc sub nx∧t.cells.drop (i*6)=[.int .u8 ((k:Nat):Int),.str tg,.str ky,va,.str tx,vc]++nx.cells∧t.at' (i+1)=nx∧t.keys.drop i=ky::nx.keys∧t.keys[i]? =some ky∧nx.len+(i+1)=t.len
 |.nil,_,h=>by cases h
 |.cons k tg ky at' tx va vc sub nx,0,_=>⟨k,tg,ky,at',tx,va,vc,sub,nx,rfl,rfl,by cases nx<;>rfl,rfl,rfl,rfl⟩
 |.cons _ _ _ _ _ _ _ _ nx,i+1,h=>by let⟨k,tg,ky,at',tx,va,vc,sub,n,e1,e2,e3,e4,e5,e6⟩:=split nx i (by simp[len]at h;omega);refine⟨k,tg,ky,at',tx,va,vc,sub,n,e1,?_,e3,e4,?_,by simp only[len];omega⟩;rw[(oM:(i+1) *6=6+i*6),←List.drop_drop];exact e2;simpa[keys]using e5
theorem at_end:∀(t:PT)(i:Nat),t.len≤i→t.at' i=.nil
 |.nil,0,_=>rfl
 |.nil,_+1,_=>rfl
 |.cons _ _ _ _ _ _ _ _ nx,0,h=>by simp[len]at h
 |.cons _ _ _ _ _ _ _ _ nx,i+1,h=>at_end nx i (by simp[len]at h;omega)
end PT
theorem PH.at'{h:Heap}:∀{t:PT}(i:Nat),PH h t→PH h (t.at' i)
 |.nil,0,_=>trivial
 |.nil,_+1,_=>trivial
 |.cons _ _ _ _ _ _ _ _ _,0,a=>a
 |.cons _ _ _ _ _ _ _ _ _,i+1,⟨_,_,_,_,_,_,g⟩=>PH.at' i g
def dk(k:Nat)(tg ky:Str)(sl:List Slo)(tx:Str)(n:Nat):Bool:=
 if k=1 then(ky==[]||okN ky)&&(decide (n≤16)&&(okN tg&&(bP sl&&tx==[])))
 else if k=5 then okN tg&&(bP sl&&(ky==[]&&(tx==[]&&decide (n=0))))
 else if k=2 then okT tx&&(tg==[]&&(ky==[]&&(decide (sl.length=0)&&decide (n=0))))
 else if k=3∨k=4 then tg==[]&&(ky==[]&&(tx==[]&&(decide (sl.length=0)&&decide (n=0))))
 else false
theorem PH.ones{h:Heap}:∀{t:PT},PH h t→av t.cells=true
 |.nil,_=>rfl
 |.cons k tg ky _ tx va vc _ nx,⟨_,b,_,d,_,_,g⟩=>by show av ([.int .u8 (k:Int),.str tg,.str ky,va,.str tx,vc]++nx.cells)=true;rw[aN,PH.ones g];simp only[aB,aF,Sl.one b,Sl.one d];rfl
namespace PT
def node(k:Nat)(tg ky:Str)(at':List Slo)(tx:Str)(sub:PT)(w:Nat→Nat→Nat×Bool)(l c:Nat):Nat×Bool:=
 if 6<l∨64<c+1∨dk k tg ky at' tx sub.len=false then(c+1,false)else w (l+1) (c+1)
def walk:PT→Nat→Nat→Nat×Bool
 |nil,_,c=>(c,true)
 |cons k tg ky at' tx _ _ sub nx,l,c=>let r:=node k tg ky at' tx sub sub.walk l c;if r.2=true then nx.walk l r.1 else r
theorem iH:∀(t:PT)(l c:Nat),c≤64→(t.walk l c).1≤65∧((t.walk l c).2=true→(t.walk l c).1≤64)
 |nil,_,c,h=>⟨by simp[walk];omega,fun _=>h⟩
 |cons k tg ky at' tx _ _ sub nx,l,c,h=>by
  have q:(node k tg ky at' tx sub sub.walk l c).1≤65∧((node k tg ky at' tx sub sub.walk l c).2=true→(node k tg ky at' tx sub sub.walk l c).1≤64):=by unfold node;split;grind;rename_i x;exact iH sub (l+1) (c+1) oM
  simp only[walk];split;rename_i x;exact iH nx l _ (q.2 x);exact q
theorem node_le(k:Nat)(tg ky:Str)(at':List Slo)(tx:Str)(sub:PT)(l c:Nat)(h:c≤64):(node k tg ky at' tx sub sub.walk l c).1≤65∧((node k tg ky at' tx sub sub.walk l c).2=true→(node k tg ky at' tx sub sub.walk l c).1≤64):=by unfold node;split;grind;exact iH sub (l+1) (c+1) oM
end PT
set_option maxRecDepth 4000
theorem Bb{h:Heap}{b o k:Nat}{tg ky tx:Str}{sl:List Slo}{va vc:V}{sub:PT}(w:WF h)(hA:∀h',Fr [] h h'→At6 h' b o (.int .u8 (k:Int)) (.str tg) (.str ky) va (.str tx) vc)
 (ra:Recs pO 3 h va sl) (na:sl.length≤4096) (rc:Sl h 6 vc sub.len sub.cells) (nc:sub.len≤4096):
 aj go 260 [.ptr b o] h fun u h'=>u=.bool (dk k tg ky sl tx sub.len)∧Fr [] h h':=by
 have q:=hA h (Fr.refl w);have va1:=Sl.one ra;have vc1:=rc.one;let⟨h1,e_h1,F_h1,o_h1⟩:=ao w [.int .u8 0,.str [],.str [],.nils,.str [],.nils];refine ab ?_;simp only[evs,seval,←e_h1,q.2.2.2.2.2.2];refine ai (c':=[.int .u8 (k:Int),.str tg,.str ky,va,.str tx,vc]) F_h1.wf o_h1 rfl (by simp only[V.cells,aB,aF,va1,vc1];rfl) rfl ?_;rintro h2 o2 F2 n2;have F02:Fr [] h h2:=F_h1.fresh F2 w (Nat.le_refl _);let⟨q0,q1,q2,q3,q4,q5,_⟩:=hA h2 F02;have l3:aP .lenS [va]=some (.int .i64 (sl.length:Nat)):=ra.len;have l5:aP .lenS [vc]=some (.int .i64 (sub.len:Nat)):=rc.len;have s1:ag h2 h.next 1=some (.str tg):=o2.ld1 1;have s2:ag h2 h.next 2=some (.str ky):=o2.ld1 2;have s3:ag h2 h.next 3=some va:=o2.ld1 3;have s4:ag h2 h.next 4=some (.str tx):=o2.ld1 4;have s5:ag h2 h.next 5=some vc:=o2.ld1 5;unfold dk;by_cases k1:k=1;rw[if_pos k1];cases ck:ky==[];simp only[evs,seval,q0,(oM:(k:Int)=1),q2,aV,ck];apply aa (fJ F2.wf);rintro _ h3 ⟨rfl,F3⟩;have F03:=F02.then F3;cases cn:okN ky;simp only[evs,seval];exact⟨by simp[],F03⟩;have qp:=(hA h3 F03).2.2.2.2.2.1;by_cases cp0:¬sub.len≤16;simp only[evs,seval,qp,l5,(oM:(16:Int)<(sub.len:Nat))];exact⟨by simp[cp0],F03⟩;have cp:sub.len≤16:=oM;simp only[evs,seval,qp,l5,(oM:¬(16:Int)<(sub.len:Nat))];apply stu F3.wf (F3.get o2);rintro he oe Fe ne;simp only[evs,seval];apply stu Fe.wf oe;rintro hf of Ff nf;have Gf:Fr [] h hf:=(F03.fresh Fe w (Nat.le_refl _)).fresh Ff w (Nat.le_refl _);have qa:=(hA hf Gf).2.1;simp only[evs,seval,qa];apply aa (fJ Gf.wf);rintro _ ha ⟨rfl,Fa⟩;have G1:=Gf.then Fa;have qb:=(hA ha G1).2.2.2.1;cases c1:okN tg;simp only[evs,seval];exact⟨by simp[cp],G1⟩;simp only[evs,seval,qb];apply aa (pN Fa.wf (ra.fr G1) na);rintro _ hb ⟨rfl,Fb⟩;have G2:=G1.then Fb;cases c2:bP sl;simp only[evs,seval];exact⟨by simp[cp],G2⟩;simp only[evs,seval];have oa:=Fb.get (Fa.get of);apply stu Fb.wf oa;rintro hc oc Fc nc1;simp only[evs,seval];apply stu Fc.wf oc;rintro hd od Fd nd;have G3:Fr [] h hd:=(G2.fresh Fc w (Nat.le_refl _)).fresh Fd w (Nat.le_refl _);have z1:ag hd h.next 1=some (.str []):=od.ld1 1;have z2:ag hd h.next 2=some (.str []):=od.ld1 2;have z3:ag hd h.next 3=some (.nils):=od.ld1 3;have z4:ag hd h.next 4=some (.str tx):=od.ld1 4;have z5:ag hd h.next 5=some (.nils):=od.ld1 5;cases tX:tx==[];simp only[evs,seval,z1,z2,z4,aJ,(iR:(([]:Str)==[])=true),tX];exact⟨by simp[cp],G3⟩;simp only[evs,seval,z1,z2,z3,z4,z5,aJ,(iR:(([]:Str)==[])=true),tX];exact⟨by simp[cp],G3⟩;have F03:=F02;have qp:=(hA h2 F02).2.2.2.2.2.1;by_cases cp0:¬sub.len≤16;simp only[evs,seval,q0,(oM:(k:Int)=1),q2,aV,ck,qp,l5,(oM:(16:Int)<(sub.len:Nat))];exact⟨by simp[cp0],F02⟩;have cp:sub.len≤16:=oM;simp only[evs,seval,q0,(oM:(k:Int)=1),q2,aV,ck,qp,l5,(oM:¬(16:Int)<(sub.len:Nat))];apply stu F2.wf o2;rintro he oe Fe ne;simp only[evs,seval];apply stu Fe.wf oe;rintro hf of Ff nf;have Gf:Fr [] h hf:=(F02.fresh Fe w (Nat.le_refl _)).fresh Ff w (Nat.le_refl _);have qa:=(hA hf Gf).2.1;simp only[evs,seval,qa];apply aa (fJ Gf.wf);rintro _ ha ⟨rfl,Fa⟩;have G1:=Gf.then Fa;have qb:=(hA ha G1).2.2.2.1;cases c1:okN tg;simp only[evs,seval];exact⟨by simp[cp],G1⟩;simp only[evs,seval,qb];apply aa (pN Fa.wf (ra.fr G1) na);rintro _ hb ⟨rfl,Fb⟩;have G2:=G1.then Fb;cases c2:bP sl;simp only[evs,seval];exact⟨by simp[cp],G2⟩;simp only[evs,seval];have oa:=Fb.get (Fa.get of);apply stu Fb.wf oa;rintro hc oc Fc nc1;simp only[evs,seval];apply stu Fc.wf oc;rintro hd od Fd nd;have G3:Fr [] h hd:=(G2.fresh Fc w (Nat.le_refl _)).fresh Fd w (Nat.le_refl _);have z1:ag hd h.next 1=some (.str []):=od.ld1 1;have z2:ag hd h.next 2=some (.str []):=od.ld1 2;have z3:ag hd h.next 3=some (.nils):=od.ld1 3;have z4:ag hd h.next 4=some (.str tx):=od.ld1 4;have z5:ag hd h.next 5=some (.nils):=od.ld1 5;cases tX:tx==[];simp only[evs,seval,z1,z2,z4,aJ,(iR:(([]:Str)==[])=true),tX];exact⟨by simp[cp],G3⟩;simp only[evs,seval,z1,z2,z3,z4,z5,aJ,(iR:(([]:Str)==[])=true),tX];exact⟨by simp[cp],G3⟩;by_cases k5:k=5;rw[if_neg k1,if_pos k5];have qa:=(hA h2 F02).2.1;simp only[evs,seval,q0,(oM:(k:Int)=5),qa];apply aa (fJ F02.wf);rintro _ ha ⟨rfl,Fa⟩;have G1:=F02.then Fa;have qb:=(hA ha G1).2.2.2.1;cases c1:okN tg;simp only[evs,seval];exact⟨by simp[],G1⟩;simp only[evs,seval,qb];apply aa (pN Fa.wf (ra.fr G1) na);rintro _ hb ⟨rfl,Fb⟩;have G2:=G1.then Fb;cases c2:bP sl;simp only[evs,seval];exact⟨by simp[],G2⟩;simp only[evs,seval];have oa:=Fb.get (Fa.get o2);apply stu Fb.wf oa;rintro hc oc Fc nc1;simp only[evs,seval];apply stu Fc.wf oc;rintro hd od Fd nd;have G3:Fr [] h hd:=(G2.fresh Fc w (Nat.le_refl _)).fresh Fd w (Nat.le_refl _);have z1:ag hd h.next 1=some (.str []):=od.ld1 1;have z2:ag hd h.next 2=some (.str ky):=od.ld1 2;have z3:ag hd h.next 3=some (.nils):=od.ld1 3;have z4:ag hd h.next 4=some (.str tx):=od.ld1 4;have z5:ag hd h.next 5=some (vc):=od.ld1 5;cases tK:ky==[];simp only[evs,seval,z1,z2,aJ,(iR:(([]:Str)==[])=true),tK];exact⟨by simp[],G3⟩;cases tX:tx==[];simp only[evs,seval,z1,z2,z4,aJ,(iR:(([]:Str)==[])=true),tK,tX];exact⟨by simp[],G3⟩;by_cases tP0:¬sub.len=0;simp only[evs,seval,z1,z2,z3,z4,z5,aJ,(iR:(([]:Str)==[])=true),tK,tX,l5,(oM:¬((sub.len:Nat):Int)=0)];exact⟨by simp[tP0],G3⟩;have tP:sub.len=0:=oM;simp only[evs,seval,z1,z2,z3,z4,z5,aJ,(iR:(([]:Str)==[])=true),tK,tX,l5,(oM:((sub.len:Nat):Int)=0)];exact⟨by simp[tP],G3⟩;by_cases k2:k=2;rw[if_neg k1,if_neg k5,if_pos k2];simp only[evs,seval,q0,(oM:(k:Int)=2),q4];apply aa (ng F2.wf);rintro _ h3 ⟨rfl,F3⟩;have F03:=F02.then F3;cases c1:okT tx;simp only[evs,seval];exact⟨iS,F03⟩;simp only[evs,seval];apply stu F3.wf (F3.get o2);rintro hd od Fd nd;have G3:Fr [] h hd:=F03.fresh Fd w (Nat.le_refl _);have z1:ag hd h.next 1=some (.str tg):=od.ld1 1;have z2:ag hd h.next 2=some (.str ky):=od.ld1 2;have z3:ag hd h.next 3=some (va):=od.ld1 3;have z4:ag hd h.next 4=some (.str []):=od.ld1 4;have z5:ag hd h.next 5=some (vc):=od.ld1 5;cases tT:tg==[];simp only[evs,seval,z1,aJ,tT];exact⟨by simp[],G3⟩;cases tK:ky==[];simp only[evs,seval,z1,z2,aJ,tT,tK];exact⟨by simp[],G3⟩;by_cases tS0:¬sl.length=0;simp only[evs,seval,z1,z2,z3,z4,aJ,(iR:(([]:Str)==[])=true),tT,tK,l3,(oM:¬((sl.length:Nat):Int)=0)];exact⟨by simp[tS0],G3⟩;have tS:sl.length=0:=oM;by_cases tP0:¬sub.len=0;simp only[evs,seval,z1,z2,z3,z4,z5,aJ,(iR:(([]:Str)==[])=true),tT,tK,l3,(oM:((sl.length:Nat):Int)=0),l5,(oM:¬((sub.len:Nat):Int)=0)];exact⟨by simp[tS,tP0],G3⟩;have tP:sub.len=0:=oM;simp only[evs,seval,z1,z2,z3,z4,z5,aJ,(iR:(([]:Str)==[])=true),tT,tK,l3,(oM:((sl.length:Nat):Int)=0),l5,(oM:((sub.len:Nat):Int)=0)];exact⟨by simp[tS,tP],G3⟩;by_cases k34:k=3∨k=4;rw[if_neg k1,if_neg k5,if_neg k2,if_pos k34];by_cases k3:k=3;have G3:=F02;cases tT:tg==[];simp only[evs,seval,q0,(oM:(k:Int)=3),s1,aJ,tT];exact⟨by simp[],G3⟩;cases tK:ky==[];simp only[evs,seval,q0,(oM:(k:Int)=3),s1,s2,aJ,tT,tK];exact⟨by simp[],G3⟩;cases tX:tx==[];simp only[evs,seval,q0,(oM:(k:Int)=3),s1,s2,s4,aJ,tT,tK,tX];exact⟨by simp[],G3⟩;by_cases tS0:¬sl.length=0;simp only[evs,seval,q0,(oM:(k:Int)=3),s1,s2,s3,s4,aJ,tT,tK,tX,l3,(oM:¬((sl.length:Nat):Int)=0)];exact⟨by simp[tS0],G3⟩;have tS:sl.length=0:=oM;by_cases tP0:¬sub.len=0;simp only[evs,seval,q0,(oM:(k:Int)=3),s1,s2,s3,s4,s5,aJ,tT,tK,tX,l3,(oM:((sl.length:Nat):Int)=0),l5,(oM:¬((sub.len:Nat):Int)=0)];exact⟨by simp[tS,tP0],G3⟩;have tP:sub.len=0:=oM;simp only[evs,seval,q0,(oM:(k:Int)=3),s1,s2,s3,s4,s5,aJ,tT,tK,tX,l3,(oM:((sl.length:Nat):Int)=0),l5,(oM:((sub.len:Nat):Int)=0)];exact⟨by simp[tS,tP],G3⟩;have G3:=F02;cases tT:tg==[];simp only[evs,seval,q0,(oM:(k:Int)=4),s1,aJ,tT];exact⟨by simp[],G3⟩;cases tK:ky==[];simp only[evs,seval,q0,(oM:(k:Int)=4),s1,s2,aJ,tT,tK];exact⟨by simp[],G3⟩;cases tX:tx==[];simp only[evs,seval,q0,(oM:(k:Int)=4),s1,s2,s4,aJ,tT,tK,tX];exact⟨by simp[],G3⟩;by_cases tS0:¬sl.length=0;simp only[evs,seval,q0,(oM:(k:Int)=4),s1,s2,s3,s4,aJ,tT,tK,tX,l3,(oM:¬((sl.length:Nat):Int)=0)];exact⟨by simp[tS0],G3⟩;have tS:sl.length=0:=oM;by_cases tP0:¬sub.len=0;simp only[evs,seval,q0,(oM:(k:Int)=4),s1,s2,s3,s4,s5,aJ,tT,tK,tX,l3,(oM:((sl.length:Nat):Int)=0),l5,(oM:¬((sub.len:Nat):Int)=0)];exact⟨by simp[tS,tP0],G3⟩;have tP:sub.len=0:=oM;simp only[evs,seval,q0,(oM:(k:Int)=4),s1,s2,s3,s4,s5,aJ,tT,tK,tX,l3,(oM:((sl.length:Nat):Int)=0),l5,(oM:((sub.len:Nat):Int)=0)];exact⟨by simp[tS,tP],G3⟩;rw[if_neg k1,if_neg k5,if_neg k2,if_neg k34];simp only[evs,seval,q0,(oM:¬(k:Int)=1),(oM:¬(k:Int)=5),(oM:¬(k:Int)=2),(oM:¬(k:Int)=3),(oM:¬(k:Int)=4)];exact F02
structure Tm(h0 h:Heap)(bc bf bw:Nat)(c:Nat):Prop where
 f:Fr [] h0 h
 oc:Own h bc [.int .i64 (c:Int)]
 od:Own h bf [.func (.func 213) [] []]
 ow:Own h bw [.func (.func 259) [] [.ptr bc 0,.ptr bf 0,.ptr bw 0]]
theorem Tm.fr{h0 h h':Heap}{bc bf bw c:Nat}(m:Tm h0 h bc bf bw c)(f:Fr [] h h'):Tm h0 h' bc bf bw c:=⟨m.f.then f,f.get m.oc,f.get m.od,f.get m.ow⟩
def IU(h0:Heap)(k:Nat)(tg ky:Str)(at':List Slo)(tx:Str)(va vc:V)(sub:PT):Prop:=
 ∀(h:Heap)(b o bc bd bw l c:Nat),MsB h0 bc bd bw→Tm h0 h bc bd bw c→(∀h',Fr [] h0 h'→At6 h' b o (.int .u8 (k:Int)) (.str tg) (.str ky) va (.str tx) vc)→l≤7→c≤64→
  aj go 259 [.ptr b o,.int .i64 (l:Int),.ptr bc 0,.ptr bd 0,.ptr bw 0] h fun u h'=>u=.bool (PT.node k tg ky at' tx sub sub.walk l c).2∧Tm h0 h' bc bd bw (PT.node k tg ky at' tx sub sub.walk l c).1
def TAll(h0:Heap):PT→Prop
 |.nil=>True
 |.cons k tg ky at' tx va vc sub nx=>IU h0 k tg ky at' tx va vc sub∧TAll h0 nx
theorem TAll.at'{h:Heap}:∀{t:PT}(i:Nat),TAll h t→TAll h (t.at' i)
 |.nil,0,_=>trivial
 |.nil,_+1,_=>trivial
 |.cons _ _ _ _ _ _ _ _ _,0,a=>a
 |.cons _ _ _ _ _ _ _ _ _,i+1,⟨_,g⟩=>TAll.at' i g
theorem Je{h:Heap}(v:V):aj go 213 [v] h fun u h'=>u=.tup []∧h=h':=by refine ab ?_;simp only[evs]
theorem CK{h0:Heap}{k:Nat}{tg ky:Str}{at':List Slo}{tx:Str}{va vc:V}{sub:PT}
 (ra:Recs pO 3 h0 va at') (na:at'.length≤4096) (rc:Sl h0 6 vc sub.len sub.cells) (nc:sub.len≤4096) (A:TAll h0 sub):IU h0 k tg ky at' tx va vc sub:=by
 intro h b o bc bd bw l c B M hA hl hc;have lc:ag h bc 0=some (.int .i64 (c:Int)):=M.oc.ld1 0;refine ab ?_;simp(disch:=omega) only[evs,seval,ah,lc];refine stu M.f.wf M.oc ?_;rintro h1 o1 F1 n1;have M2:Tm h0 h1 bc bd bw (c+1):=by refine⟨?_,o1,F1.own _ _ (eV B.cd.symm) M.od,F1.own _ _ (eV B.cw.symm) M.ow⟩;exact Fr.trans M.f F1 B.w (fun x hx=>.inl hx) (fun x hx=>.inr (by simp at hx;subst hx;exact B.c))
 have lc2:ag h1 bc 0=some (.int .i64 ((c+1:Nat):Int)):=M2.oc.ld1 0;by_cases c1:6<l;have e:PT.node k tg ky at' tx sub sub.walk l c=(c+1,false):=if_pos (.inl c1);simp only[evs,seval,(oM:(6:Int)<(l:Int))];rw[e];exact⟨rfl,M2⟩;by_cases c2:64<c+1;have e:PT.node k tg ky at' tx sub sub.walk l c=(c+1,false):=if_pos (.inr (.inl c2));simp only[evs,seval,(oM:¬(6:Int)<(l:Int)),lc2,(oM:(64:Int)<((c+1:Nat):Int))];rw[e];exact⟨rfl,M2⟩;simp only[evs,seval,(oM:¬(6:Int)<(l:Int)),lc2,(oM:¬(64:Int)<((c+1:Nat):Int))];apply aa (Bb M2.f.wf (fun h' f=>hA h' (M2.f.then f)) (ra.fr M2.f) na (rc.fr M2.f) nc);rintro _ h3 ⟨rfl,F3⟩;have M3:=M2.fr F3;cases c3:dk k tg ky at' tx sub.len;have e:PT.node k tg ky at' tx sub sub.walk l c=(c+1,false):=if_pos (.inr (.inr c3));simp only[evs,seval];rw[e];exact⟨rfl,M3⟩;have e:PT.node k tg ky at' tx sub sub.walk l c=sub.walk (l+1) (c+1):=if_neg (by simp[c3];omega);rw[e];have q5:=(hA h3 M3.f).2.2.2.2.2.1;have lf:ag h3 bd 0=some (.func (.func 213) [] []):=M3.od.ld1 0;simp only[evs,seval,lf];apply aa (Je _);rintro _ _ ⟨rfl,rfl⟩;simp only[evs,seval,q5,(rc.fr M3.f).len];refine aA (fun n env hh=>∃(i c':Nat),Tm h0 hh bc bd bw c'∧env.get 30=some (.int .i64 i)∧env.get 29=some (.int .i64 sub.len)∧env.get 0=some (.ptr b o)∧env.get 1=some (.int .i64 l)∧env.get 4=some (.ptr bw 0)∧
  i≤sub.len∧c'≤64∧(sub.at' i).walk (l+1) c'=sub.walk (l+1) (c+1)∧n=sub.len-i) sub.len oM ?_ ?_
 exact⟨0,c+1,M3,iS,iS,iS,iS,iS,oM,oM,by cases sub<;>rfl,rfl⟩;rintro n env hh ⟨i,c',M',g30,g29,g0,g1,g4,hi,hc',e',rfl⟩;by_cases hlt:i<sub.len;let⟨kd,tg',ky',at2,tx',va',vc',sb,nx,e1,e2,e3,e4,e5,e6⟩:=sub.split i hlt;have hlt':(i:Int)<sub.len:=oM;have a:=A.at' i;rw[e1]at a e';let⟨b',o',p1,_⟩:=(rc.fr M'.f).ix6 hlt e2;have hA':∀h',Fr [] h0 h'→At6 h' b' o' (.int .u8 (kd:Int)) (.str tg') (.str ky') va' (.str tx') vc':=fun h' f=>by let⟨b2,o2,p1',p2'⟩:=(rc.fr f).ix6 hlt e2;rw[p1]at p1';cases p1';exact p2'
 have q5:=(hA hh M'.f).2.2.2.2.2.1;have lw:ag hh bw 0=some (.func (.func 259) [] [.ptr bc 0,.ptr bd 0,.ptr bw 0]):=M'.ow.ld1 0;simp(disch:=omega) only[evs,seval,eff,ah,g30,g29,g0,g1,g4,hlt',lw,q5,p1];apply aa (a.1 hh b' o' bc bd bw (l+1) c' B M' hA' oM hc');rintro _ h4 ⟨rfl,M4⟩;simp only[PT.walk]at e';have nl:=PT.node_le kd tg' ky' at2 tx' sb (l+1) c' hc';cases c4:(PT.node kd tg' ky' at2 tx' sb sb.walk (l+1) c').2;rw[c4]at e';simp only[evs,seval,DF,eff,g4,lw,q5];rw[←e'];exact⟨by simp[c4],by simpa using M4⟩;rw[c4]at e';simp(disch:=omega) only[evs,seval,DF,eff,ah,g30,g4,lw,q5];refine rqn ⟨sub.len-(i+1),oM,i+1,_,M4,iS,iX,iX,iX,iX,oM,nl.2 c4,?_,rfl⟩;rw[e3];simpa using e';simp only[evs,seval,g30,g29,(oM:¬(i:Int)<sub.len)];rw[PT.at_end _ _ oM]at e';rw[←e'];exact⟨rfl,M'⟩
theorem xV{h:Heap}:∀{t:PT},PH h t→TAll h t
 |.nil,_=>trivial
 |.cons _ _ _ _ _ _ _ _ _,⟨_,b,c,d,e,f,g⟩=>⟨CK b c d e (xV f),xV g⟩
def PT.count(k:Nat)(tg ky:Str)(at':List Slo)(tx:Str)(sub:PT):Nat:=
 if k=1∧(node k tg ky at' tx sub sub.walk 1 0).2=true then(node k tg ky at' tx sub sub.walk 1 0).1 else 0
theorem CI{h:Heap}{k b o:Nat}{tg ky:Str}{at':List Slo}{tx:Str}{va vc:V}{sub:PT}(w:WF h)(n:PH h (.cons k tg ky at' tx va vc sub .nil))
 (hA:∀h',Fr [] h h'→At6 h' b o (.int .u8 (k:Int)) (.str tg) (.str ky) va (.str tx) vc):
 aj go 212 [.ptr b o,.func (.func 213) [] []] h fun u h'=>u=.int .i64 (PT.count k tg ky at' tx sub:Nat)∧Fr [] h h':=by
 let⟨h2,e_h2,F_h2,o_h2⟩:=ao w [.func (.func 213) [] []];have q0:=(hA h2 F_h2).1;by_cases k1:k=1;let⟨h3,e_h3,F_h3,o_h3⟩:=ao F_h2.wf [.int .i64 0];have n2:=hnx e_h2;have n3:=hnx e_h3;refine ab ?_;simp only[evs,seval,←e_h2,q0,(oM:(k:Int)=1),←e_h3];refine stu F_h3.wf o_h3 ?_;rintro h4 o4 F4 n4;let⟨h5,e_h5,F_h5,o_h5⟩:=ao F4.wf [.nilf];simp only[evs,seval,←e_h5];refine stu F_h5.wf o_h5 ?_;rintro h6 o6 F6 n6;have F24:Fr [] h h4:=(F_h2.then F_h3).fresh F4 w oM;have F06:Fr [] h h6:=(F24.then F_h5).fresh F6 w oM;have B:MsB h h2.next h.next h4.next:=⟨w,oM,Nat.le_refl _,oM,oM,oM,oM⟩;have M:Tm h h6 h2.next h.next h4.next 0:=⟨F06,F6.own _ _ oO (F_h5.get o4),F6.own _ _ oO (F_h5.get (F4.own _ _ oO (F_h3.get o_h2))),o6⟩;have lw:ag h6 h4.next 0=some (.func (.func 259) [] [.ptr h2.next 0,.ptr h.next 0,.ptr h4.next 0]):=o6.ld1 0;simp only[evs,seval,lw];refine aa ((xV n).1 h6 b o h2.next h.next h4.next 1 0 B M hA oM oM) ?_;rintro _ h7 ⟨rfl,M7⟩;unfold PT.count;cases c:(PT.node k tg ky at' tx sub sub.walk 1 0).2;simp only[evs,seval];exact⟨iS,M7.f⟩;have lc:ag h7 h2.next 0=some (.int .i64 ((PT.node k tg ky at' tx sub sub.walk 1 0).1:Int)):=M7.oc.ld1 0;simp only[evs,seval,lc];exact⟨by simp[k1],M7.f⟩;refine ab ?_;simp only[evs,seval,←e_h2,q0,(oM:¬(k:Int)=1)];exact⟨by simp[PT.count,k1],F_h2⟩
theorem rQ{h:Heap}{k:Nat}{tg ky:Str}{at':List Slo}{tx:Str}{va vc:V}{sub:PT}(w:WF h)(n:PH h (.cons k tg ky at' tx va vc sub .nil)):
 aj go 156 [.agg [.int .u8 (k:Int),.str tg,.str ky,va,.str tx,vc]] h fun u h'=>u=.int .i64 (PT.count k tg ky at' tx sub:Nat)∧Fr [] h h':=by
 let⟨h1,e_h1,F_h1,o_h1⟩:=ao w [.int .u8 (k:Int),.str tg,.str ky,va,.str tx,vc];refine ab ?_;simp only[evs,seval,←e_h1];refine aa (CI F_h1.wf (n.fr F_h1) (fun h' f=>(f.get o_h1).at6)) ?_;rintro _ h2 ⟨rfl,F2⟩;simp only[evs,seval];exact F_h1.then F2
theorem rR{h:Heap}{k:Nat}{tg ky:Str}{at':List Slo}{tx:Str}{va vc:V}{sub:PT}(w:WF h)(n:PH h (.cons k tg ky at' tx va vc sub .nil)):
 aj go 98 [.agg [.int .u8 (k:Int),.str tg,.str ky,va,.str tx,vc]] h fun u h'=>u=.int .i64 (if PT.count k tg ky at' tx sub=0 then 14 else 0)∧Fr [] h h':=by
 let⟨h1,e_h1,F_h1,o_h1⟩:=ao w [.int .u8 (k:Int),.str tg,.str ky,va,.str tx,vc];by_cases c:PT.count k tg ky at' tx sub=0;refine ab ?_;simp only[evs,seval,←e_h1,o_h1.at6.2.2.2.2.2.2];refine aa (rQ F_h1.wf (n.fr F_h1)) ?_;rintro _ h2 ⟨rfl,F2⟩;simp only[evs,seval,(oM:((PT.count k tg ky at' tx sub:Nat):Int)=0)];exact⟨by rw[if_pos c],F_h1.then F2⟩;refine ab ?_;simp only[evs,seval,←e_h1,o_h1.at6.2.2.2.2.2.2];refine aa (rQ F_h1.wf (n.fr F_h1)) ?_;rintro _ h2 ⟨rfl,F2⟩;simp only[evs,seval,(oM:¬((PT.count k tg ky at' tx sub:Nat):Int)=0)];exact⟨by rw[if_neg c],F_h1.then F2⟩
theorem LS:H8 215:=⟨dI,fun z h w=>by
 refine ab ?_;simp only[evs,seval];refine aa (fJ w) ?_;rintro _ h1 ⟨rfl,F⟩;simp only[evs,seval];exact F⟩
def fX(x:Itm):Bool:=decide (x.key≠0)&&(okT x.text&&okM x.marks)
theorem ve{h:Heap}{x:Itm}(w:WF h)(a:ItmH h x):aj go 160 [.agg x.cells] h fun u h'=>u=.int .i64 (if fX x then 0 else 6)∧Fr [] h h':=by let⟨h1,e_h1,F_h1,o_h1⟩:=ao w x.cells;have l0:ag h1 h.next 0=some (.int .u64 (x.key:Int)):=o_h1.ld1 0;have l2:ag h1 h.next 2=some (.str x.text):=o_h1.ld1 2;by_cases c0:x.key=0;refine ab ?_;simp only[evs,seval,←e_h1,l0,(oM:(x.key:Int)=0)];exact⟨by simp[fX,c0],F_h1⟩;refine ab ?_;simp only[evs,seval,←e_h1,l0,(oM:¬(x.key:Int)=0),l2];apply aa (ng F_h1.wf);rintro _ h2 ⟨rfl,F2⟩;have F02:=F_h1.then F2;have l3:ag h2 h.next 3=some x.vm:=(F2.get o_h1).ld1 3;cases c2:okT x.text;simp only[evs,seval];exact⟨by simp[fX,c2],F02⟩;by_cases c3:x.marks.length≤8;simp only[evs,seval,l3,a.m.len,(oM:¬(8:Int)<(x.marks.length:Nat))];apply aa (mH LS F2.wf (a.m.fr F02) a.n);rintro _ h3 ⟨rfl,F3⟩;cases c4:x.marks.all okN;simp only[evs,seval];exact⟨by simp[fX,okM,c4],F02.then F3⟩;simp only[evs,seval];exact⟨by simp[fX,okM,c0,c2,c3,c4],F02.then F3⟩;simp only[evs,seval,l3,a.m.len,(oM:(8:Int)<(x.marks.length:Nat))];exact⟨by simp[fX,okM,c3],F02⟩
def dec(n:Nat):Str:=if h:n<10 then[UInt8.ofNat (48+n)]else dec (n/10)++[UInt8.ofNat (48+n%10)]
termination_by n
decreasing_by omega
theorem uU{n:Nat}(h:n<10):dec n=[UInt8.ofNat (48+n)]:=by rw[dec,dif_pos h]
theorem yQ{n:Nat}(h:¬n<10):dec n=dec (n/10)++[UInt8.ofNat (48+n%10)]:=by rw[dec,dif_neg h]
def c8(b:UInt8):V:=.int .u8 (b.toNat:Int)
theorem xu:∀z:Str,eU (z.map c8)=some z
 |[]=>rfl
 |b::z=>by
  show(match eU (z.map c8)with|some s=>some (UInt8.ofNat ((b.toNat:Int)).toNat::s)|none=>none)=_
  rw[xu z,Int.toNat_natCast,UInt8.ofNat_toNat]
theorem Er:∀d,d<10→aP .ixstr [.str [48,49,50,51,52,53,54,55,56,57],.int .u64 (d:Nat)]=some (c8 (UInt8.ofNat (48+d))):=by
 intro d hd;match d,hd with
 |0,_=>rfl
 |1,_=>rfl
 |2,_=>rfl
 |3,_=>rfl
 |4,_=>rfl
 |5,_=>rfl
 |6,_=>rfl
 |7,_=>rfl
 |8,_=>rfl
 |9,_=>rfl
theorem Jb{call:aC}{loc:List V}{env:T V}{h:Heap}(x:Opd)(K:V→Heap→Prop):OQ (aK call loc env h (.b2s x)) K↔∃d,evO loc env x=some d∧VQ (vi h d) K h:=by
 simp only[aK,OQ,VQ];cases evO loc env x with
 |none=>simp
 |some d=>
  simp only[];cases e:vi h d with
  |none=>simp[e]
  |some v=>simp only[];exact⟨fun⟨_,_,q,k⟩=>by cases q;exact⟨d,rfl,_,e,k⟩,fun⟨_,q,_,e',k⟩=>by cases q;rw[e]at e';cases e';exact⟨_,_,rfl,k⟩⟩
theorem EG{h:Heap}(d:V)(K:V→Heap→Prop):(∃e,some d=some e∧VQ (vi h e) K h)↔VQ (vi h d) K h:=⟨fun⟨_,e,k⟩=>by cases e;exact k,fun k=>⟨d,rfl,k⟩⟩
theorem lJ{h:Heap}{n:Nat}(w:WF h)(hn:n<18446744073709551616):aj go 219 [.int .u64 (n:Int)] h fun u h'=>u=.str (dec n)∧Fr [] h h':=by
 let⟨h1,e_h1,F_h1,o_h1⟩:=ao w [.int .u8 0,.int .u8 0,.int .u8 0,.int .u8 0,.int .u8 0,.int .u8 0,.int .u8 0,.int .u8 0,.int .u8 0,.int .u8 0,.int .u8 0,.int .u8 0,.int .u8 0,.int .u8 0,.int .u8 0,.int .u8 0,.int .u8 0,.int .u8 0,.int .u8 0,.int .u8 0];refine ab ?_;simp only[evs,←e_h1];refine aA (fun k env hh=>Fr [] h hh∧∃(i m:Nat)(acc:Str)(C:List V),env.get 4=some (.int .i64 i)∧env.get 0=some (.int .u64 m)∧env.get 3=some (.ptr h.next 0)∧Own hh h.next C∧
  C.length=20∧C.drop i=acc.map c8∧0<i∧i≤20∧m<10^i∧dec n=dec m++acc∧m<18446744073709551616∧k=i) 20 oM ?_ ?_
 exact⟨F_h1,20,n,[],_,iS,iS,iS,o_h1,rfl,rfl,oM,oM,oM,iS,hn,rfl⟩;rintro k env hh ⟨F,i,m,acc,C,g4,g0,g3,oC,hC,hd,i0,i20,hm,e,hm2,hk⟩;have r1:aP (.ib .rem) [.int .u64 (m:Int),.int .u64 10]=some (.int .u64 ((m%10:Nat):Int)):=by rw[lO _ _ _ dI];rfl
 have r2:aP (.ib .quo) [.int .u64 (m:Int),.int .u64 10]=some (.int .u64 ((m/10:Nat):Int)):=by rw[nT _ _ _ dI,(iR:((m:Int)).tdiv 10=((m/10:Nat):Int)),bV _ oM oM]
 have r3:=Er (m%10) (Nat.mod_lt _ oM);obtain⟨j,rfl⟩:∃j,i=j+1:=⟨i-1,oM⟩;have r4:=nU 1 h.next 0 20 .i64 ((j:Int)) oM oM;simp only[Int.toNat_natCast,Nat.mul_one,Nat.zero_add]at r4;simp(disch:=omega) only[evs,seval,ah,g4,g0,g3,r1,r3,(oM:(((j+1:Nat):Int)-1)=(j:Int)),r4];refine ai (c':=C.set j (c8 (UInt8.ofNat (48+m%10)))) F.wf oC rfl rfl (hJ C j _ oM) ?_;rintro h2 o2 F2 n2;have F02:Fr [] h h2:=F.fresh F2 w (Nat.le_refl _);have hd2:(C.set j (c8 (UInt8.ofNat (48+m%10)))).drop j=(UInt8.ofNat (48+m%10)::acc).map c8:=by rw[List.set_eq_take_append_cons_drop,if_pos oM,hd,List.drop_append_of_le_length oO];rw[List.drop_of_length_le oO];rfl
 by_cases c:m/10=0;have e2:dec n=UInt8.ofNat (48+m%10)::acc:=by rw[e,uU oM,(oM:m%10=m)];rfl
 have s1:aP (.sl (some 20) 1 true false false) [.ptr h.next 0,.int .i64 (j:Int)]=some (.slice h.next j (20-j) (20-j)):=by simp only[aP,qS,aQ,bD .i64 (j:Int) 20 oM oM,Option.map_some,Option.getD_none,eR (oM:(20:Nat)≠j),cond_false,Int.toNat_natCast,Nat.zero_add,Nat.mul_one]
 have s2:vi h2 (.slice h.next j (20-j) (20-j))=some (.str (dec n)):=by
  have:ak h2 h.next j (20-j)=some ((UInt8.ofNat (48+m%10)::acc).map c8):=by rw[o2.ld,bq,aZ _ _ oO,List.take_of_length_le oO,hd2]
  simp only[vi,this,xu,Option.map_some,e2]
 simp only[evs,seval,r2,g0,g3,(oM:((m/10:Nat):Int)=0),s1,Jb,EG,s2];exact F02;have e2:dec n=dec (m/10)++UInt8.ofNat (48+m%10)::acc:=by rw[e,yQ oM];simp
 have j0:0<j:=by obtain z|z:=Nat.eq_zero_or_pos j;subst z;simp at hm;omega;exact z
 simp only[evs,seval,r2,g0,(oM:¬((m/10:Nat):Int)=0)];refine rqn ⟨j,oM,F02,j,m/10,_,_,iS,iS,iX,o2,by simp[hC],hd2,j0,oM,by rw[Nat.pow_succ]at hm;omega,e2,oM,rfl⟩
 done
end Go.Ev.Lay
