/- An evaluator of the program, and contracts over it: LayEe to ErH. -/
import Derived.Test.YtknldhlnhobdhaaGreatDoorP07
import Derived.Test.YtknldhlnhobdhaaGreatDoorP09
import Derived.Test.YtknldhlnhobdhaaGreatDoorP10
import Derived.Test.YtknldhlnhobdhaaGreatDoorP11
import Derived.Test.YtknldhlnhobdhaaGreatDoorP12
set_option linter.unusedSimpArgs false
set_option linter.unusedVariables false
set_option linter.constructorNameAsVariable false
set_option linter.unnecessarySimpa false
namespace Go.Ev.Lay
set_option maxRecDepth 4000
def sAt(l:List Int)(view anchor delta:Int)(lo:Bool)(r:Nat)(s:Int):Int:=bM l view (if 0≤anchor∧(r=0∨lo=false)then(l.take anchor.toNat).sum+delta else s)
inductive SetS(m:Int→Int)(bs:List Bool)(view over anchor delta:Int)(lo:Bool):Int→Nat→List Int→List Bool→Int→Int→Int→List Int→List Bool→Prop
 |bad {s:Int} {r:Nat} {l:List Int} {ks:List Bool} {A l':List Int} {ks':List Bool}:jr l bs view over (sAt l view anchor delta lo r s) A→(aU m A l ks false).1≠0→SetS m bs view over anchor delta lo s r l ks 0 0 (aU m A l ks false).1 l' ks'
 |done {s:Int} {r:Nat} {l:List Int} {ks:List Bool} {A l':List Int} {ks':List Bool}:jr l bs view over (sAt l view anchor delta lo r s) A→aU m A l ks false=(0,l',ks',false)→SetS m bs view over anchor delta lo s r l ks (sAt l view anchor delta lo r s) r 0 l' ks'
 |more {s:Int} {r:Nat} {l:List Int} {ks:List Bool} {A l':List Int} {ks':List Bool} {s2 n2 e2:Int} {l2:List Int} {ks2:List Bool}:jr l bs view over (sAt l view anchor delta lo r s) A→aU m A l ks false=(0,l',ks',true)→
  SetS m bs view over anchor delta lo (sAt l view anchor delta lo r s) (r+1) l' ks' s2 n2 e2 l2 ks2→SetS m bs view over anchor delta lo s r l ks s2 n2 e2 l2 ks2
theorem wb{h:Heap}{env:T V}{b fb bb N r:Nat}{caps:List V}{p0 pm:Option Nat}{vk0:V}{l0 l:List Int}{ks0 bs ks:List Bool}{view over anchor delta s:Int}{lo:Bool}{m:Int→Int}{Q:Ex→T V→Heap→Prop}
 (S:SS h env b fb bb N caps p0 pm vk0 l0 ks0 bs view over anchor delta lo r l ks) (g10:env.get 10=some (.int .i64 s)) (ok:okF view over) (hr:r<1000000) (ha:anchor<l.length) (d0:0≤delta) (d1:delta≤2305843009213693952)
 (hN:N<1099511627776) (hm:∀h',FrF b h h'→∀i:Int,0≤i→i<(bs.length:Nat)→aj go N ([.int .i64 i]++caps) h' fun u h''=>u=.int .i64 (m i)∧Fr [] h' h'') (mb:∀i,-9223372036854775808≤m i∧m i≤9223372036854775807)
 (Kbad:∀env' h' A,jr l bs view over (sAt l view anchor delta lo r s) A→(aU m A l ks false).1≠0→env'.get 10=some (.int .i64 0)→env'.get 11=some (.int .i64 0)→env'.get 12=some (.int .i64 (aU m A l ks false).1)→Lo h' b l0 ks0 bs→FrL b h h'→Q .ret env' h')
 (Kdone:∀env' h' A l' ks',jr l bs view over (sAt l view anchor delta lo r s) A→aU m A l ks false=(0,l',ks',false)→env'.get 10=some (.int .i64 (sAt l view anchor delta lo r s))→env'.get 11=some (.int .i64 r)→env'.get 12=some (.int .i64 0)→Lo h' b l' ks' bs→FrL b h h'→Q .ret env' h')
 (Kmore:∀env' h' A l' ks',jr l bs view over (sAt l view anchor delta lo r s) A→aU m A l ks false=(0,l',ks',true)→SS h' env' b fb bb N caps p0 pm vk0 l0 ks0 bs view over anchor delta lo (r+1) l' ks'→env'.get 10=some (.int .i64 (sAt l view anchor delta lo r s))→FrL b h h'→Q (.goto 0) env' h'):
 W go xZ env h Q:=by
 have S0:=S;let⟨wf,glb,⟨p,vk,o,v1,ix⟩,mk,el,pos,fo,bo,v0,ix0,el0,fne,bne,zne,g0,g2,g3,g4,g6,g11,g12,g13⟩:=S;have fit:=ix.fit;have f2:=fit.2.1;unfold sAt at Kbad Kdone Kmore;by_cases ca:0≤anchor;have top:0≤anchor∧(r=0∨lo=false)→W go (.seq (.ops [⟨none,.p .nilck [.v 0],none⟩,⟨none,.p (.faddr 0) [.l 0],none⟩,⟨none,.ld 2 true (.l 0),none⟩,⟨none,.cf 87 [.l 0,.v 2],none⟩,⟨none,.p (.ext 0) [.l 0],none⟩,⟨none,.p (.ext 1) [.l 1],none⟩,⟨none,.p .mv [.l 1],some 10⟩,⟨none,.p .mv [.l 0],some 12⟩]) (.seq (.ops [⟨none,.p (.ib .eql) [.v 12,.c (.int .i64 0)],some 68⟩]) (.cond (.v 68) (.ops [⟨none,.p .mv [.v 10],none⟩,⟨none,.p (.ib .add) [.l 0,.v 3],none⟩,⟨none,.p .mv [.l 0],some 10⟩]) (.skip)))) (env.set 57 (.bool true)) h (rP go zT Q):=by
  intro c;rw[if_pos c]at Kbad Kdone Kmore;have b1:0≤(l.take anchor.toNat).sum∧(l.take anchor.toNat).sum≤l.sum:=by have:=(fit.sub (List.take_sublist anchor.toNat l)).nn;have h2:=List.sum_append (l₁:=l.take anchor.toNat) (l₂:=l.drop anchor.toNat);rw[List.take_append_drop]at h2;have:=(fit.sub (List.drop_sublist anchor.toNat l)).nn;omega
  simp only[evs,seval,g0,g2,o.ld];apply aa (HU wf ix);rintro _ h1 ⟨rfl,F1⟩;rw[if_pos ⟨ca,oM⟩];simp(disch:=omega) only[evs,seval,ah,g3];have L1:FrL b h h1:=frL F1;exact qc (s:=(l.take anchor.toNat).sum+delta) ⟨F1.wf,glb.fr F1,⟨p,vk,F1.get o,v1,ix.fr F1⟩,mk.fr F1,el,pos,F1.get fo,F1.get bo,v0,ix0.fr F1,el0,fne,bne,zne,iX,iX,iX,iX,iX,iX,iS,iX⟩ iS ok hr hN (fun h' f=>hm h' ((frF F1).trans f)) mb
   (fun env' h' A a1 a2 a3 a4 a5 a6 a7=>Kbad env' h' A a1 a2 a3 a4 a5 a6 (L1.trans a7)) (fun env' h' A l' ks' a1 a2 a3 a4 a5 a6 a7=>Kdone env' h' A l' ks' a1 a2 a3 a4 a5 a6 (L1.trans a7)) (fun env' h' A l' ks' a1 a2 a3 a4 a5=>Kmore env' h' A l' ks' a1 a2 a3 a4 (L1.trans a5))
 by_cases cr:(r:Int)=0;simp only[evs,seval,xZ,g2,g11,eq_true ca,eq_true cr,g0,o.ld];have t1:=top ⟨ca,.inl oM⟩;simp only[evs,seval,g0,g2,o.ld]at t1;exact t1;cases lo;simp only[evs,seval,xZ,g2,g11,eq_true ca,eq_false cr,g6,fo.ld1,g0,o.ld];have t1:=top ⟨ca,.inr rfl⟩;simp only[evs,seval,g0,g2,o.ld]at t1;exact t1;have c:¬(0≤anchor∧(r=0∨true=false)):=by simp;omega
 rw[if_neg c]at Kbad Kdone Kmore;simp only[evs,seval,xZ,g2,g11,eq_true ca,eq_false cr,g6,fo.ld1];exact qc ⟨wf,glb,⟨p,vk,o,v1,ix⟩,mk,el,pos,fo,bo,v0,ix0,el0,fne,bne,zne,iX,iX,iX,iX,iX,iX,iX,iX⟩ iX ok hr hN hm mb Kbad Kdone Kmore;have c:¬(0≤anchor∧(r=0∨lo=false)):=fun x=>ca x.1;rw[if_neg c]at Kbad Kdone Kmore;simp only[evs,seval,xZ,g2,eq_false ca];exact qc ⟨wf,glb,⟨p,vk,o,v1,ix⟩,mk,el,pos,fo,bo,v0,ix0,el0,fne,bne,zne,iX,iX,iX,iX,iX,iX,iX,iX⟩ iX ok hr hN hm mb Kbad Kdone Kmore
theorem nf2(N:Nat)(caps:List V):aP (.nil 3 false) [.func (.func N) [] caps,.nilf]=some (.bool false):=rfl
theorem Be:fm.length=64:=by unfold fm;rw[List.length_map];rfl
def uz(l:List Int)(view over anchor delta:Int)(nil:Bool):Int:=if¬okF view over∨nil=true then 1 else if anchor< -1∨l.length≤anchor∨delta<0∨2305843009213693952<delta then 4 else 0
theorem Ct{h:Heap}{b N:Nat}{caps:List V}{l:List Int}{ks bs:List Bool}{view over anchor delta:Int}{lo:Bool}{m:Int→Int}(w:WF h)(g:Glb h)(a:Lo h b l ks bs)(pos:∀x∈l,1≤x)(hb:uz l view over anchor delta false=0)
 (hN:N<1099511627776) (hm:∀h',FrF b h h'→∀i:Int,0≤i→i<(bs.length:Nat)→aj go N ([.int .i64 i]++caps) h' fun u h''=>u=.int .i64 (m i)∧Fr [] h' h'') (mb:∀i,-9223372036854775808≤m i∧m i≤9223372036854775807):
 aj go 38 [.ptr b 0,.agg [.int .i64 view,.int .i64 over,.bool lo],.int .i64 anchor,.int .i64 delta,.func (.func N) [] caps] h fun u h'=>∃s n e l' ks',u=.tup [.int .i64 s,.int .i64 n,.int .i64 e]∧
  SetS m bs view over anchor delta lo 0 0 l ks s n e l' ks'∧(if e=0 then Lo h' b l' ks' bs else Lo h' b l ks bs)∧FrL b h h':=by
 have ok:okF view over:=by unfold uz at hb;by_cases c:okF view over;exact c;grind
 have hb2:¬(anchor< -1∨l.length≤anchor∨delta<0∨2305843009213693952<delta):=by unfold uz at hb;rw[if_neg iX]at hb;intro c;rw[if_pos c]at hb;omega
 have al:=a;let⟨p,vk,pm,o,v1,ix,mk,el⟩:=a;have zne:0≠b:=by rintro rfl;have:=congrArg List.length (g.own.uniq o);rw[Be]at this;simp at this
 have kl:=ix.len;have blt:=o.lt w;let⟨h1,e_h1,F_h1,o_h1⟩:=ao w [.int .i64 view,.int .i64 over,.bool lo];refine ab ?_;simp only[evs,seval,←e_h1];refine vu (fun k env hh=>∃(s:Int)(r:Nat)(bb:Nat)(l':List Int)(ks':List Bool),SS hh env b h.next bb N caps p pm vk l ks bs view over anchor delta lo r l' ks'∧env.get 10=some (.int .i64 s)∧FrL b h hh∧l'.length=l.length∧ks'.count false≤k∧r+ks'.count false≤1024∧
  ∀s2 n2 e2 l2 ks2,SetS m bs view over anchor delta lo s r l' ks' s2 n2 e2 l2 ks2→SetS m bs view over anchor delta lo 0 0 l ks s2 n2 e2 l2 ks2) (ks.count false) ?_ ?_ ?_
 grind;simp only[evs,seval,o_h1.ld];refine aa (vF F_h1.wf) ?_;rintro _ h2 ⟨rfl,F2⟩;have F12:=F_h1.then F2;simp only[evs,seval,eq_true ok,nf2 N caps,eq_false (oM:¬anchor< -1)];refine aa (kC F2.wf (al.fr F12)) ?_;rintro _ h3 ⟨rfl,F3⟩;have F13:=F12.then F3;let⟨h4,e_h4,F_h4,o_h4⟩:=ao F3.wf [.nilp,.nils];simp only[evs,seval,eq_false (oM:¬(l.length:Int)≤anchor),eq_false (oM:¬delta<0),eq_false (oM:¬2305843009213693952<delta),(F13.get o).ld,←e_h4];refine ai (c':=[pv p,vk]) F_h4.wf o_h4 rfl (by simp[av,V.cells,fu,v1]) rfl ?_;rintro h5 o5 F5 n5;have F35:Fr [] h3 h5:=F_h4.fresh F5 F3.wf (Nat.le_refl _);have F05:=F13.then F35;have F15:Fr [] h1 h5:=(F2.then F3).then F35;simp only[evs];have hc:ks.count false≤ks.length:=List.count_le_length;refine wb (s:=0) (m:=m) (r:=0) (anchor:=anchor) (delta:=delta) (lo:=lo) (view:=view) (over:=over) ⟨F05.wf,g.fr F05,⟨p,vk,F05.get o,v1,ix.fr F05⟩,mk.fr F05,el,pos,F15.get o_h1,o5,v1,ix.fr F05,el,oM,by have:=F13.next;omega,zne,iS,iS,iS,iS,iS,iS,iS,iS⟩ iS ok oM oM oM oM hN (fun h' f=>hm h' ((frF F05).trans f)) mb ?_ ?_ ?_;intro env' h' A a1 a2 a3 a4 a5 a6 a7;refine(dL _ _).2 ?_;simp only[evs,a3,a4,a5];exact⟨_,_,_,l,ks,rfl,SetS.bad a1 a2,by rw[if_neg a2];exact a6,(frL F05).trans a7⟩;intro env' h' A l' ks' a1 a2 a3 a4 a5 a6 a7;refine(dL _ _).2 ?_;simp only[evs,a3,a4,a5];exact⟨_,_,_,l',ks',rfl,SetS.done a1 a2,by rw[if_pos rfl];exact a6,(frL F05).trans a7⟩;intro env' h' A l' ks' a1 a2 a3 a4 a5;have sp:=dR m A l ks false kl.1 pos;rw[a2]at sp;simp only[]at sp;have:=sp.2.2.2.2 trivial;simp at this;exact⟨rfl,_,0+1,_,l',ks',a3,a4,(frL F05).trans a5,sp.1,sp.2.2.2.1,oM,fun s2 n2 e2 l2 ks2 q=>SetS.more a1 a2 q⟩;rintro k env hh ⟨s,r,bb,l',ks',S,g10,L,ll,hk,hr,up⟩;have hl':ks'.length=l'.length:=by let⟨_,_,_,_,i⟩:=S.ob;exact i.len.1
 have pos':=S.pos;refine wb (m:=m) S g10 ok oM oM oM oM hN (fun h' f=>hm h' (L.f.trans f)) mb ?_ ?_ ?_;intro env' h' A a1 a2 a3 a4 a5 a6 a7;refine(dL _ _).2 ?_;simp only[evs,a3,a4,a5];exact⟨_,_,_,l,ks,rfl,up _ _ _ _ _ (SetS.bad a1 a2),by rw[if_neg a2];exact a6,L.trans a7⟩;intro env' h' A l2 ks2 a1 a2 a3 a4 a5 a6 a7;refine(dL _ _).2 ?_;simp only[evs,a3,a4,a5];exact⟨_,_,_,l2,ks2,rfl,up _ _ _ _ _ (SetS.done a1 a2),by rw[if_pos rfl];exact a6,L.trans a7⟩;intro env' h' A l2 ks2 a1 a2 a3 a4 a5;have sp:=dR m A l' ks' false hl' pos';rw[a2]at sp;simp only[]at sp;have:=sp.2.2.2.2 trivial;simp at this;exact⟨rfl,ks2.count false,oM,_,r+1,bb,l2,ks2,a3,a4,L.trans a5,oM,Nat.le_refl _,oM,fun s2 n2 e2 l2 ks2 q=>up _ _ _ _ _ (SetS.more a1 a2 q)⟩
open Go.Ev.St
set_option maxRecDepth 4000
structure LQ(h:Heap)(v:V)(E:List Ent):Prop where
 re:Recs Ent.cells 6 h v E
 ie:∀e∈E,ItmH h e.x
 n:E.length≤1000
 ok:okZ E
 s:(E.map Ent.b).sum≤4611686018427387904
section
variable {h : Heap} {v : V} {E : List Ent} {view over x : Int}
theorem LQ.fr{h':Heap}(q:LQ h v E)(f:Fr [] h h'):LQ h' v E:=⟨q.re.fr f,fun e m=>(q.ie e m).fr f,q.n,q.ok,q.s⟩
theorem LQ.fit(q:LQ h v E):Fit (E.map Ent.b):=LH (by have:=q.n;omega) q.ok q.s
theorem LQ.pos(q:LQ h v E):∀x∈E.map Ent.b,1≤x:=fun x m=>by obtain⟨e,em,rfl⟩:=List.mem_map.1 m;exact(q.ok e em).1
theorem LQ.one(q:LQ h v E):v.one=true:=Sl.one q.re
end
open Go.Ev.St
set_option maxRecDepth 4000
theorem HdR.rest{l:List Int}{bs:List Bool}{s r:Int}(f:Fit l){j:Nat}:∀n,HdR l bs s j r→s<(l.take j).sum→HdR l bs s (j+n) r
 |0,a,_=>a
 |n+1,a,h=>(HdR.rest f n a h).skip fun _=>by have:=CJ f (oM:j≤j+n);omega
section
variable {h : Heap} {v vK : V} {E : List Ent} {Ks : List Knd} {view over x s : Int}
end
set_option maxRecDepth 4000
def Ig(l:List Int)(bs:List Bool)(view over s:Int)(A:List Int):Prop:=∃hd,HdR l bs s l.length hd∧A=if l=[]then[]else Cf (fS l view over s).1 (fS l view over s).2 hd l.length
inductive SetR(m:Int→Int)(bs:List Bool)(view over anchor delta:Int)(lo:Bool):Int→Nat→List Int→List Bool→Int→Int→Int→List Int→List Bool→Prop
 |bad {s:Int} {r:Nat} {l:List Int} {ks:List Bool} {A l':List Int} {ks':List Bool}:Ig l bs view over (sAt l view anchor delta lo r s) A→(aU m A l ks false).1≠0→SetR m bs view over anchor delta lo s r l ks 0 0 (aU m A l ks false).1 l' ks'
 |done {s:Int} {r:Nat} {l:List Int} {ks:List Bool} {A l':List Int} {ks':List Bool}:Ig l bs view over (sAt l view anchor delta lo r s) A→aU m A l ks false=(0,l',ks',false)→SetR m bs view over anchor delta lo s r l ks (sAt l view anchor delta lo r s) r 0 l' ks'
 |more {s:Int} {r:Nat} {l:List Int} {ks:List Bool} {A l':List Int} {ks':List Bool} {s2 n2 e2:Int} {l2:List Int} {ks2:List Bool}:Ig l bs view over (sAt l view anchor delta lo r s) A→aU m A l ks false=(0,l',ks',true)→
  SetR m bs view over anchor delta lo (sAt l view anchor delta lo r s) (r+1) l' ks' s2 n2 e2 l2 ks2→SetR m bs view over anchor delta lo s r l ks s2 n2 e2 l2 ks2
theorem zU:∀(l:List Int)(i:Nat)(x:Int),i<l.length→(l.set i x).sum=l.sum-l.getD i 0+x
 |[],i,x,h=>by simp at h
 |y::l,0,x,_=>by simp[List.getD];omega
 |y::l,i+1,x,h=>by have:=zU l i x (eV h);simp only[List.set_cons_succ,List.sum_cons,this];simp[List.getD];omega
theorem Hy{l:List Int}{i x:Int}(f:Fit l)(z:cg l i x=0):Fit (l.set i.toNat x):=by let⟨a1,a2,a3,a4⟩:=rL z;unfold cg at z;rw[if_pos ⟨a1,a2⟩,if_neg oM]at z;refine⟨fun y hy=>?_,?_,by simpa using f.2.2⟩;obtain q|q:=List.mem_or_eq_of_mem_set hy;exact f.1 y q;omega;rw[zU l i.toNat x oM];split at z<;>omega
theorem ny(m:Int→Int):∀(A l:List Int)(ks:List Bool)(mo:Bool),Fit l→Fit (aU m A l ks mo).2.1
 |[],l,ks,mo,f=>f
 |i::A,l,ks,mo,f=>by rw[aU];split;split;exact ny m A l ks mo f;split;rename_i z;exact ny m A _ _ true (Hy f z);exact f;exact f
theorem eh{l:List Int}{bs:List Bool}{view over s:Int}{A A':List Int}(f:Fit l)(pos:∀x∈l,1≤x)(hl:bs.length=l.length)(ok:okF view over)(cl:bM l view s=s)(a:jr l bs view over s A)(b:Ig l bs view over s A'):A=A':=by
 obtain⟨hd,h1,rfl⟩:=b;unfold jr at a;by_cases c:l=[];grind;rw[if_neg c]at a⊢;have hp:=uC pos c;have:=ok.1;have hs:0≤s∧s<l.sum:=by unfold bM at cl;omega
 exact JI f hl hs.1 hs.2 c ok.1 ok.2.2.1 a h1
theorem dt(l:List Int)(view anchor delta:Int)(lo:Bool)(r:Nat)(s:Int):bM l view (sAt l view anchor delta lo r s)=sAt l view anchor delta lo r s:=qG _ _ _
theorem SetS.same{m:Int→Int}{bs:List Bool}{view over anchor delta:Int}{lo:Bool}{s:Int}{r:Nat}{l:List Int}{ks:List Bool}{s1 n1 e1:Int}{l1:List Int}{ks1:List Bool}(ok:okF view over)(a:SetS m bs view over anchor delta lo s r l ks s1 n1 e1 l1 ks1):
 ∀{s2 n2 e2:Int}{l2:List Int}{ks2:List Bool},SetR m bs view over anchor delta lo s r l ks s2 n2 e2 l2 ks2→Fit l→(∀x∈l,1≤x)→bs.length=l.length→ks.length=l.length→s1=s2∧n1=n2∧e1=e2∧(e1=0→l1=l2∧ks1=ks2):=by
 induction a with
 |bad a1 a2=>
  intro s2 n2 e2 l2 ks2 b f pos hl hk;cases b with
  |bad b1 b2=>have:=eh f pos hl ok (dt _ _ _ _ _ _ _) a1 b1;subst this;exact⟨rfl,rfl,rfl,fun z=>absurd z a2⟩
  |done b1 b2=>have:=eh f pos hl ok (dt _ _ _ _ _ _ _) a1 b1;subst this;rw[b2]at a2;exact absurd rfl a2
  |more b1 b2 _=>have:=eh f pos hl ok (dt _ _ _ _ _ _ _) a1 b1;subst this;rw[b2]at a2;exact absurd rfl a2
 |done a1 a2=>
  intro s2 n2 e2 l2 ks2 b f pos hl hk;cases b with
  |bad b1 b2=>have:=eh f pos hl ok (dt _ _ _ _ _ _ _) a1 b1;subst this;rw[a2]at b2;exact absurd rfl b2
  |done b1 b2=>have:=eh f pos hl ok (dt _ _ _ _ _ _ _) a1 b1;subst this;rw[a2]at b2;cases b2;exact⟨rfl,rfl,rfl,fun _=>⟨rfl,rfl⟩⟩
  |more b1 b2 _=>have:=eh f pos hl ok (dt _ _ _ _ _ _ _) a1 b1;subst this;rw[a2]at b2;cases b2
 | @more s r l ks A l' ks' s2' n2' e2' l2' ks2' a1 a2 _ ih=>
  intro s2 n2 e2 l2 ks2 b f pos hl hk;have sp:=dR m A l ks false hk pos;have ft:=ny m A l ks false f;rw[a2]at sp ft;simp only[]at sp ft;cases b with
  |bad b1 b2=>have:=eh f pos hl ok (dt _ _ _ _ _ _ _) a1 b1;subst this;rw[a2]at b2;exact absurd rfl b2
  |done b1 b2=>have:=eh f pos hl ok (dt _ _ _ _ _ _ _) a1 b1;subst this;rw[a2]at b2;cases b2
  |more b1 b2 b3=>have:=eh f pos hl ok (dt _ _ _ _ _ _ _) a1 b1;subst this;rw[a2]at b2;cases b2;exact ih b3 ft sp.2.2.1 oM oM
def hc(p:Nat×Int):List V:=[.int .u64 (p.1:Int),.int .i64 p.2]
theorem DR(p:Nat×Int):(hc p).length=2:=rfl
structure TOk(Y:List (Nat×Int)):Prop where
 k:∀p∈Y,1≤p.1∧p.1≤12
 s:∀p∈Y,1≤p.2∧p.2≤50
 n:(Y.map Prod.fst).Nodup
 l:Y.length≤12
open Go.Ev.St
set_option maxRecDepth 4000
def zX(Ks:List Knd)(E:List Ent):List (Int×Bool×Bool):=E.map fun e=>(e.b,e.kn,cJ Ks e.x)
theorem v8(Ks:List Knd)(E:List Ent):sz (zX Ks E)=E.map Ent.b:=by simp[sz,zX,Function.comp_def]
open Go.Ev.St
set_option maxRecDepth 4000
def fk(k:Nat)(p:Nat×Int):Bool:=p.1==k
def msr(Ks:List Knd)(Y:List (Nat×Int))(x:Itm):Int:=match Y.find? (fk x.key)with
 |some p=>p.2
 |none=>aL Ks x
section
variable {h : Heap} {v vK vT : V} {Y : List (Nat × Int)} {Ks : List Knd} {x : Itm} {bp : Nat}
end
open Go.Ev.St
set_option maxRecDepth 4000
section
variable {h : Heap} {v vK vT : V} {Y : List (Nat × Int)} {Ks : List Knd} {m : Nat → Option Nat} {b S c : Nat}
theorem Ht{view over:Int}(w:WF h)(rk:Recs Knd.cells 9 h vK Ks)(kh:∀q∈Ks,KndH h q)(hk:Ks.length≤256)(r:okR Ks 12=true)(v1:1≤view)(v2:view≤2147483648)(o1:0≤over)(o2:over≤16):
 aj go 42 [.agg [vK,.int .i64 12,.int .i64 view,.int .i64 over,.int .i64 1]] h fun u h'=>u=.int .i64 0∧Fr [] h h':=by
 have k1:vK.one=true:=Sl.one rk;let⟨h1,e_h1,F_h1,o_h1⟩:=ao w [vK,.int .i64 12,.int .i64 view,.int .i64 over,.int .i64 1];have l0:ak h1 h.next 0 2=some [vK,.int .i64 12]:=by rw[o_h1.ld];rfl
 refine ab ?_;simp only[evs,seval,←e_h1,l0];refine aa (iI F_h1.wf (Recs.fr rk F_h1) (fun q m=>(kh q m).fr F_h1) oM) ?_;rintro _ h2 ⟨rfl,F2⟩;rw[r];have o:=F2.get o_h1;have l2:ag h2 h.next 2=some (.int .i64 view):=o.ld1 2;have l3:ag h2 h.next 3=some (.int .i64 over):=o.ld1 3;have l4:ag h2 h.next 4=some (.int .i64 1):=o.ld1 4;simp only[evs,seval,l2,l3,l4,decide_eq_false (oM:¬view<1),decide_eq_false (oM:¬2147483648<view),decide_eq_false (oM:¬over<0),decide_eq_false (oM:¬16<over),decide_eq_false (oM:¬(1:Int)<1),decide_eq_false (oM:¬(2305843009213693952:Int)<1)];exact F_h1.then F2
end
open Go.Ev.St
set_option maxRecDepth 4000
structure SetG(h:Heap)(Ks:List Knd)(vK:V)(Y:List (Nat×Int))(vT:V)(view over:Int):Prop where
 w:WF h
 rk:Recs Knd.cells 9 h vK Ks
 kh:∀q∈Ks,KndH h q
 r:okR Ks 12=true∧Ks.length=3∧GK Ks
 t:Recs hc 2 h vT Y
 ok:TOk Y
 f:okF view over
section
variable {h : Heap} {v vK vT : V} {E : List Ent} {Y : List (Nat × Int)} {Ks : List Knd} {view over a d : Int} {m : Nat → Option Nat} {k : Nat}
theorem SetG.fr{h':Heap}(g:SetG h Ks vK Y vT view over)(f:Fr [] h h'):SetG h' Ks vK Y vT view over:=⟨f.wf,Recs.fr g.rk f,fun q m=>(g.kh q m).fr f,g.r,Recs.fr g.t f,g.ok,g.f⟩
end
open Go.Ev.St
set_option maxRecDepth 4000
def uD(m:Nat→Option Nat)(p:Nat×Int):Int:=if p.1=0 then 9 else if p.2<1∨2305843009213693952<p.2 then 12 else if(m p.1).isSome=true then 8 else 0
def tcE:(Nat→Option Nat)→Nat→List (Nat×Int)→Nat×Int
 |_,_,[]=>(0,0)
 |m,i,p::Y=>if uD m p=0 then tcE (im m p.1 0) (i+1) Y else(i,uD m p)
def acE(k:Nat)(d:Int):Int:=if d<0∨2305843009213693952<d∨(k=0∧0<d)then 1 else 0
def htK(x:Nat×Int):List V:=[.int .u64 (x.1:Int),.int .i64 x.2]
def H64(Tl:List (Nat×Int)):Prop:=∀x∈Tl,x.1<18446744073709551616∧-9223372036854775808≤x.2∧x.2≤9223372036854775807
theorem CL:∀(Y:List (Nat×Int))(m:Nat→Option Nat)(i:Nat),(tcE m i Y).2=0→∀p∈Y,1≤p.2∧p.2≤2305843009213693952
 |[],_,_,_=>by simp
 |q::Y,m,i,e=>by rw[tcE]at e;by_cases c:uD m q=0;rw[if_pos c]at e;intro p mp;obtain rfl|mp:=List.mem_cons.1 mp;unfold uD at c;split at c;omega;omega;exact CL Y _ _ e p mp;grind
section
variable {h : Heap} {v vK vT : V} {Tl : List (Nat × Int)} {m : Nat → Option Nat} {b S c k : Nat} {d : Int}
theorem GO{p:Nat×Int}(w:WF h)(k:Km h b S m c)(hc':c<4096)(k1:p.1<18446744073709551616)(k2:-9223372036854775808≤p.2∧p.2≤9223372036854775807):
 aj go 84 [.agg (htK p),.int .i64 1,.ptr b 0] h fun u h'=>u=.int .i64 (uD m p)∧(uD m p≠0→Fr [] h h')∧(uD m p=0→∃S',(S'=S∨h.next≤S')∧Km h' b S' (im m p.1 0) (c+1)∧Fr [b,S] h h'):=by
 obtain⟨h1,e_h1⟩:∃h1,h1=halloc h (htK p):=⟨_,rfl⟩;have F_h1:Fr [] h h1:=e_h1▸Fr.halloc w _;have o_h1:Own h1 h.next (htK p):=e_h1▸Own.new w _;have e1:halloc h [.int .u64 (p.1:Int),.int .i64 p.2]=h1:=e_h1.symm;have q0:∀{h'},Fr [] h1 h'→ag h' h.next 0=some (.int .u64 (p.1:Int)):=fun f=>(f.get o_h1).ld1 0;have q1:∀{h'},Fr [] h1 h'→ag h' h.next 1=some (.int .i64 p.2):=fun f=>(f.get o_h1).ld1 1;unfold htK;refine ab ?_;simp only[evs,↓reduceIte,Nat.reduceEqDiff,Nat.reduceAdd,e1,q0 (Fr.refl F_h1.wf)];refine aa (pw F_h1.wf (k.fr F_h1) k1) ?_;rintro _ h2 ⟨rfl,F2⟩;have F02:=F_h1.then F2;obtain⟨y,z,gv,ez⟩:∃(y:Int)(z:Bool),fZ (m p.1)=.tup [.int .i64 y,.bool z]∧z=(m p.1).isSome:=by
  cases q:m p.1 with
  |none=>exact⟨0,false,rfl,rfl⟩
  |some x=>exact⟨(x:Nat),true,rfl,rfl⟩
 unfold uD;by_cases c0:p.1=0;rw[if_pos c0];simp only[evs,↓reduceIte,Nat.reduceEqDiff,gv,q0 F2,eq_true (oM:(p.1:Int)=0)];exact⟨fun _=>F02,fun x=>absurd x dI⟩;rw[if_neg c0];by_cases c1:p.2<1;rw[if_pos (.inl c1)];simp only[evs,↓reduceIte,Nat.reduceEqDiff,gv,q0 F2,q1 F2,eq_false (oM:¬(p.1:Int)=0),eq_true c1];exact⟨fun _=>F02,fun x=>absurd x dI⟩;by_cases c2:2305843009213693952<p.2;rw[if_pos (.inr c2)];simp only[evs,↓reduceIte,Nat.reduceEqDiff,gv,q0 F2,q1 F2,eq_false (oM:¬(p.1:Int)=0),eq_false c1,eq_true c2];exact⟨fun _=>F02,fun x=>absurd x dI⟩;rw[if_neg oM,←ez];cases z;have mk:m p.1=none:=by
  cases q:m p.1 with
  |none=>rfl
  |some x=>rw[q]at ez;simp at ez
 simp only[evs,↓reduceIte,Nat.reduceEqDiff,gv,q0 F2,q1 F2,eq_false (oM:¬(p.1:Int)=0),eq_false c1,eq_false c2];apply aa (Ak (x:=0) F2.wf (k.fr F02) (.inl hc') oM k1 oM);rintro _ h3 ⟨rfl,S',s1,k3,F3⟩;rw[mk]at k3;simp only[evs,↓reduceIte];have:=F02.next;exact⟨fun x=>absurd rfl x,fun _=>⟨S',s1.imp id (fun q=>by omega),k3,F02.trans F3 w iS iS⟩⟩;simp only[evs,↓reduceIte,Nat.reduceEqDiff,gv,q0 F2,q1 F2,eq_false (oM:¬(p.1:Int)=0),eq_false c1,eq_false c2];exact⟨fun _=>F02,fun x=>absurd x dI⟩
theorem zM(w:WF h)(a:ARecs htK 2 h vT Tl)(hT:H64 Tl)(hl:Tl.length≤256):aj go 35 [vT,.int .i64 1] h fun u h'=>u=.tup [.int .i64 ((tcE (fun _=>none) 0 Tl).1:Nat),.int .i64 (tcE (fun _=>none) 0 Tl).2]∧Fr [] h h':=by
 refine ab ?_;simp only[evs,seval,a.len,decide_eq_false (oM:¬(1:Int)<1),decide_eq_false (oM:¬(2305843009213693952:Int)<1),eq_false (oM:¬(256:Int)<Tl.length)];refine aa (Al w) ?_;rintro _ h1 ⟨b,rfl,hb,k1,F1⟩;simp only[evs,seval,a.len];refine aA (fun n env hh=>Fr [] h hh∧∃(i S:Nat)(m:Nat→Option Nat),env.get 24=some (.int .i64 i)∧env.get 23=some (.int .i64 Tl.length)∧env.get 22=some vT∧env.get 1=some (.int .i64 1)∧env.get 6=some (.ptr b 0)∧
  i≤Tl.length∧h.next≤S∧Km hh b S m i∧tcE (fun _=>none) 0 Tl=tcE m i (Tl.drop i)∧n=Tl.length-i) Tl.length oM ?_ ?_
 exact⟨F1,0,b,_,iS,iS,iS,iS,iS,oM,hb,k1,rfl,rfl⟩;rintro n env hh ⟨F,i,S,m,g24,g23,g22,g1,g6,hi,hS,km,hm,rfl⟩;by_cases c:(i:Int)<Tl.length;let⟨bi,oi,p,e1,_,e3,e4⟩:=(a.fr F).ix (f:=htK) (k:=2) (fun _=>rfl) .i64 (i:Int) oM c;rw[Int.toNat_natCast]at e4;have em:=List.mem_of_getElem? e4;let⟨k1,k2⟩:=hT p em;have e3':ak hh bi oi 2=some [.int .u64 (p.1:Int),.int .i64 p.2]:=e3;rw[aG e4,tcE]at hm;let⟨h2,e_h2,F_h2,o_h2⟩:=ao F.wf [.int .u64 0,.int .i64 0];simp only[evs,seval,g24,g23,g22,c,e1,e3',←e_h2];apply stu F_h2.wf o_h2;rintro h3 o3 F3 n3;have F23:Fr [] hh h3:=F_h2.fresh F3 F.wf (Nat.le_refl _);have l3:ak h3 hh.next 0 2=some [.int .u64 (p.1:Int),.int .i64 p.2]:=by rw[o3.ld];rfl
 simp only[evs,seval,g1,g6,l3];apply aa (GO (p:=p) F23.wf (km.fr F23) oM k1 k2);rintro _ h4 ⟨rfl,x1,x2⟩;have F03:=F.then F23;have n23:=F03.next;by_cases z:uD m p=0;rw[if_pos z]at hm;let⟨S',s1,k4,F4⟩:=x2 z;rw[z];simp(disch:=omega) only[evs,seval,ah,g24];refine rqn ⟨Tl.length-(i+1),oM,Fr.new w F03 F4 oO,i+1,S',im m p.1 0,iS,iX,iX,iX,iX,oM,by obtain rfl|q:=s1<;>omega,k4,hm,rfl⟩
 rw[if_neg z]at hm;simp only[evs,seval,eq_false z];rw[hm];exact⟨rfl,F03.then (x1 z)⟩;obtain rfl:i=Tl.length:=oM;rw[List.drop_length,tcE]at hm;simp only[evs,seval,g24,g23,c];rw[hm];exact⟨rfl,F⟩
theorem qW(w:WF h):aj go 36 [vA k d] h fun u h'=>u=.int .i64 (acE k d)∧Fr [] h h':=by let⟨h1,e_h1,F_h1,o_h1⟩:=ao w [.int .u64 (k:Int),.int .i64 d];have l0:ag h1 h.next 0=some (.int .u64 (k:Int)):=o_h1.ld1 0;have l1:ag h1 h.next 1=some (.int .i64 d):=o_h1.ld1 1;unfold acE;by_cases d0:d<0;rw[if_pos (.inl d0)];refine ab ?_;simp only[evs,seval,←e_h1,l1,eq_true d0];exact F_h1;by_cases d1:2305843009213693952<d;rw[if_pos (.inr (.inl d1))];refine ab ?_;simp only[evs,seval,←e_h1,l1,eq_false d0,eq_true d1];exact F_h1;by_cases c:k=0;by_cases e:0<d;rw[if_pos (.inr (.inr ⟨c,e⟩))];refine ab ?_;simp only[evs,seval,←e_h1,l0,l1,decide_eq_false d0,decide_eq_false d1,decide_eq_true (oM:(k:Int)=0),decide_eq_true e];exact F_h1;rw[if_neg oM];refine ab ?_;simp only[evs,seval,←e_h1,l0,l1,decide_eq_false d0,decide_eq_false d1,decide_eq_true (oM:(k:Int)=0),decide_eq_false e];exact F_h1;rw[if_neg oM];refine ab ?_;simp only[evs,seval,←e_h1,l0,l1,decide_eq_false d0,decide_eq_false d1,decide_eq_false (oM:¬(k:Int)=0)];exact F_h1
end
open Go.Ev.St
set_option maxRecDepth 4000
def chE(m:Nat→Option Nat)(k:Nat)(d:Int)(Tl:List (Nat×Int)):Int:=
 if(tcE (fun _=>none) 0 Tl).2=0 then if acE k d=0 then if k≠0∧m k=none then 11 else 0 else acE k d else(tcE (fun _=>none) 0 Tl).2
theorem KS{m:Nat→Option Nat}{k:Nat}{d:Int}{Tl:List (Nat×Int)}(e:chE m k d Tl=0):(tcE (fun _=>none) 0 Tl).2=0∧acE k d=0∧¬(k≠0∧m k=none):=by unfold chE at e;by_cases a:(tcE (fun _=>none) 0 Tl).2=0;grind;omega
section
variable {h : Heap} {v vK vT vT' : V} {E : List Ent} {Y Tl : List (Nat × Int)} {Ks : List Knd} {view over d : Int} {m : Nat → Option Nat} {k : Nat}
theorem CW(g:SetG h Ks vK Y vT' view over)(re:Recs Ent.cells 6 h v E)(lo:LOk Ks h E)(ix:IxOf m E)(aT:ARecs htK 2 h vT Tl)(hT:H64 Tl)(hl:Tl.length≤256)(kb:k<18446744073709551616):
 aj go 10 [.agg [vK,.int .i64 12,.int .i64 view,.int .i64 over,.int .i64 1],.agg [v],vA k d,vT] h fun u h'=>u=.int .i64 (chE m k d Tl)∧Fr [] h h':=by
 have w:=g.w;have k1:vK.one=true:=Sl.one g.rk;have o:=Sl.one re;let⟨f1,f2,f3,f4⟩:=g.f;have k3:=g.r.2.1;have el:=lo.l;let⟨h1,e_h1,F_h1,o_h1⟩:=ao w [vK,.int .i64 12,.int .i64 view,.int .i64 over,.int .i64 1];let⟨h2,e_h2,F_h2,o_h2⟩:=ao F_h1.wf [v];let⟨h3,e_h3,F_h3,o_h3⟩:=ao F_h2.wf [.int .u64 (k:Int),.int .i64 d];have n1:=hnx e_h1;have n2:=hnx e_h2;have F13:=F_h2.then F_h3;have F03:=F_h1.then F13;have o1:=F13.get o_h1;have o2:=F_h3.get o_h2;have y0:∀{h'},Fr [] h3 h'→ak h' h.next 0 5=some [vK,.int .i64 12,.int .i64 view,.int .i64 over,.int .i64 1]:=fun f=>by rw[(f.get o1).ld];rfl
 have y1:∀{h'},Fr [] h3 h'→ak h' h.next 0 2=some [vK,.int .i64 12]:=fun f=>by rw[(f.get o1).ld];rfl
 have y4:∀{h'},Fr [] h3 h'→ag h' h.next 4=some (.int .i64 1):=fun f=>(f.get o1).ld1 4;have yl:∀{h'},Fr [] h3 h'→ak h' h1.next 0 1=some [v]:=fun f=>by rw[(f.get o2).ld];rfl
 have ya:∀{h'},Fr [] h3 h'→ak h' h2.next 0 2=some [.int .u64 (k:Int),.int .i64 d]:=fun f=>by rw[(f.get o_h3).ld];rfl
 have yk:∀{h'},Fr [] h3 h'→ag h' h2.next 0=some (.int .u64 (k:Int)):=fun f=>(f.get o_h3).ld1 0;have r3:Fr [] h3 h3:=Fr.refl F03.wf;refine ab ?_;simp only[evs,seval,←e_h1,←e_h2,←e_h3,y0 r3];refine aa (Ht F03.wf (g.fr F03).rk (g.fr F03).kh oM g.r.1 f1 f2 f3 f4) ?_;rintro _ h4 ⟨rfl,F4⟩;simp only[evs,seval,y1 F4,yl F4];apply aa (BG F4.wf (g.fr (F03.then F4)).rk (g.fr (F03.then F4)).kh (re.fr (F03.then F4)) (lo.fr (F03.then F4)));rintro _ h5 ⟨rfl,F5⟩;have F35:=F4.then F5;simp only[evs,seval,y4 F35];apply aa (zM F5.wf (aT.fr (F03.then F35)) hT hl);rintro _ h6 ⟨rfl,F6⟩;have F36:=F35.then F6;unfold chE;generalize tcE (fun _=>none) 0 Tl=q;let⟨ti,te⟩:=q;simp only[];by_cases zt:te=0;subst zt;rw[if_pos rfl];simp only[evs,seval,ya F36];apply aa (qW F6.wf);rintro _ h7 ⟨rfl,F7⟩;have F37:=F36.then F7;generalize acE k d=ae;by_cases za:ae=0;subst za;rw[if_pos rfl];simp only[evs,seval,yl F37,yk F37];apply aa (DH F7.wf (re.fr (F03.then F37)) (fun e em=>((lo.h e em).1).fr (F03.then F37)) oM ix);rintro _ h8 ⟨rfl,F8⟩;have F38:=F37.then F8;by_cases k0:k=0;rw[if_neg (fun x=>x.1 k0)];cases mk:m k with
 |none=>simp only[evs,seval,fZ,yk F38,decide_eq_true (oM:(k:Int)=0)];exact F03.then F38
 |some z=>simp only[evs,seval,fZ,yk F38,decide_eq_true (oM:(k:Int)=0)];exact F03.then F38
 cases mk:m k with
 |none=>rw[if_pos ⟨k0,rfl⟩];simp only[evs,seval,fZ,yk F38,decide_eq_false (oM:¬(k:Int)=0)];exact F03.then F38
 |some z=>rw[if_neg (fun x=>by cases x.2)];simp only[evs,seval,fZ,yk F38,decide_eq_false (oM:¬(k:Int)=0)];exact F03.then F38
 rw[if_neg za];simp only[evs,seval,eq_false za];exact F03.then F37;rw[if_neg zt];simp only[evs,seval,eq_false zt];exact F03.then F36
end
open Go.Ev.St
set_option maxRecDepth 4000
section
variable {Ks : List Knd} {Y : List (Nat × Int)}
def msE(Ks:List Knd)(Y:List (Nat×Int))(e:Ent):Ent:=⟨e.x,msr Ks Y e.x,true⟩
def rV(Ks:List Knd)(Y:List (Nat×Int))(E:List Ent)(i:Int):List Ent:=match E[i.toNat]? with
 |some e=>E.set i.toNat (msE Ks Y e)
 |none=>E
theorem IZ(E:List Ent)(i:Int):(rV Ks Y E i).map Ent.x=E.map Ent.x:=by unfold rV;split;rename_i e q;rw[List.map_set];apply List.ext_getElem?;intro j;rw[List.getElem?_set];split;rename_i h;subst h;split;simp[q,msE];grind;rfl;rfl
theorem Jn(t:TOk Y)(r:RK Ks){x:Itm}(o:okI x 3=true):1≤msr Ks Y x∧msr Ks Y x≤50:=by unfold msr;split;rename_i p q;exact t.s p (List.mem_of_find?_eq_some q);exact r.base o
theorem LV.step{E:List Ent}(t:TOk Y)(r:RK Ks)(a:LV Ks E)(i:Int):LV Ks (rV Ks Y E i):=by unfold rV;split;rename_i e q;have em:=List.mem_of_getElem? q;refine⟨fun z m=>?_,fun z m k=>?_,fun z m k=>?_,?_⟩;obtain m|rfl:=List.mem_or_eq_of_mem_set m;exact a.o z m;exact a.o e em;obtain m|rfl:=List.mem_or_eq_of_mem_set m;exact a.b z m k;cases k;obtain m|rfl:=List.mem_or_eq_of_mem_set m;exact a.c z m k;exact Jn t r (a.o e em).1;have:=IZ (Ks:=Ks) (Y:=Y) E i;rw[rV,q]at this;have h2:=congrArg (List.map Itm.key) this;rw[List.map_map,List.map_map]at h2;have n:=a.n;unfold jK at n⊢;exact h2▸n;exact a
theorem LV.steps(t:TOk Y)(r:RK Ks)(U:List Int):∀{E:List Ent},LV Ks E→LV Ks (U.foldl (rV Ks Y) E):=by
 induction U with
 |nil=>intro E a;exact a
 |cons i U ih=>intro E a;exact ih (a.step t r i)
end
open Go.Ev.St
set_option maxRecDepth 4000
section
variable {h : Heap} {vZ vK vT : V} {E : List Ent} {Y : List (Nat × Int)} {Ks : List Knd} {view over a d : Int} {m : Nat → Option Nat} {k N : Nat}
structure OL(N:Nat)(h:Heap)(vZ:V)(Ks:List Knd)(E:List Ent):Prop where
 ls:LsO N h vZ E
 it:∀e∈E,ItmH h e.x
 lv:LV Ks E
 n:E.length≤1000
def vbs(v:V):List Nat:=match v with
 |.slice b _ _ _=>[b]
 |_=>[]
theorem OL.fr{h':Heap}{S:List Nat}(o:OL N h vZ Ks E)(f:Fr S h h')(l:∀y∈S,y<N):OL N h' vZ Ks E:=⟨o.ls.keep f l,(o.ls.keep f l).itm o.it,o.lv,o.n⟩
theorem OL.lok(o:OL N h vZ Ks E)(r:RK Ks):LOk Ks h E:=o.lv.lok r o.it o.n
theorem OL.lq(o:OL N h vZ Ks E)(r:RK Ks):LQ h vZ E:=⟨o.ls.rs,o.it,o.n,(o.lok r).okZ,by have:=(o.lok r).sum;omega⟩
theorem OL.put{h':Heap}{b i:Nat}{e z:Ent}(o:OL N h vZ Ks E)(hv:vZ=.slice b 0 E.length E.length)(he:E[i]? =some e)(hx:z.x=e.x)(f:Fr [b] h h')(ow:Own h' b ((E.set i z).flatMap Ent.cells))(lv:LV Ks (E.set i z)):OL N h' vZ Ks (E.set i z):=by
 let⟨ls,it,_,n⟩:=o;obtain⟨rfl,_⟩|⟨b',e',hb,_,cp⟩:=ls;simp at he;rw[hv]at e';obtain rfl:b=b':=by cases e';rfl
 have cp':∀y∈E.set i z,CpO (b+1) h' y.x.vm y.x.marks:=by intro y ym;obtain q|rfl:=List.mem_or_eq_of_mem_set ym;exact(cp y q).fr f iS;rw[hx];exact(cp e (List.mem_of_getElem? he)).fr f iS
 refine⟨.inr ⟨b,by rw[hv,List.length_set],hb,ow,cp'⟩,fun y ym=>?_,lv,by simpa using n⟩;have i0:ItmH h y.x:=by grind
 exact⟨i0.k,i0.t,Sl.a (cp' y ym).rs,i0.n,i0.l⟩
end
open Go.Ev.St
set_option maxRecDepth 4000
section
variable {h0 h : Heap} {v vZ vK vT : V} {E Z : List Ent} {Y : List (Nat × Int)} {Ks : List Knd} {view over a d : Int} {mm : Nat → Option Nat} {m : Int → Int} {k N : Nat}
theorem CpO.nx{h':Heap}{q:Nat}{L:List (List UInt8)}{x y:V}{s:Int}(a:CpO N h v L)(f:Fr [q] h h')(o:Own h q [x,.int .i64 s,y]):CpO N h' v L:=by
 obtain⟨e,rfl|⟨b,rfl,hb,o'⟩⟩|⟨b,e,hb,o'⟩:=a;exact .inl ⟨e,.inl rfl⟩;refine .inl ⟨e,.inr ⟨b,rfl,hb,f.own _ _ ?_ o'⟩⟩;intro m;rw[List.mem_singleton.1 m]at o';have:=o'.uniq o;simp at this;refine .inr ⟨b,e,hb,f.own _ _ ?_ o'⟩;intro m;rw[List.mem_singleton.1 m]at o';have:=o'.uniq o;cases L with
 |nil=>simp at this
 |cons z L=>
  cases L with
  |nil=>simp[sS]at this
  |cons z2 L=>simp[sS]at this
theorem OL.nx{h':Heap}{q:Nat}{x y:V}{s:Int}(a:OL N h vZ Ks E)(f:Fr [q] h h')(o:Own h q [x,.int .i64 s,y])(n:q∉vbs vZ):OL N h' vZ Ks E:=by let⟨ls,it,lv,hn⟩:=a;obtain⟨e,ev⟩|⟨b,rfl,hb,ow,cp⟩:=ls;exact⟨.inl ⟨e,ev⟩,by rw[e];simp,lv,hn⟩;have cp':∀z∈E,CpO (b+1) h' z.x.vm z.x.marks:=fun z zm=>(cp z zm).nx f o;exact⟨.inr ⟨b,rfl,hb,f.own _ _ (fun z=>n (by simp only[vbs,List.mem_singleton]at z⊢;exact z.symm)) ow,cp'⟩,fun z zm=>⟨(it z zm).k,(it z zm).t,Sl.a (cp' z zm).rs,(it z zm).n,(it z zm).l⟩,lv,hn⟩
end
open Go.Ev.St
set_option maxRecDepth 4000
section
variable {h : Heap} {v vK vT : V} {E : List Ent} {Y : List (Nat × Int)} {Ks : List Knd} {view over a d : Int} {mm : Nat → Option Nat} {m : Int → Int} {k : Nat}
theorem OL.le{N M:Nat}{vZ:V}(o:OL N h vZ Ks E)(l:M≤N):OL M h vZ Ks E:=⟨o.ls.le l,o.it,o.lv,o.n⟩
end
open Go.Ev.St
set_option maxRecDepth 4000
def nI(z:V):Prop:=∀k n,z≠V.int k n
def Nf(c:List V):Prop:=(∃z∈c,nI z)∨c.length<66
theorem Nf.no{c:List V}(a:Nf c):∀n m ws,ws.length=64→c≠flc n m ws:=by rintro n m ws hl rfl;obtain⟨z,zm,q⟩|q:=a;simp only[flc,List.mem_cons,List.mem_map]at zm;obtain rfl|rfl|⟨x,_,rfl⟩:=zm;exact q _ _ rfl;exact q _ _ rfl;exact q _ _ rfl;simp[flc,hl]at q
structure FO(h h':Heap):Prop where
 next:h.next≤h'.next
 wf:WF h'
 own:∀q c,Nf c→Own h q c→Own h' q c
 ro:∀q c,Rs h q c→Rs h' q c
section
variable {h h' h0 : Heap} {b : Nat}
theorem FO.of(f:Fr [] h h'):FO h h':=⟨f.next,f.wf,fun _ _ _ o=>f.get o,f.ro⟩
theorem FO.then(a:FO h0 h)(f:Fr [] h h'):FO h0 h':=⟨Nat.le_trans a.next f.next,f.wf,fun q c n o=>f.get (a.own q c n o),fun q c r=>f.ro q c (a.ro q c r)⟩
theorem FO.trans{h1:Heap}(a:FO h0 h)(c:FO h h1):FO h0 h1:=⟨Nat.le_trans a.next c.next,c.wf,fun q x n o=>c.own q x n (a.own q x n o),fun q x r=>c.ro q x (a.ro q x r)⟩
theorem FO.frF(a:FO h0 h)(w:WF h0)(hb:h0.next≤b)(f:FrF b h h'):FO h0 h':=⟨Nat.le_trans a.next f.next,f.wf,fun q c n o=>f.own q c (by have:=o.lt w;omega) n.no (a.own q c n o),fun q c r=>f.ro q c (a.ro q c r)⟩
theorem Sl.fo{e n:Nat}{v:V}{cs:List V}(a:Sl h e v n cs)(f:FO h h')(hv:n=0→v=.nils∨v=.sliceE)(hs:0<n→∃z∈cs,nI z):Sl h' e v n cs:=by
 let⟨hl,a⟩:=a;refine⟨hl,?_⟩;obtain c|c:=Nat.eq_zero_or_pos n;grind;let⟨z,zm,nz⟩:=hs c;cases v with
 |slice b o len cap=>let⟨h1,h2,C,ow,h3,h4⟩:=a;exact⟨h1,h2,C,f.own _ _ (.inl ⟨z,List.mem_of_mem_drop (List.mem_of_mem_take (h4▸zm)),nz⟩) ow,h3,h4⟩
 |sliceU b o len k=>let⟨h1,h2,C,ow,h3,h4⟩:=a;exact⟨h1,h2,C,f.own _ _ (.inl ⟨z,List.mem_of_mem_drop (List.mem_of_mem_take (h4▸zm)),nz⟩) ow,h3,h4⟩
 |_=>exact a
theorem Gs.fo{B e:Nat}{v:V}{cs:List V}(a:Gs h B e v cs)(f:FO h h')(hs:cs≠[]→Nf cs):Gs h' B e v cs:=by obtain x|⟨q,n,h1,h2,h3,h4,o⟩:=a;exact .inl x;refine .inr ⟨q,n,h1,h2,h3,h4,f.own _ _ ?_ o⟩;by_cases c:cs=[];subst c;exact .inr iS;exact hs c
theorem kY{x:Str}{c:List V}(m:V.str x∈c):∃z∈c,nI z:=⟨_,m,fun _ _ e=>by cases e⟩
theorem PH.fo(f:FO h h'):∀{t:PT},PZ t→PH h t→PH h' t
 |.nil,_,_=>trivial
 |.cons k tg ky at' tx va vc sub nx,⟨z1,z2,z3,z4⟩,⟨a,b,c,d,e,g,i⟩=>by
  refine⟨a,Go.Ev.Lay.Sl.fo b f (fun q=>.inl (z1 (List.length_eq_zero_iff.1 q))) (fun q=>?_),c,Go.Ev.Lay.Sl.fo d f (fun q=>.inl (z2 ?_)) (fun q=>?_),e,PH.fo f z3 g,PH.fo f z4 i⟩;cases at' with
  |nil=>simp at q
  |cons s L=>exact kY (x:=s.1) (by simp[pO])
  cases sub with
  |nil=>rfl
  |cons _ _ _ _ _ _ _ _ _=>simp[PT.len]at q
  cases sub with
  |nil=>simp[PT.len]at q
  |cons k' tg' _ _ _ _ _ _ _=>exact kY (x:=tg') (by simp[PT.cells])
theorem ItmG.fo{N:Nat}{x:Itm}(a:ItmG N h x)(f:FO h h'):ItmG N h' x:=⟨a.k,a.t,Go.Ev.Lay.Gs.fo a.g f (fun q=>.inl (by
 cases hm:x.marks with
 |nil=>rw[hm]at q;simp at q
 |cons s L=>exact kY (x:=s) iX)),a.n,a.l⟩
structure DA(N:Nat)(h:Heap)(Ks:List Knd)(vK:V)(X:List Itm)(vE:V)(E:List Ent)(vT:V)(Y:List (Nat×Int)):Prop where
 w:WF h
 rk:Recs Knd.cells 9 h vK Ks
 kh:∀q∈Ks,KndH h q
 r:RK Ks
 gE:Gs h N 6 vE (E.flatMap Ent.cells)
 iE:∀e∈E,ItmG N h e.x
 eo:∀e∈E,EOk Ks X e
 n:(E.map fun e=>e.x.key).Nodup
 l:E.length≤12
 gT:GRecs hc 2 h N vT Y
 t:TOk Y
variable {N : Nat} {vK vE vT : V} {Ks : List Knd} {X : List Itm} {E : List Ent} {Y : List (Nat × Int)}
theorem DA.fo(a:DA N h Ks vK X vE E vT Y)(f:FO h h'):DA N h' Ks vK X vE E vT Y:=by
 have k3:=a.r.2.1;refine⟨f.wf,?_,fun q m=>Go.Ev.Lay.PH.fo f (a.r.2.2 q m).2.1.2 (a.kh q m),a.r,Go.Ev.Lay.Gs.fo a.gE f (fun q=>.inl ?_),fun e m=>Go.Ev.Lay.ItmG.fo (a.iE e m) f,a.eo,a.n,a.l,Go.Ev.Lay.Gs.fo a.gT f (fun _=>.inr ?_),a.t⟩;refine Go.Ev.Lay.Sl.fo a.rk f (fun q=>by omega) (fun _=>?_);cases Ks with
 |nil=>simp at k3
 |cons q L=>exact kY (x:=q.tg) (by simp[Knd.cells,Knd.part])
 cases E with
 |nil=>simp at q
 |cons e L=>exact kY (x:=e.x.text) (by simp[Ent.cells,Itm.ent,Itm.cells])
 rw[aE DR];have:=a.t.l;omega
theorem DA.re(a:DA N h Ks vK X vE E vT Y):Recs Ent.cells 6 h vE E:=Gs.sl a.gE (aE dM E) oM
theorem DA.lok(a:DA N h Ks vK X vE E vT Y):LOk Ks h E:=⟨fun e m=>⟨(a.iE e m).H,rfl,(a.eo e m).o,(a.eo e m).r⟩,fun e m=>(a.eo e m).b,fun e m=>(a.eo e m).c,a.n,by have:=a.l;omega,a.r⟩
theorem DA.sg{view over:Int}(a:DA N h Ks vK X vE E vT Y)(ok:okF view over):SetG h Ks vK Y vT view over:=⟨a.w,a.rk,a.kh,a.r,GRecs.recs DR oM a.gT,a.t,ok⟩
theorem DA.ty(a:DA N h Ks vK X vE E vT Y):∀e∈E,e.x.type<Ks.length:=fun e m=>by have:=(a.eo e m).o;have:=a.r.2.1;simp only[okI,Bool.and_eq_true,decide_eq_true_eq]at *;omega
theorem DA.good(a:DA N h Ks vK X vE E vT Y):Good (zX Ks E):=by have lo:=a.lok;refine⟨by have:=a.l;simp[zX];omega,fun r m=>?_,by rw[v8];have:=lo.sum;omega⟩;obtain⟨e,em,rfl⟩:=List.mem_map.1 m;exact lo.okZ e em
theorem DA.fr(a:DA N h Ks vK X vE E vT Y)(f:Fr [] h h'):DA N h' Ks vK X vE E vT Y:=a.fo (.of f)
end
open Go.Ev.St
set_option maxRecDepth 4000
section
variable {m : Int → Int} {n : Nat}
theorem nA(hm:∀i,0≤i→i<(n:Int)→1≤m i∧m i≤2305843009213693952):∀(A l:List Int)(ks:List Bool)(mo:Bool),l.length=n→(∀i∈A,0≤i∧i<(n:Int))→
 (aU m A l ks mo).1=0∨(aU m A l ks mo).1=13
 |[],_,_,_,_,_=>.inl rfl
 |i::A,l,ks,mo,hl,ha=>by have hi:=ha i iS;have ha':∀i∈A,0≤i∧i<(n:Int):=fun j mj=>ha j (List.mem_cons_of_mem _ mj);have mi:=hm i hi.1 hi.2;rw[aU,if_pos oM];by_cases c2:ks.getD i.toNat false=true;rw[if_pos c2];exact nA hm A l ks mo hl ha';rw[if_neg c2];by_cases c3:cg l i (m i)=0;rw[if_pos c3];exact nA hm A _ _ true (eV hl) ha';rw[if_neg c3];refine .inr ?_;show cg l i (m i)=13;unfold cg at c3⊢;split;omega;omega
theorem SetS.err{bs:List Bool}{view over anchor delta sp:Int}{lo:Bool}{r:Nat}{l l2:List Int}{ks ks2:List Bool}{s k e:Int}(S:SetS m bs view over anchor delta lo sp r l ks s k e l2 ks2):
 (∀i,0≤i→i<(bs.length:Int)→1≤m i∧m i≤2305843009213693952)→bs.length=l.length→ks.length=l.length→(∀x∈l,1≤x)→e=0∨e=13:=by
 induction S with
 |bad a _=>intro hm hl _ _;exact nA hm _ _ _ _ hl.symm (fun i mi=>by have:=tI a hl i mi;omega)
 |done _ _=>intro _ _ _ _;exact .inl rfl
 | @more s r l ks A l' ks' s2 n2 e2 l2 ks2 a q _ ih=>intro hm hl kl hp;have sp:=dR m A l ks false kl hp;rw[q]at sp;simp only[]at sp;exact ih hm oM oM sp.2.2.1
end
section
variable {h h' : Heap} {bl b B a g k : Nat} {v : V} {c1 G c2 : List V}
theorem GpT.frF(p:GpT h b B v c1 G c2 a g k)(f:FrF bl h h')(hb:b≠bl)(hB:B≠bl)(s:∃z∈c1++c2,nI z):GpT h' b B v c1 G c2 a g k:=by let⟨z,zm,nz⟩:=s;refine⟨f.own _ _ hb (Nf.no (.inr iS)) p.ob,?_,p.l1,p.lg,p.l2,p.o1,p.o2,p.ne,p.nb,p.am,p.n6⟩;obtain⟨hl,x|⟨e,o⟩⟩:=p.tb;grind;refine⟨hl,.inr ⟨e,f.own _ _ hB (Nf.no (.inl ⟨z,?_,nz⟩)) o⟩⟩;simp only[List.mem_append]at zm⊢;obtain q|q:=zm;exact .inl (.inl q);exact .inr q
end
open Go.Ev.St
set_option maxRecDepth 4000
def fdT(Tl:List (Nat×Int))(k:Nat):Option Int:=(Tl.find? fun p=>p.1==k).map Prod.snd
def fdV(o:Option Int):V:=match o with|some s=>.tup [.int .i64 s,.bool true]|none=>.tup [.int .i64 0,.bool false]
def mI(Ks:List Knd)(Tl:List (Nat×Int))(x:Itm):Int:=match fdT Tl x.key with|some s=>s|none=>match Ks[x.type]? with|some q=>q.base|none=>1
def mX(Ks:List Knd)(Tl:List (Nat×Int))(X:List Itm)(i:Int):Int:=match X[i.toNat]? with|some x=>mI Ks Tl x|none=>1
section
variable {h : Heap} {vT vK : V} {Tl : List (Nat × Int)} {Ks : List Knd} {X : List Itm} {b bg bm bl B bs bt : Nat}
theorem CO(w:WF h)(a:ARecs htK 2 h vT Tl)(hl:Tl.length≤256){k:Nat}:aj go 41 [vT,.int .u64 (k:Int)] h fun u h'=>u=fdV (fdT Tl k)∧Fr [] h h':=by
 refine ab ?_;simp only[evs,seval,a.len];refine aA (fun n env hh=>Fr [] h hh∧∃i:Nat,env.get 10=some (.int .i64 i)∧env.get 9=some (.int .i64 Tl.length)∧env.get 8=some vT∧env.get 1=some (.int .u64 (k:Int))∧i≤Tl.length∧fdT Tl k=fdT (Tl.drop i) k∧n=Tl.length-i) Tl.length oM ?_ ?_;exact⟨Fr.refl w,0,iS,iS,iS,iS,oM,rfl,rfl⟩;rintro n env hh ⟨F,i,g10,g9,g8,g1,hi,hm,rfl⟩;by_cases c:(i:Int)<Tl.length;let⟨bi,oi,p,e1,_,e3,e4⟩:=(a.fr F).ix (f:=htK) (k:=2) (fun _=>rfl) .i64 (i:Int) oM c;rw[Int.toNat_natCast]at e4;have e3':ak hh bi oi 2=some [.int .u64 (p.1:Int),.int .i64 p.2]:=e3;let⟨h2,e_h2,F_h2,o_h2⟩:=ao F.wf [.int .u64 0,.int .i64 0];simp only[evs,seval,g10,g9,g8,c,e1,e3',←e_h2];refine stu F_h2.wf o_h2 ?_;rintro h3 o3 F3 n3;have F23:Fr [] hh h3:=F_h2.fresh F3 F.wf (Nat.le_refl _);have l0:ag h3 hh.next 0=some (.int .u64 (p.1:Int)):=o3.ld1 0;have l1:ag h3 hh.next 1=some (.int .i64 p.2):=o3.ld1 1;rw[aG e4]at hm;by_cases z:p.1=k;have e:fdT Tl k=some p.2:=by rw[hm];simp[fdT,z]
 rw[e];simp only[evs,seval,g1,l0,l1,eq_true (oM:(p.1:Int)=k)];exact⟨rfl,F.then F23⟩;have e:fdT Tl k=fdT (Tl.drop (i+1)) k:=by rw[hm];simp[fdT,z]
 simp(disch:=omega) only[evs,seval,ah,g10,g1,l0,eq_false (oM:¬(p.1:Int)=k)];refine rqn ⟨Tl.length-(i+1),oM,F.then F23,i+1,iS,iX,iX,iX,oM,e,rfl⟩;obtain rfl:i=Tl.length:=oM;rw[List.drop_length]at hm;rw[hm];simp only[evs,seval,g10,g9,c];exact⟨rfl,F⟩
theorem JC{cap:Int}{n a g m:Nat}{v:V}{c1 G c2:List V}(w:WF h)(ob:Own h b [vK,.int .i64 cap,.ptr bg 0,.ptr bm 0,.ptr bl 0])(gp:GpT h bg B v c1 G c2 a g m)(ec:c1++c2=X.flatMap Itm.cells)(en:X.length=a+m)(vs:∀x∈X,x.vm.one=true)
 (rk:Recs Knd.cells 9 h vK Ks) (ty:∀x∈X,x.type<Ks.length) (hk:Ks.length≤256) (aT:ARecs htK 2 h vT Tl) (hl:Tl.length≤256) (os:Own h bs [.ptr b 0]) (ot:Own h bt [vT]) (hn:n<X.length):
 aj go 39 ([.int .i64 (n:Int)]++[.ptr bs 0,.ptr bt 0]) h fun u h'=>u=.int .i64 (mX Ks Tl X n)∧Fr [] h h':=by
 obtain⟨x,hx⟩:∃x,X[n]? =some x:=⟨X[n],List.getElem?_eq_getElem hn⟩;have xm:=List.mem_of_getElem? hx;have tx:=ty x xm;have v1:=vs x xm;have ls:ag h bs 0=some (.ptr b 0):=os.ld1 0;have lb:ag h b 2=some (.ptr bg 0):=ob.ld1 2;show aj go 39 [.int .i64 (n:Int),.ptr bs 0,.ptr bt 0] h _;refine ab ?_;simp only[evs,seval,ls,lb];refine aa (D3 w gp (i:=n) oM) ?_;rintro _ h1 ⟨F1,rfl⟩;rw[ec,yG hx];let⟨h2,e_h2,F_h2,o_h2⟩:=ao F1.wf [.int .u64 0,.int .u8 0,.str [],.nils];have n1:=F1.next;simp only[evs,seval,←e_h2];refine ai (c':=x.cells) F_h2.wf o_h2 rfl (by show av [_,_,_,_]=true;simp only[aB,aF,v1];rfl) rfl ?_;rintro h3 o3 F3 n3;have F13:Fr [] h1 h3:=F_h2.fresh F3 F1.wf (Nat.le_refl _);have F03:=F1.then F13;have lt:∀{H},Fr [] h H→ag H bt 0=some vT:=fun f=>(f.get ot).ld1 0;have l0:ag h3 h1.next 0=some (.int .u64 (x.key:Int)):=o3.ld1 0;simp only[evs,seval,lt F03,l0];apply aa (CO F3.wf (aT.fr F03) hl);rintro _ h4 ⟨rfl,F4⟩;have F04:=F03.then F4;have em:mX Ks Tl X n=mI Ks Tl x:=by rw[mX,Int.toNat_natCast,hx]
 rw[em];unfold mI;cases q:fdT Tl x.key with
 |some s=>simp only[evs,seval,fdV];exact F04
 |none=>let⟨bk,ok',kd,k1',k2,_,k4⟩:=(Recs.fr rk F04).ix dy .u8 (x.type:Int) oM oM;rw[Int.toNat_natCast]at k4;have l6:ag h4 bk (ok'+6)=some (.int .i64 kd.base):=k2 6 oM;have ls4:ag h4 bs 0=some (.ptr b 0):=(F04.get os).ld1 0;have lb4:ag h4 b 0=some vK:=(F04.get ob).ld1 0;have lx:ag h4 h1.next 1=some (.int .u8 (x.type:Int)):=(F4.get o3).ld1 1;simp only[evs,seval,DF,eff,fdV,ls4,lb4,lx,k1',l6];rw[k4];exact⟨rfl,F04⟩
end
open Go.Ev.St
set_option maxRecDepth 4000
section
variable {h h' : Heap} {bl q : Nat} {x y z : V} {c : List V}
theorem FrF.keep(f:FrF bl h h')(ol:Own h bl [x,y,z])(nf:Nf c)(l3:c.length≠3)(o:Own h q c):Own h' q c:=
 f.own q c (by rintro rfl;have:=o.uniq ol;subst this;exact l3 rfl) nf.no o
theorem BH{vK:V}{Ks:List Knd}(f:FrF bl h h')(ol:Own h bl [x,y,z])(rk:Recs Knd.cells 9 h vK Ks)(k3:Ks≠[]):Recs Knd.cells 9 h' vK Ks:=by
 let⟨hl,a⟩:=rk;have ln:(Ks.flatMap Knd.cells).length=Ks.length*9:=aE dy Ks;obtain⟨s,sm,ns⟩:∃s∈Ks.flatMap Knd.cells,nI s:=by
  cases Ks with
  |nil=>exact absurd rfl k3
  |cons q L=>exact kY (x:=q.tg) (by simp[Knd.cells,Knd.part])
 have kp:0<Ks.length:=List.length_pos_iff.2 k3;refine⟨hl,?_⟩;cases vK with
 |slice b o len cap=>let⟨h1,h2,C,ow,h3,h4⟩:=a;refine⟨h1,h2,C,f.keep ol (.inl ⟨s,List.mem_of_mem_drop (List.mem_of_mem_take (h4▸sm)),ns⟩) (fun e=>?_) ow,h3,h4⟩;have:=congrArg List.length h4;rw[ln,List.length_take,List.length_drop]at this;omega
 |sliceU b o len k=>let⟨h1,h2,C,ow,h3,h4⟩:=a;refine⟨h1,h2,C,f.keep ol (.inl ⟨s,List.mem_of_mem_drop (List.mem_of_mem_take (h4▸sm)),ns⟩) (fun e=>?_) ow,h3,h4⟩;have:=congrArg List.length h4;rw[ln,List.length_take,List.length_drop]at this;omega
 |_=>exact a
end
section
variable {n0 : NL} {h : Heap} {b bg B bm S bl : Nat} {Ks : List Knd} {cap : Int} {X : List Itm} {l : List Int} {kn st : List Bool} {vK vT : V} {pm : Option Nat} {mc : dX} {Tl : List (Nat × Int)} {k : Nat} {d view over : Int} {lo : Bool}
theorem Kj(hT:(tcE (fun _=>none) 0 Tl).2=0)(hb:∀q∈Ks,1≤q.base∧q.base≤2305843009213693952)(x:Itm):1≤mI Ks Tl x∧mI Ks Tl x≤2305843009213693952:=by
 unfold mI fdT;cases e:Tl.find? (fun p=>p.1==x.key)with
 |some p=>exact CL Tl _ _ hT p (List.mem_of_find?_eq_some e)
 |none=>
  show 1≤(match Ks[x.type]? with|some q=>q.base|none=>1)∧(match Ks[x.type]? with|some q=>q.base|none=>1)≤2305843009213693952
  split;grind;omega
theorem Iy(hT:(tcE (fun _=>none) 0 Tl).2=0)(hb:∀q∈Ks,1≤q.base∧q.base≤2305843009213693952)(i:Int):1≤mX Ks Tl X i∧mX Ks Tl X i≤2305843009213693952:=by unfold mX;split;exact Kj hT hb _;omega
structure FT(h h':Heap):Prop where
 own:∀q c,Nf c→c.length≠3→Own h q c→Own h' q c
 ro:∀q c,Rs h q c→Rs h' q c
theorem FT.of{h h':Heap}(f:Fr [] h h'):FT h h':=⟨fun _ _ _ _ o=>f.get o,f.ro⟩
theorem FT.fo{h h':Heap}(f:FO h h'):FT h h':=⟨fun q c n _ o=>f.own q c n o,f.ro⟩
theorem FT.frF{h h':Heap}{bl:Nat}{x y z:V}(f:FrF bl h h')(ol:Own h bl [x,y,z]):FT h h':=⟨fun _ _ n l o=>f.keep ol n l o,f.ro⟩
def TR(h:Heap)(vT:V)(Tl:List (Nat×Int)):Prop:=∀h',FT h h'→Glb h'→ARecs htK 2 h' vT Tl
theorem TR.ft{h':Heap}(a:TR h vT Tl)(f:FT h h'):TR h' vT Tl:=fun h2 g=>a h2 ⟨fun q c n l o=>g.own q c n l (f.own q c n l o),fun q c r=>g.ro q c (f.ro q c r)⟩
theorem TR.a(a:TR h vT Tl)(g:Glb h):ARecs htK 2 h vT Tl:=a h ⟨fun _ _ _ _ o=>o,fun _ _ r=>r⟩ g
def xC(m:Nat→Option Nat)(k:Nat):Int:=if k=0 then-1 else match m k with|some j=>(j:Nat)|none=>-1
theorem Hh{bs bt:Nat}{anc:Int}(w:WF h)(gl:Glb h)(s:Sto n0 h b Ks cap X l kn st vK bg B bm S bl pm mc)(pos:∀x∈l,1≤x)(hb:∀q∈Ks,1≤q.base∧q.base≤2305843009213693952)(ty:∀x∈X,x.type<Ks.length)(hk:Ks.length≤256)(k3:Ks≠[])
 (vo:∀x∈X,x.vm.one=true) (sl:st.length=l.length) (aT:TR h vT Tl) (hl:Tl.length≤256) (zt:(tcE (fun _=>none) 0 Tl).2=0) (ok:okF view over) (os:Own h bs [.ptr b 0]) (ot:Own h bt [vT]) (an:-1≤anc∧anc<l.length) (dd:0≤d∧d≤2305843009213693952):
 aj go 38 [.ptr bl 0,.agg [.int .i64 view,.int .i64 over,.bool lo],.int .i64 anc,.int .i64 d,.func (.func 39) [] [.ptr bs 0,.ptr bt 0]] h fun u h'=>∃p n e l' ks',u=.tup [.int .i64 p,.int .i64 n,.int .i64 e]∧
  SetS (mX Ks Tl X) st view over anc d lo 0 0 l kn p n e l' ks'∧(if e=0 then Lo h' bl l' ks' st else Lo h' bl l kn st)∧FrL bl h h':=by
 let⟨v,c1,G,c2,a,g,m,gp,ec,en⟩:=s.g;have lo':=s.lo;let⟨p0,vk0,ol,_⟩:=lo';have rd:=s.rd [] h iS (Fr.refl w);have len:=s.len;have z:0≠bl:=by rintro rfl;have:=congrArg List.length (gl.own.uniq ol);have:fm.length=3:=this;exact absurd this dI
 refine Ct (N:=39) (m:=mX Ks Tl X) w gl s.lo.lo pos ?_ oM ?_ (fun i=>by have:=Iy (X:=X) zt hb i;omega);unfold uz;rw[if_neg iX,if_neg oM];intro h' f i i0 i1;obtain⟨n,rfl⟩:∃n:Nat,i=n:=⟨i.toNat,oM⟩;refine JC f.wf (f.keep ol (.inr iS) iS s.ob) (gp.frF f s.d.g3 s.d.t3 ?_) ec.symm en vo (BH f ol rd.1 k3) ty hk ((aT.ft (.frF f ol)).a (gl.frF f z)) hl (f.keep ol (.inr iS) iS os) (f.keep ol (.inr iS) iS ot) oM;rw[←ec];cases X with
 |nil=>rw[List.length_nil]at len;omega
 |cons x L=>exact kY (x:=x.text) (by simp[Itm.cells])
theorem yh(w:WF h)(gl:Glb h)(s:Sto n0 h b Ks cap X l kn st vK bg B bm S bl pm mc)(pos:∀x∈l,1≤x)(hb:∀q∈Ks,1≤q.base∧q.base≤2305843009213693952)(ty:∀x∈X,x.type<Ks.length)(hk:Ks.length≤256)(k3:Ks≠[])
 (vo:∀x∈X,x.vm.one=true) (hm:∀k j,mc.1 k=some j→j<X.length) (sl:st.length=l.length) (aR:TR h vT Tl) (hT:H64 Tl) (hl:Tl.length≤256) (kk:k<18446744073709551616):
 aj go 8 [.ptr b 0,.agg [.int .i64 view,.int .i64 over,.bool lo],vA k d,vT] h fun u h'=>∃p n e,u=.tup [.int .i64 p,.int .i64 n,.int .i64 e]∧
  (¬okF view over→e=1∧Fr [] h h')∧(okF view over→chE mc.1 k d Tl≠0→e=chE mc.1 k d Tl∧Fr [] h h')∧
  (okF view over→chE mc.1 k d Tl=0→∃l' ks',SetS (mX Ks Tl X) st view over (xC mc.1 k) d lo 0 0 l kn p n e l' ks'∧(if e=0 then Lo h' bl l' ks' st else Lo h' bl l kn st)∧FrL bl h h'):=by
 have aT:=aR.a gl;have vt:=aT.one;let⟨h1,e_h1,F_h1,o_h1⟩:=ao w [.ptr b 0];let⟨h2,e_h2,F_h2,o_h2⟩:=ao F_h1.wf [.int .i64 view,.int .i64 over,.bool lo];let⟨h3,e_h3,F_h3,o_h3⟩:=ao F_h2.wf [.int .u64 (k:Int),.int .i64 d];let⟨h4,e_h4,F_h4,o_h4⟩:=ao F_h3.wf [vT];have n1:=hnx e_h1;have n2:=hnx e_h2;have n3:=hnx e_h3;have F34:=F_h4;have F24:=F_h3.then F34;have F14:=F_h2.then F24;have F04:=F_h1.then F14;have o4:=F14.get o_h1;have o5:=F24.get o_h2;have o6:=F34.get o_h3;have s4:∀{H},Fr [] h4 H→ag H h.next 0=some (.ptr b 0):=fun f=>(f.get o4).ld1 0;have sf:∀{H},Fr [] h4 H→ak H h1.next 0 3=some [.int .i64 view,.int .i64 over,.bool lo]:=fun f=>by rw[(f.get o5).ld];rfl
 have sa:∀{H},Fr [] h4 H→ak H h2.next 0 2=some [.int .u64 (k:Int),.int .i64 d]:=fun f=>by rw[(f.get o6).ld];rfl
 have sk:∀{H},Fr [] h4 H→ag H h2.next 0=some (.int .u64 (k:Int)):=fun f=>(f.get o6).ld1 0;have sd:∀{H},Fr [] h4 H→ag H h2.next 1=some (.int .i64 d):=fun f=>(f.get o6).ld1 1;have stt:∀{H},Fr [] h4 H→ag H h3.next 0=some vT:=fun f=>(f.get o_h4).ld1 0;have lbl:∀{H},Fr [] h H→ag H b 4=some (.ptr bl 0):=fun f=>(f.get s.ob).ld1 4;have lbm:∀{H},Fr [] h H→ag H b 3=some (.ptr bm 0):=fun f=>(f.get s.ob).ld1 3;have r4:Fr [] h4 h4:=Fr.refl F04.wf;have q4:=s.fr w F04;refine ab ?_;simp only[evs,seval,←e_h1,←e_h2,←e_h3,←e_h4,az vt,s4 r4];refine aa (pu q4) ?_;rintro _ _ ⟨rfl,rfl⟩;simp only[evs,seval,eff,s4 r4,lbl F04,sf r4];apply aa (nY F04.wf q4.lo.lo);rintro _ h5 ⟨rfl,F5⟩;have F05:=F04.then F5;by_cases ok:okF view over;rw[if_pos ok];simp only[evs,seval,DF,eff,s4 r4,lbl F04,sf r4,stt F5];apply aa (zM F5.wf (aT.fr F05) hT hl);rintro _ h6 ⟨rfl,F6⟩;have F46:=F5.then F6;have F06:=F04.then F46;by_cases zt:(tcE (fun _=>none) 0 Tl).2=0;simp only[evs,seval,zt,sa F46];apply aa (qW F6.wf);rintro _ h7 ⟨rfl,F7⟩;have F47:=F46.then F7;have F07:=F04.then F47;by_cases za:acE k d=0;have zc:chE mc.1 k d Tl=if k≠0∧mc.1 k=none then 11 else 0:=by unfold chE;rw[if_pos zt,if_pos za]
 have dd:0≤d∧d≤2305843009213693952:=by unfold acE at za;by_cases c:d<0∨2305843009213693952<d∨(k=0∧0<d);omega;omega
 have len:=s.len;have fin:∀H,Fr [] h4 H→¬(k≠0∧mc.1 k=none)→aj go 38 [.ptr bl 0,.agg [.int .i64 view,.int .i64 over,.bool lo],.int .i64 (xC mc.1 k),.int .i64 d,.func (.func 39) [] [.ptr h.next 0,.ptr h3.next 0]] H fun u h'=>∃p n e l' ks',u=.tup [.int .i64 p,.int .i64 n,.int .i64 e]∧
  SetS (mX Ks Tl X) st view over (xC mc.1 k) d lo 0 0 l kn p n e l' ks'∧(if e=0 then Lo h' bl l' ks' st else Lo h' bl l kn st)∧FrL bl H h':=by
  intro H f nn;have f0:=F04.then f;refine Hh f.wf (gl.fr f0) (s.fr w f0) pos hb ty hk k3 vo sl (aR.ft (.of f0)) hl zt ok (f.get o4) (f.get o_h4) ?_ dd;unfold xC;by_cases k0:k=0;omega;grind
 by_cases k0:k=0;have nn:¬(k≠0∧mc.1 k=none):=fun x=>x.1 k0;have ea:xC mc.1 k=-1:=by unfold xC;rw[if_pos k0]
 have fin7:=fin h7 F47 nn;rw[ea]at fin7⊢;simp only[evs,seval,eff,za,sk F47,eq_true (oM:(k:Int)=0),s4 F47,lbl F07,sf F47,sd F47];apply aa fin7;rintro _ h9 ⟨p,n,e,l',ks',rfl,S9,L9,F9⟩;simp only[evs,seval,DF,eff,s4 F47,lbl F07,sf F47,sd F47];exact⟨_,_,_,rfl,fun x=>absurd ok x,fun _ x=>absurd (zc.trans (if_neg nn)) x,fun _ _=>⟨l',ks',S9,L9,(frL F07).trans F9⟩⟩;simp only[evs,seval,eff,za,sk F47,eq_false (oM:¬(k:Int)=0),s4 F47,lbm F07];apply aa (pw F7.wf (q4.k.fr F47) kk);rintro _ h8 ⟨rfl,F8⟩;have F48:=F47.then F8;have F08:=F04.then F48;cases mk:mc.1 k with
 |none=>simp only[evs,seval,DF,eff,fZ,s4 F47,lbm F07,sk F47];refine⟨_,_,_,rfl,fun x=>absurd ok x,fun _ _=>⟨(zc.trans (if_pos ⟨k0,mk⟩)).symm,F08⟩,fun _ x=>absurd ((zc.trans (if_pos ⟨k0,mk⟩)).symm.trans x) dI⟩
 |some j=>
  have nn:¬(k≠0∧mc.1 k=none):=fun x=>by rw[mk]at x;cases x.2
  have ea:xC mc.1 k=(j:Nat):=by unfold xC;rw[if_neg k0,mk]
  have fin8:=fin h8 F48 nn;rw[ea]at fin8⊢;simp only[evs,seval,DF,eff,fZ,s4 F47,lbm F07,sk F47,s4 F48,lbl F08,sf F48,sd F48];apply aa fin8;rintro _ h9 ⟨p,n,e,l',ks',rfl,S9,L9,F9⟩;simp only[evs,seval,DF,eff,s4 F48,lbl F08,sf F48,sd F48];exact⟨_,_,_,rfl,fun x=>absurd ok x,fun _ x=>absurd (zc.trans (if_neg nn)) x,fun _ _=>⟨l',ks',S9,L9,(frL F08).trans F9⟩⟩
 have zc:chE mc.1 k d Tl=acE k d:=by unfold chE;rw[if_pos zt,if_neg za]
 simp only[evs,seval,eq_false za];refine⟨_,_,_,rfl,fun x=>absurd ok x,fun _ _=>⟨zc.symm,F07⟩,fun _ x=>absurd (zc.symm.trans x) za⟩;have zc:chE mc.1 k d Tl=(tcE (fun _=>none) 0 Tl).2:=by unfold chE;rw[if_neg zt]
 simp only[evs,seval,eq_false zt];refine⟨_,_,_,rfl,fun x=>absurd ok x,fun _ _=>⟨zc.symm,F06⟩,fun _ x=>absurd (zc.symm.trans x) zt⟩;rw[if_neg ok];simp only[evs,seval,DF,eff,s4 r4,lbl F04,sf r4];exact⟨_,_,_,rfl,fun _=>⟨rfl,F05⟩,fun x=>absurd x ok,fun x=>absurd x ok⟩
end
open Go.Ev.St
set_option maxRecDepth 4000
def NoS(h:Heap)(v:V):Prop:=v=.nilp∨∃b,v=.ptr b 0∧Own h b [.nils,.int .i64 0,.nilp,.nilp,.nilp]
section
variable {h h' : Heap} {v : V}
theorem NoS.fr(a:NoS h v)(f:Fr [] h h'):NoS h' v:=a.imp id fun⟨b,e,o⟩=>⟨b,e,f.get o⟩
theorem NoS.one(a:NoS h v):v.one=true:=by obtain rfl|⟨b,rfl,_⟩:=a<;>rfl
theorem gU(a:NoS h v):aj go 33 [v] h fun u h'=>u=.bool true∧h=h':=by obtain rfl|⟨b,rfl,o⟩:=a;refine ab ?_;simp only[evs,seval];have l2:ag h b 2=some .nilp:=o.ld1 2;refine ab ?_;simp only[evs,seval,l2]
theorem Iw(a:NoS h v):aj go 21 [v] h fun u h'=>u=.int .i64 0∧h=h':=by refine ab ?_;simp only[evs,seval];refine aa (gU a) ?_;rintro _ _ ⟨rfl,rfl⟩;simp only[evs,seval]
theorem Dr(w:WF h)(a:NoS h v){i:Int}:aj go 12 [v,.int .i64 i] h fun u h'=>u=.tup [.agg [.int .u64 0,.int .u8 0,.str [],.nils],.int .i64 2]∧Fr [] h h':=by
 let⟨h1,e_h1,F_h1,o_h1⟩:=ao w [.int .u64 0,.int .u8 0,.str [],.nils];refine ab ?_;simp only[evs,seval,←e_h1];refine aa (gU (a.fr F_h1)) ?_;rintro _ _ ⟨rfl,rfl⟩;simp only[evs,seval];apply stu F_h1.wf o_h1;rintro h2 o2 F2 n2;have l2:ak h2 h.next 0 4=some [.int .u64 0,.int .u8 0,.str [],.nils]:=by rw[o2.ld];rfl
 simp only[evs,seval,l2];exact F_h1.fresh F2 w (Nat.le_refl _)
theorem Jf(w:WF h)(a:NoS h v){i:Int}:aj go 13 [v,.int .i64 i] h fun u h'=>u=.tup [.agg [.int .u8 0,.str [],.str [],.nils,.str [],.nils],.int .i64 2]∧Fr [] h h':=by
 let⟨h1,e_h1,F_h1,o_h1⟩:=ao w [.int .u8 0,.str [],.str [],.nils,.str [],.nils];have n1:=hnx e_h1;refine ab ?_;simp only[evs,seval,←e_h1];refine aa (Dr F_h1.wf (a.fr F_h1)) ?_;rintro _ h2 ⟨rfl,F2⟩;have n2:=F2.next;let⟨h3,e_h3,F_h3,o_h3⟩:=ao F2.wf [.int .u64 0,.int .u8 0,.str [],.nils];simp only[evs,seval,←e_h3];apply stu F_h3.wf o_h3;rintro h4 o4 F4 n4;have F24:Fr [] h2 h4:=F_h3.fresh F4 F2.wf (Nat.le_refl _);simp only[evs,seval];apply stu F4.wf ((F2.then F24).get o_h1);rintro h5 o5 F5 n5;have l5:ak h5 h.next 0 6=some [.int .u8 0,.str [],.str [],.nils,.str [],.nils]:=by rw[o5.ld];rfl
 simp only[evs,seval,l5];exact(F_h1.then (F2.then F24)).fresh F5 w (Nat.le_refl _)
theorem Ke(w:WF h)(a:NoS h v):aj go 14 [v,.nils] h fun u h'=>u=.tup [.int .i64 0,.int .i64 2]∧Fr [] h h':=by refine ab ?_;simp only[evs,seval];refine aa (gU a) ?_;rintro _ _ ⟨rfl,rfl⟩;simp only[evs,seval];exact Fr.refl w
theorem Jg(w:WF h)(a:NoS h v):aj go 15 [v,.nils] h fun u h'=>u=.tup [.int .i64 0,.int .i64 2]∧Fr [] h h':=by refine ab ?_;simp only[evs,seval];refine aa (gU a) ?_;rintro _ _ ⟨rfl,rfl⟩;simp only[evs,seval];exact Fr.refl w
theorem Ds(w:WF h)(a:NoS h v){i:Int}:aj go 16 [v,.int .i64 i] h fun u h'=>u=.tup [.agg [.int .u64 0,.int .i64 0],.int .i64 2]∧Fr [] h h':=by
 let⟨h1,e_h1,F_h1,o_h1⟩:=ao w [.int .u64 0,.int .i64 0];refine ab ?_;simp only[evs,seval,←e_h1];refine aa (gU (a.fr F_h1)) ?_;rintro _ _ ⟨rfl,rfl⟩;simp only[evs,seval];apply stu F_h1.wf o_h1;rintro h2 o2 F2 n2;have l2:ak h2 h.next 0 2=some [.int .u64 0,.int .i64 0]:=by rw[o2.ld];rfl
 simp only[evs,seval,l2];exact F_h1.fresh F2 w (Nat.le_refl _)
theorem Dp(w:WF h)(a:NoS h v){view over k d:Int}{lo:Bool}{vT:V}(vt:vT.one=true):aj go 8 [v,.agg [.int .i64 view,.int .i64 over,.bool lo],.agg [.int .u64 k,.int .i64 d],vT] h fun u h'=>u=.tup [.int .i64 0,.int .i64 0,.int .i64 2]∧Fr [] h h':=by have va:=a.one;let⟨h1,e_h1,F_h1,o_h1⟩:=ao w [v];let⟨h2,e_h2,F_h2,o_h2⟩:=ao F_h1.wf [.int .i64 view,.int .i64 over,.bool lo];let⟨h3,e_h3,F_h3,o_h3⟩:=ao F_h2.wf [.int .u64 k,.int .i64 d];let⟨h4,e_h4,F_h4,o_h4⟩:=ao F_h3.wf [vT];have F04:=F_h1.then (F_h2.then (F_h3.then F_h4));have s4:ag h4 h.next 0=some v:=((F_h2.then (F_h3.then F_h4)).get o_h1).ld1 0;refine ab ?_;simp only[evs,seval,←e_h1,←e_h2,←e_h3,←e_h4,az vt,az va,s4];refine aa (gU (a.fr F04)) ?_;rintro _ _ ⟨rfl,rfl⟩;simp only[evs,seval];exact F04
theorem Ji(w:WF h)(a:NoS h v){k:Int}:aj go 17 [v,.int .u64 k] h fun u h'=>u=.tup [.int .i64 0,.bool false]∧Fr [] h h':=by refine ab ?_;simp only[evs,seval];refine aa (gU a) ?_;rintro _ _ ⟨rfl,rfl⟩;simp only[evs,seval];exact Fr.refl w
theorem GX(w:WF h)(a:NoS h v):aj go 18 [v,.agg [.int .u8 0,.int .i64 0,.int .i64 0,.int .i64 0,.nils]] h fun u h'=>u=.int .i64 2∧Fr [] h h':=by let⟨h1,e_h1,F_h1,o_h1⟩:=ao w [.int .u8 0,.int .i64 0,.int .i64 0,.int .i64 0,.nils];refine ab ?_;simp only[evs,seval,←e_h1];refine aa (gU (a.fr F_h1)) ?_;rintro _ _ ⟨rfl,rfl⟩;simp only[evs,seval];exact F_h1
theorem Jj(w:WF h)(a:NoS h v):aj go 19 [v] h fun u h'=>u=.nilp∧Fr [] h h':=by refine ab ?_;simp only[evs,seval];refine aa (gU a) ?_;rintro _ _ ⟨rfl,rfl⟩;simp only[evs,seval];exact Fr.refl w
theorem Dq(w:WF h)(a:NoS h v):aj go 20 [v] h fun u h'=>u=.nilp∧Fr [] h h':=by refine ab ?_;simp only[evs,seval];refine aa (gU a) ?_;rintro _ _ ⟨rfl,rfl⟩;simp only[evs,seval];exact Fr.refl w
theorem Jh(w:WF h)(a:NoS h v):aj go 22 [v] h fun u h'=>u=.agg [.nils]∧Fr [] h h':=by
 let⟨h1,e_h1,F_h1,o_h1⟩:=ao w [.nils];let⟨h2,e_h2,F_h2,o_h2⟩:=ao F_h1.wf [.nils];have n1:=hnx e_h1;refine ab ?_;simp only[evs,seval,←e_h1,←e_h2];refine ai (v:=.agg [.nils]) (c':=[.nils]) F_h2.wf o_h2 rfl rfl rfl ?_;rintro h3 o3 F3 n3;have F13:Fr [] h1 h3:=F_h2.fresh F3 F_h1.wf (Nat.le_refl _);simp only[evs,seval];apply aa (Iw (a.fr (F_h1.then F13)));rintro _ _ ⟨rfl,rfl⟩;have l3:ak h3 h1.next 0 1=some [.nils]:=by rw[o3.ld];rfl
 simp only[evs,seval,l3];apply ai (v:=.agg [.nils]) (c':=[.nils]) F3.wf (F13.get o_h1) rfl rfl rfl;rintro h4 o4 F4 n4;have l4:ak h4 h.next 0 1=some [.nils]:=by rw[o4.ld];rfl
 simp only[evs,seval,l4];exact(F_h1.then F13).fresh F4 w (Nat.le_refl _)
end
open Go.Ev.St
set_option maxRecDepth 4000
section
variable {h h' : Heap} {view over : Int}
theorem J9:aj go 9 [.int .i64 view,.int .i64 over] h fun u h'=>u=.bool (decide (okF view over))∧h=h':=by by_cases c1:1≤view;by_cases c2:view≤2147483648;by_cases c3:0≤over;by_cases c4:over≤16;have e:decide (okF view over)=true:=decide_eq_true ⟨c1,c2,c3,c4⟩;rw[e];refine ab ?_;simp only[evs,seval,decide_eq_true c1,decide_eq_true c2,decide_eq_true c3,decide_eq_true c4];have e:decide (okF view over)=false:=decide_eq_false fun x=>c4 x.2.2.2;rw[e];refine ab ?_;simp only[evs,seval,decide_eq_true c1,decide_eq_true c2,decide_eq_true c3,decide_eq_false c4];have e:decide (okF view over)=false:=decide_eq_false fun x=>c3 x.2.2.1;rw[e];refine ab ?_;simp only[evs,seval,decide_eq_true c1,decide_eq_true c2,decide_eq_false c3];have e:decide (okF view over)=false:=decide_eq_false fun x=>c2 x.2.1;rw[e];refine ab ?_;simp only[evs,seval,decide_eq_true c1,decide_eq_false c2];have e:decide (okF view over)=false:=decide_eq_false fun x=>c1 x.1;rw[e];refine ab ?_;simp only[evs,seval,decide_eq_false c1]
theorem Bx{vK:V}{Ks:List Knd}(w:WF h)(rk:Recs Knd.cells 9 h vK Ks)(kh:∀q∈Ks,KndH h q)(hk:Ks.length≤4096)(bad:okR Ks 0=false):
 aj go 11 [.agg [vK,.int .i64 0]] h fun u h'=>u=.tup [.nilp,.int .i64 7]∧Fr [] h h':=by
 have k1:vK.one=true:=Sl.one rk;let⟨h1,e_h1,F_h1,o_h1⟩:=ao w [vK,.int .i64 0];have l0:ak h1 h.next 0 2=some [vK,.int .i64 0]:=by rw[o_h1.ld];rfl
 refine ab ?_;simp only[evs,seval,←e_h1,l0];refine aa (iI F_h1.wf (Recs.fr rk F_h1) (fun q m=>(kh q m).fr F_h1) hk) ?_;rintro _ h2 ⟨rfl,F2⟩;rw[bad];simp only[evs,seval];exact F_h1.then F2
theorem Dn{Ks:List Knd}:okR Ks 0=false:=by unfold okR;simp
end
open Go.Ev.St
set_option maxRecDepth 4000
theorem Ai{h:Heap}(g:Glb h):aj go 5 [] h fun u h'=>u=.bool true∧h=h':=
 ⟨.bool true,h,KO GU rfl (by unfold lov;rw[if_pos ⟨rfl,rfl,g⟩]),rfl,rfl⟩
theorem FO.step{h0 h h':Heap}{p:Nat}(a:FO h0 h)(w:WF h0)(hp:h0.next≤p)(f:Fr [p] h h'):FO h0 h':=
 ⟨Nat.le_trans a.next f.next,f.wf,fun q c n o=>f.own q c (by have:=o.lt w;simp;omega) (a.own q c n o),fun q c r=>f.ro q c (a.ro q c r)⟩
section
variable {h h0 : Heap} {env : T V} {p4 p7 : Nat} {view over k d : Int} {lo : Bool} {vT : V}
theorem JA{R:V→Heap→Prop}(K:∀h',(∀q c,Rs h q c→Rs h' q c)→Glb h'→R (.bool true) h')(w:WF h)(gl:Glb h)(o4:Own h p4 [.int .i64 view,.int .i64 over,.bool lo,.int .u64 k,.int .i64 d])(vt:vT.one=true)(g2:env.get 2=some vT)(g4:env.get 4=some (.ptr p4 0)):
 W go erL env h (iC [.t 6] R):=by
 let⟨h1,e_h1,F_h1,o_h1⟩:=ao w [.nils,.int .i64 0,.nilp,.nilp,.nilp];let⟨h2,e_h2,F_h2,o_h2⟩:=ao F_h1.wf [.nilp,.ptr h.next 0];have n1:=hnx e_h1;have n2:=hnx e_h2;have F02:=F_h1.then F_h2;simp only[evs,seval,erL,←e_h1,←e_h2];refine aA (fun n env hh=>Fr [] h2 hh∧∃i:Nat,env.get 115=some (.int .i64 i)∧env.get 114=some (.int .i64 2)∧env.get 113=some (.slice h1.next 0 2 2)∧env.get 2=some vT∧env.get 4=some (.ptr p4 0)∧i≤2∧n=2-i) 2 oM ?_ ?_;exact⟨Fr.refl F02.wf,0,iS,iS,iS,iX,iX,oM,rfl⟩;clear g2 g4;rintro n env hh ⟨F,i,g115,g114,g113,g2,g4,hi,rfl⟩;have o113:Own hh h1.next [.nilp,.ptr h.next 0]:=F.get o_h2;have oz:Own hh h.next [.nils,.int .i64 0,.nilp,.nilp,.nilp]:=F.get (F_h2.get o_h1);by_cases c:(i:Int)<2;obtain⟨v,nv,e1,l1⟩:∃v,NoS hh v∧aP (.ixs 1) [.slice h1.next 0 2 2,.int .i64 i]=some (.ptr h1.next i)∧ag hh h1.next i=some v:=by rcases(by omega:i=0∨i=1)with rfl|rfl;exact⟨.nilp,.inl rfl,rfl,o113.ld1 0⟩;exact⟨.ptr h.next 0,.inr ⟨_,rfl,oz⟩,rfl,o113.ld1 1⟩
 have q4:∀{H},Fr [] hh H→ak H p4 0 3=some [.int .i64 view,.int .i64 over,.bool lo]:=fun f=>by have:=((F02.then F).then f).get o4;rw[this.ld];rfl
 have q5:∀{H},Fr [] hh H→ak H p4 3 2=some [.int .u64 k,.int .i64 d]:=fun f=>by have:=((F02.then F).then f).get o4;rw[this.ld];rfl
 simp only[evs,seval,g115,g114,g113,c,e1,l1];apply aa (Dr F.wf nv);rintro _ h3 ⟨rfl,F3⟩;let⟨h4,e_h4,F_h4,o_h4⟩:=ao F3.wf [.int .u64 0,.int .u8 0,.str [],.nils];simp only[evs,←e_h4];apply stu F_h4.wf o_h4;rintro h5 o5 F5 n5;have G5:Fr [] hh h5:=F3.then (F_h4.fresh F5 F3.wf (Nat.le_refl _));simp only[evs,seval];apply aa (Jf G5.wf (nv.fr G5));rintro _ h6 ⟨rfl,F6⟩;let⟨h7,e_h7,F_h7,o_h7⟩:=ao F6.wf [.int .u8 0,.str [],.str [],.nils,.str [],.nils];simp only[evs,←e_h7];apply stu F_h7.wf o_h7;rintro h8 o8 F8 n8;have G8:Fr [] hh h8:=G5.then (F6.then (F_h7.fresh F8 F6.wf (Nat.le_refl _)));simp only[evs,seval];apply aa (Ke G8.wf (nv.fr G8));rintro _ h9 ⟨rfl,F9⟩;have G9:=G8.then F9;simp only[evs,seval];apply aa (Jg G9.wf (nv.fr G9));rintro _ ha ⟨rfl,Fa⟩;have Ga:=G9.then Fa;simp only[evs,seval];apply aa (Ds Ga.wf (nv.fr Ga));rintro _ hb ⟨rfl,Fb⟩;have Gb:=Ga.then Fb;let⟨hc',e_hc',F_hc',o_hc'⟩:=ao Gb.wf [.int .u64 0,.int .i64 0];simp only[evs,←e_hc'];apply stu F_hc'.wf o_hc';rintro hd od Fd nd;have Gd:Fr [] hh hd:=Gb.then (F_hc'.fresh Fd Gb.wf (Nat.le_refl _));simp only[evs,seval,g4,q4 Gd,q5 Gd,g2];apply aa (Dp Gd.wf (nv.fr Gd) vt);rintro _ he ⟨rfl,Fe⟩;have Ge:=Gd.then Fe;simp only[evs,seval];apply aa (Ji Ge.wf (nv.fr Ge));rintro _ hf ⟨rfl,Ff⟩;have Gf:=Ge.then Ff;simp only[evs,seval];apply aa (GX Gf.wf (nv.fr Gf));rintro _ hg ⟨rfl,Fg⟩;have Gg:=Gf.then Fg;simp only[evs,seval];apply aa (Jj Gg.wf (nv.fr Gg));rintro _ hi' ⟨rfl,Fi⟩;have Gi:=Gg.then Fi;simp only[evs,seval];apply aa (Dq Gi.wf (nv.fr Gi));rintro _ hj ⟨rfl,Fj⟩;have Gj:=Gi.then Fj;simp only[evs,seval];apply aa (Iw (nv.fr Gj));rintro _ _ ⟨rfl,rfl⟩;simp only[evs,seval];apply aa (Jh Gj.wf (nv.fr Gj));rintro _ hk ⟨rfl,Fk⟩;have Gk:=Gj.then Fk;simp(disch:=omega) only[evs,seval,ah,g115];refine rqn ⟨2-(i+1),oM,F.then Gk,i+1,iS,iX,iX,iX,iX,oM,rfl⟩;simp only[evs,seval,g115,g114,c];apply aa (Ai (gl.fr (F02.then F)));rintro _ _ ⟨rfl,rfl⟩;simp only[evs,seval];exact K _ (F02.then F).ro (gl.fr (F02.then F))
theorem Jz{R:V→Heap→Prop}{N:Nat}{Ks:List Knd}{vK vE:V}{X:List Itm}{E:List Ent}(K:∀h',(∀q c,Rs h q c→Rs h' q c)→Glb h'→R (.bool true) h')(D0:DA N h0 Ks vK X vE E .nils [])(fo:FO h0 h)(hp:h0.next≤p7)(gl:Glb h)(z7:0≠p7)(o7:Own h p7 [vK,.int .i64 12])(n47:p4≠p7)(o4:Own h p4 [.int .i64 view,.int .i64 over,.bool lo,.int .u64 k,.int .i64 d])(vt:vT.one=true)
 (g2:env.get 2=some vT) (g4:env.get 4=some (.ptr p4 0)) (g7:env.get 7=some (.ptr p7 0)):W go erN env h (iC [.t 6] R):=by
 have w0:=D0.w;have k1:vK.one=true:=Sl.one D0.rk;simp only[evs,erN,g7];apply ai (o:=1) (v:=.int .i64 0) (c':=[vK,.int .i64 0]) fo.wf o7 rfl rfl rfl;rintro h1 o1 F1 n1;have fo1:=fo.step w0 hp F1;have D1:=D0.fo fo1;have l1:ak h1 p7 0 2=some [vK,.int .i64 0]:=by rw[o1.ld];rfl
 simp only[evs,g7,l1];refine aa (Bx D1.w D1.rk D1.kh (by have:=D1.r.2.1;omega) Dn) ?_;rintro _ h2 ⟨rfl,F2⟩;simp only[evs,seval];have gl2:Glb h2:=Glb.fr (F1.pl _ _ (by simp;exact z7) gl) F2;exact JA (fun h' r g=>K h' (fun q c x=>r q c (F2.ro q c (F1.ro q c x))) g) F2.wf gl2 (F2.get (F1.own _ _ (eV n47) o4)) vt iX iX
end
open Go.Ev.St
set_option maxRecDepth 4000
theorem zV:∀{A B:List Knd},cM A B→(∀q∈A,1≤q.base∧q.base≤50)→∀q∈B,1≤q.base∧q.base≤2305843009213693952
 |[],[],_,_=>by simp
 |[],_::_,h,_=>h.elim
 |_::_,[],h,_=>h.elim
 |x::A,y::B,h,a=>by intro q m;obtain rfl|m:=List.mem_cons.1 m;have:=a x iS;have e:=h.1.2.2.2.2.2.1;omega;exact zV h.2 (fun q m=>a q iX) q m
theorem A9{X:List Itm}{E:List Ent}{n:Nat}(ev:X.map Itm.val=E.map (fun e=>e.x.val))(ty:∀e∈E,e.x.type<n):∀x∈X,x.type<n:=by intro x m;have:x.val∈X.map Itm.val:=List.mem_map.2 ⟨x,m,rfl⟩;rw[ev]at this;let⟨e,me,q⟩:=List.mem_map.1 this;have q2:=congrArg (fun p=>p.2.1) q;have:=ty e me;simp only[Itm.val]at q2;omega
set_option maxHeartbeats 1000000 in
theorem pj{h:Heap}{vI vH vT:V}{kb k:Nat}{view over d:Int}{lo:Bool}{L:List (Nat×Nat×Nat×Nat)}{H:List Nat}{Tl:List (Nat×Int)}(w:WF h)(gl:Glb h)(a:ARecs q4 4 h vI L)(hb:∀q∈L,q.1<256∧q.2.1<256∧q.2.2.1<256∧q.2.2.2<256)
 (aH:ARecs b8 1 h vH H) (hH:∀n∈H,n<256) (hk:kb<256) (aR:TR h vT Tl) (hT:H64 Tl) (kk:k<18446744073709551616):
 aj go 3 [.agg [vI,vH,.int .u8 (kb:Int)],.agg [.int .i64 view,.int .i64 over,.bool lo,.int .u64 (k:Int),.int .i64 d],vT] h fun u h'=>u=.bool true∧(∀q c,Rs h q c→Rs h' q c)∧Glb h':=by
 have i1:=ARecs.one a;have i2:=ARecs.one aH;have aT:=aR.a gl;have i3:=aT.one;let⟨h1,e_h1,F_h1,o_h1⟩:=ao w [vI,vH,.int .u8 (kb:Int)];let⟨h2,e_h2,F_h2,o_h2⟩:=ao F_h1.wf [.int .i64 view,.int .i64 over,.bool lo,.int .u64 (k:Int),.int .i64 d];have n1:=hnx e_h1;have n2:=hnx e_h2;have F02:=F_h1.then F_h2;have l3:ak h2 h.next 0 3=some [vI,vH,.int .u8 (kb:Int)]:=by rw[(F_h2.get o_h1).ld];rfl
 refine ab ?_;by_cases c:(10:Int)<Tl.length;simp only[evs,seval,←e_h1,←e_h2,aT.len,eq_true c];refine aa (Ai (gl.fr F02)) ?_;rintro _ _ ⟨rfl,rfl⟩;simp only[evs,seval];exact⟨F02.ro,gl.fr F02⟩;simp only[evs,seval,←e_h1,←e_h2,aT.len,eq_false c,l3];apply aa (Jt F02.wf (a.fr F02) hb (aH.fr F02) hH hk);rintro _ h4 ⟨F4,vK,Ks,vX,X,vE,E,rfl,rk,kh,gk,okr,lk,il,gE,eo,nd,l12⟩;have k1:vK.one=true:=Sl.one rk;have e1:vE.one=true:=Gs.one gE;have D4:DA h2.next h4 Ks vK X vE E .nils []:=⟨F4.wf,rk,kh,⟨okr,lk,gk⟩,gE,fun e m=>il.i e.x (eo e m).m,eo,nd,l12,.inl ⟨rfl,rfl⟩,⟨iS,iS,iS,iS⟩⟩;let⟨h5,e_h5,F_h5,o_h5⟩:=ao F4.wf [.nils,.int .i64 0];let⟨h6,e_h6,F_h6,o_h6⟩:=ao F_h5.wf [.nils];have n4:=F4.next;have n5:=hnx e_h5;have n6:=hnx e_h6;simp only[evs,seval,←e_h5,←e_h6];refine ai (c':=[vK,.int .i64 12]) F_h6.wf (F_h6.get o_h5) rfl (by show av [_,_]=true;simp only[aB,aF,k1];rfl) rfl ?_;rintro h7 o7 F7 n7;have o8':=F7.own _ _ oO o_h6;simp only[evs,seval];refine ai (v:=.agg [vE]) (c':=[vE]) F7.wf o8' rfl (by show av [_]=true;simp only[aB,aF,e1];rfl) rfl ?_;rintro h8 o8 F8 n8;have o7':=F8.own _ _ oO o7;have F48:Fr [] h4 h8:=((F_h5.then F_h6).fresh F7 F4.wf oM).fresh F8 F4.wf oM;have F28:=F4.then F48;have F08:=F02.then F28;have nn8:=F48.next;have m7:ak h8 h4.next 0 2=some [vK,.int .i64 12]:=by rw[o7'.ld];rfl
 have m8:ak h8 h5.next 0 1=some [vE]:=by rw[o8.ld];rfl
 have D8:=D4.fr F48;simp only[evs,seval,m7,m8];apply aa (CP F08.wf D8.rk D8.kh D8.re D8.lok);rintro _ h9 ⟨b,rfl,F9,s9⟩;let⟨n0,Kk,XX,st,vKK,bg,B,bm,S,bl,pm,mc,sto,sk,ev,nz,ix,mc2,ge,hn0⟩:=s9;have F09:=F08.then F9;have nn9:=F9.next;have z4:∀{H},Fr [] h2 H→Own H h1.next [.int .i64 view,.int .i64 over,.bool lo,.int .u64 (k:Int),.int .i64 d]:=fun f=>f.get o_h2;have zo:=z4 (F28.then F9);have zf:ak h9 h1.next 0 3=some [.int .i64 view,.int .i64 over,.bool lo]:=by rw[zo.ld];rfl
 have za:ak h9 h1.next 3 2=some [.int .u64 (k:Int),.int .i64 d]:=by rw[zo.ld];rfl
 have lenX:XX.length=E.length:=by have:=congrArg List.length ev;simpa using this
 have kl:=eM sk;have pos:=D8.good.pos;rw[v8]at pos;have sll:st.length=(E.map Ent.b).length:=by let⟨_,_,_,_,_,_,e⟩:=sto.lo;exact e
 have bse:=zV sk (fun q m=>(gk q m).2.2);have blN:h8.next≤bl:=ge bl (by simp[Wr]);have rd:=sto.rd [] h9 iS (Fr.refl F9.wf);simp only[evs,seval,zf,za];refine aa (yh (Tl:=Tl) F09.wf (gl.fr F09) sto pos bse (A9 ev (fun e m=>by have:=D8.ty e m;omega)) oM (fun e=>by rw[e,List.length_nil]at kl;omega) (fun x m=>ARecs.one (rd.2.2 x m).m) (fun key j q=>by
  let⟨e,h1,_⟩:=(ix key j).1 q;have:=(List.getElem?_eq_some_iff.1 h1).1;omega) sll (aR.ft (.of F09)) hT oM kk) ?_
 rintro _ hs ⟨p,n,e,rfl,q1,q2,q3⟩;have both:∃want:Int,chE mc.1 k d Tl=want∧FO h8 hs∧Glb hs∧(¬okF view over→e=1)∧(okF view over→want≠0→e=want)∧(okF view over→want=0→e=0∨e=13):=by refine⟨_,rfl,?_⟩;by_cases ok:okF view over;by_cases z:chE mc.1 k d Tl=0;let⟨l',ks',S',_,FL⟩:=q3 ok z;refine⟨(FO.of F9).frF F08.wf blN FL.f,(gl.fr F09).frF FL.f oM,fun x=>absurd ok x,fun _ x=>absurd z x,fun _ _=>?_⟩;exact S'.err (fun i _ _=>Iy (KS z).1 bse i) sll iS pos;let⟨ee,Fs⟩:=q2 ok z;exact⟨FO.of (F9.then Fs),gl.fr (F09.then Fs),fun x=>absurd ok x,fun _ _=>ee,fun _ x=>absurd x z⟩;let⟨ee,Fs⟩:=q1 ok;exact⟨FO.of (F9.then Fs),gl.fr (F09.then Fs),fun _=>ee,fun x=>absurd x ok,fun x=>absurd x ok⟩
 let⟨want,ew,fo,gls,r1,r2,r3⟩:=both;clear q1 q2 q3;have D:=D8.fo fo;have o7s:=fo.own _ _ (.inr iS) o7';have o8s:=fo.own _ _ (.inr iS) o8;have zs:=fo.own _ _ (.inr iS) (z4 F28);have zv:∀{H},Fr [] hs H→ag H h1.next 0=some (.int .i64 view):=fun f=>(f.get zs).ld1 0;have zw:∀{H},Fr [] hs H→ag H h1.next 1=some (.int .i64 over):=fun f=>(f.get zs).ld1 1;have rs:Fr [] hs hs:=Fr.refl D.w;have tail:∀(env:T V)(H:Heap),Fr [] hs H→env.get 2=some vT→env.get 4=some (.ptr h1.next 0)→env.get 7=some (.ptr h4.next 0)→W go erN env H (iC [.t 6] fun u h'=>u=.bool true∧(∀q c,Rs h q c→Rs h' q c)∧Glb h'):=by intro env H f g2 g4 g7;exact Jz (k:=(k:Int)) (fun h' r g=>⟨rfl,fun q c x=>r q c (f.ro q c (fo.ro q c (F08.ro q c x))),g⟩) D4 (((FO.of F48).trans fo).then f) (Nat.le_refl _) (gls.fr f) oM (f.get o7s) oM (f.get zs) i3 g2 g4 g7
 simp only[evs,seval,zv rs,zw rs];apply aa J9;rintro _ _ ⟨rfl,rfl⟩;by_cases ok:okF view over;have l7:ak hs h4.next 0 2=some [vK,.int .i64 12]:=by rw[o7s.ld];rfl
 have l8:ak hs h5.next 0 1=some [vE]:=by rw[o8s.ld];rfl
 have la:ak hs h1.next 3 2=some [.int .u64 (k:Int),.int .i64 d]:=by rw[zs.ld];rfl
 simp only[evs,seval,decide_eq_true ok,zv rs,zw rs,l7,l8,la];apply aa (CW (D.sg ok) D.re D.lok ix (((aR.ft (.of F08)).ft (.fo fo)).a gls) hT oM kk);rintro _ ht ⟨rfl,Ft⟩;rw[ew];by_cases z:want=0;subst z;obtain rfl|rfl:=r3 ok rfl;simp only[evs,seval];exact tail _ _ Ft iS iS iS;simp only[evs,seval,eq_false (oM:¬(13:Int)=0)];exact tail _ _ Ft iS iS iS;have:=r2 ok z;subst this;simp only[evs,seval,eq_false z];exact tail _ _ Ft iS iS iS;have:=r1 ok;subst this;simp only[evs,seval,decide_eq_false ok];exact tail _ _ rs iS iS iS
end Go.Ev.Lay
