/- An evaluator of the program, and contracts over it: StdQ to LmL. -/
import Derived.Test.YtiiggfpadljcbaaGreatDoorP08
import Derived.Test.YtiiggfpadljcbaaGreatDoorP09
import Derived.Test.YtiiggfpadljcbaaGreatDoorP10
import Derived.Test.YtiiggfpadljcbaaGreatDoorP11
set_option linter.unusedSimpArgs false
set_option linter.unusedVariables false
set_option linter.constructorNameAsVariable false
set_option linter.unnecessarySimpa false
namespace Go.Ev.Lay
open Go.Ev.St
set_option maxRecDepth 4000
theorem Cc{l:List Int}(f:Fit l)(i:Nat):0≤(l.take i).sum∧(l.take i).sum≤l.sum:=by have h1:=(f.sub (List.take_sublist i l)).nn;have h2:=List.sum_append (l₁:=l.take i) (l₂:=l.drop i);rw[List.take_append_drop]at h2;have:=(f.sub (List.drop_sublist i l)).nn;omega
theorem pJ{l:List Int}(f:Fit l){i j:Nat}(h:i≤j):(l.take i).sum≤(l.take j).sum:=by have:=Cc (f.sub (List.take_sublist j l)) i;rw[List.take_take,Nat.min_eq_left h]at this;exact this.2
theorem nv:∀{l:List Int}{x:Int},0≤x→x<l.sum→(l.take (aB l x).1).sum≤x∧x<(l.take ((aB l x).1+1)).sum∧(aB l x).2=x-(l.take (aB l x).1).sum
 |[],x,h0,h1=>by simp at h1;omega
 |s::l,x,h0,h1=>by simp only[aB];by_cases c:x<s;grind;simp only[if_neg c];have:=nv (l:=l) (x:=x-s) oM (by simp at h1;omega);simp only[List.take_succ_cons,List.sum_cons];omega
theorem zR{l:List Int}(f:Fit l){x:Int}(h0:0≤x)(h1:x<l.sum)(i:Nat):(l.take i).sum≤x↔i≤(aB l x).1:=by let⟨a,b,_⟩:=nv h0 h1;constructor;intro h;obtain c|c:=Nat.lt_or_ge (aB l x).1 i;have:=pJ f (oM:(aB l x).1+1≤i);omega;exact c;intro h;have:=pJ f h;omega
section
variable {h : Heap} {v : V} {E : List Ent}
theorem K7(hE:E.length≤1024)(ok:okZ E)(hs:(E.map Ent.b).sum≤4611686018427387904):Fit (E.map Ent.b):=by refine⟨fun x m=>?_,hs,by simp;omega⟩;obtain⟨e,em,rfl⟩:=List.mem_map.1 m;have:=ok e em;omega
abbrev vA(k:Nat)(d:Int):V:=.agg [.int .u64 (k:Int),.int .i64 d]
section
variable {n0 : NL} {h : Heap} {b bg B bm S bl : Nat} {Ks : List Knd} {cap : Int} {X : List Itm} {kn st : List Bool} {vK : V} {pm : Option Nat} {mc : mW} {E : List Ent}
end
end
set_option maxRecDepth 4000
def aR(m:Int→Int):List Int→List Int→List Bool→Bool→Int×List Int×List Bool×Bool
 |[],l,ks,mo=>(0,l,ks,mo)
 |i::A,l,ks,mo=>if 0≤i∧i<l.length then if ks.getD i.toNat false=true then aR m A l ks mo else
  if cS l i (m i)=0 then aR m A (l.set i.toNat (m i)) (ks.set i.toNat true) true else(cS l i (m i),l,ks,mo)else(4,l,ks,mo)
structure FrL(b:Nat)(h h':Heap):Prop where
 f:FrF b h h'
 ix:∀v l ks,Ix h v l ks→Ix h' v l ks
theorem FrL.trans{b:Nat}{h h1 h2:Heap}(a:FrL b h h1)(c:FrL b h1 h2):FrL b h h2:=⟨a.f.trans c.f,fun v l ks i=>c.ix v l ks (a.ix v l ks i)⟩
theorem frL{b:Nat}{h h':Heap}(f:Fr [] h h'):FrL b h h':=⟨frF f,fun _ _ _ i=>i.fr f⟩
theorem CM{x y z:V}:∀L:List (Int×Int),0<L.length→[x,y,z]≠L.flatMap sp:=by intro L _ e;have h1:=congrArg List.length e;rw[aC (k:=2) (fun _=>rfl)]at h1;simp at h1;omega
theorem Ka{b:Nat}{h h':Heap}{x y z:V}(f:Fr [b] h h')(o:Own h b [x,y,z]):FrL b h h':=⟨Dr f,fun _ _ _ i=>i.frb f o iS CM⟩
theorem Bm(A:List Int):∀n m ws,ws.length=64→A.map (V.int .i64)≠flc n m ws:=by
 intro n m ws hl e;cases ws with
 |nil=>simp at hl
 |cons y ws=>
  have:uw y∈A.map (V.int .i64):=by rw[e];simp[flc]
  simp[uw]at this
def Atl(h:Heap)(B:Nat)(v:V)(A:List Int):Prop:=(v=.nils∧A=[])∨∃c,v=.slice c 0 A.length A.length∧Own h c (A.map (V.int .i64))∧B≤c
theorem Atl.ints{h:Heap}{B:Nat}{v:V}{A:List Int}(a:Atl h B v A):rB h v A:=by obtain⟨rfl,rfl⟩|⟨c,rfl,o,_⟩:=a;exact(show Sl _ 1 _ _ _ from Recs.nil (f:=ic));exact Sl.lit o iS
theorem Atl.fr{h h':Heap}{B b:Nat}{v:V}{A:List Int}(a:Atl h B v A)(f:FrF b h h')(hb:b<B):Atl h' B v A:=by obtain x|⟨c,e,o,q⟩:=a;exact .inl x;exact .inr ⟨c,e,f.own _ _ oM (Bm A) o,q⟩
def jh(l:List Int)(bs:List Bool)(view over s:Int)(A:List Int):Prop:=if l=[]then A=[]else JD l bs view over s A
theorem BE{l:List Int}{bs:List Bool}{view over s:Int}{A:List Int}(a:jh l bs view over s A)(hl:bs.length=l.length):∀i∈A,0≤i∧i<l.length:=by
 unfold jh at a;split at a;subst a;simp;obtain⟨hr,he,hs,rfl⟩:=a;have f0:0≤(dA l view over s).1:=by unfold dA;simp only[];omega
 have t0:(dA l view over s).2≤l.length:=by unfold dA;simp only[];omega
 intro i hi;rw[List.mem_append]at hi;obtain hi|hi:=hi;split at hi;rename_i c;simp only[List.mem_singleton]at hi;subst hi;obtain⟨_,_,p,rfl,hp⟩:=hs.zero c.1;omega;simp at hi;simp only[rng,List.mem_map,List.mem_range]at hi;obtain⟨j,hj,rfl⟩:=hi;omega
theorem Hh{l:List Int}{bs:List Bool}{view over s:Int}{A:List Int}(a:jh l bs view over s A):A.length≤l.length+1:=by
 unfold jh at a;split at a;subst a;simp;obtain⟨hr,he,hs,rfl⟩:=a;have f0:0≤(dA l view over s).1:=by unfold dA;simp only[];omega
 have t0:(dA l view over s).2≤l.length:=by unfold dA;simp only[];omega
 rw[List.length_append,eF];split<;>simp<;>omega
theorem FY{h:Heap}{b N:Nat}{caps:List V}{p pm:Option Nat}{vk:V}{l:List Int}{ks bs:List Bool}{s view over:Int}{lo:Bool}{m:Int→Int}(w:WF h)(g:Glb h)(o:Own h b [pv p,vk,pv pm])(v1:vk.one=true)(ix:Ix h (.agg [pv p,vk]) l ks)
 (mk:Mk h pm bs) (el:bs.length=l.length) (pos:∀x∈l,1≤x) (s0:-9223372036854775808≤s) (s1:s≤9223372036854775807) (ok:okF view over) (cl:aQ l view s=s)
 (hN:N<1099511627776) (hm:∀h',FrF b h h'→∀i:Int,0≤i→i<(l.length:Nat)→ao go N ([.int .i64 i]++caps) h' fun u h''=>u=.int .i64 (m i)∧Fr [] h' h'') (mb:∀i,-9223372036854775808≤m i∧m i≤9223372036854775807):
 ao go 28 [.ptr b 0,.agg [.int .i64 view,.int .i64 over,.bool lo],.int .i64 s,.func (.func N) [] caps] h fun u h'=>∃A c d,jh l bs view over s A∧
  u=.tup [.bool (if(aR m A l ks false).1=0 then(aR m A l ks false).2.2.2 else false),.int .i64 (aR m A l ks false).1]∧Own h' b [c,d,pv pm]∧c.one=true∧d.one=true∧
  ((aR m A l ks false).1=0→Ix h' (.agg [c,d]) (aR m A l ks false).2.1 (aR m A l ks false).2.2.1)∧Mk h' pm bs∧FrL b h h':=by
 have a:Lo h b l ks bs:=⟨p,vk,pm,o,v1,ix,mk,el⟩;have blt:=o.lt w;let⟨h1,e_h1,F_h1,o_h1⟩:=aj w [.int .i64 view,.int .i64 over,.bool lo];refine ac ?_;simp only[evs,seval,←e_h1,o_h1.ld];refine aa (HC F_h1.wf (g.fr F_h1) (a.fr F_h1) pos s0 s1) ?_;rintro u h2 ⟨F2,hu⟩;have F12:=F_h1.then F2;rw[if_pos ok,if_pos cl]at hu;obtain⟨A,rv,eu,at2,al⟩:∃A rv,u=.tup [rv,.int .i64 0]∧Atl h2 h.next rv A∧jh l bs view over s A:=by
  unfold jh;by_cases c:l=[]
  ·rw[if_pos c]at hu;exact⟨[],.nils,hu,.inl ⟨rfl,rfl⟩,by rw[if_pos c]⟩
  ·rw[if_neg c]at hu;let⟨A,q,e1,e2,e3,e4⟩:=hu;exact⟨A,_,e1,.inr ⟨q,rfl,e2,Nat.le_trans F_h1.next e3⟩,by rw[if_neg c];exact e4⟩
 subst eu;have lm:=ix.fit.2.2;have rg:=BE al el;have len2:=at2.ints.len;simp only[evs,seval,len2];have hA:=Hh al;refine az (fun k env hh=>∃(j:Nat)(p':Option Nat)(vk':V)(l':List Int)(ks':List Bool)(mo:Bool),env.get 29=some (.int .i64 j)∧env.get 28=some (.int .i64 A.length)∧env.get 27=some rv∧env.get 0=some (.ptr b 0)∧env.get 3=some (.func (.func N) [] caps)∧env.get 12=some (.bool mo)∧
  j≤A.length∧l'.length=l.length∧aR m A l ks false=aR m (A.drop j) l' ks' mo∧Own hh b [pv p',vk',pv pm]∧vk'.one=true∧Ix hh (.agg [pv p',vk']) l' ks'∧Mk hh pm bs∧FrL b h hh∧Atl hh h.next rv A∧k=A.length-j) A.length oM ?_ ?_
 ·exact⟨0,p,vk,l,ks,false,iS,iS,iS,iS,iS,iS,oM,rfl,rfl,F12.get o,v1,ix.fr F12,mk.fr F12,frL F12,at2,rfl⟩
 rintro k env hh ⟨j,p',vk',l',ks',mo,g29,g28,g27,g0,g3,g12,hj,ll,lr,oo,vv,ii,mm,FF,at',rfl⟩;by_cases hlt:(j:Int)<A.length
 ·let⟨bb,ob,x,e1,e2,e3⟩:=at'.ints.ix .i64 j oM hlt;simp only[Int.toNat_natCast]at e3;have rx:=rg x (List.mem_of_getElem? e3);have dr:A.drop j=x::A.drop (j+1):=by
   have hj':j<A.length:=oM
   rw[List.drop_eq_getElem_cons hj'];congr 1;rw[List.getElem?_eq_getElem hj']at e3;exact Option.some.inj e3
  have e2':ag hh bb ob=some (.int .i64 x):=e2;simp only[evs,seval,g29,g28,g27,g0,hlt,e1,e2',oo.ld];apply aa (tU FF.f.wf ii);rintro _ h3 ⟨rfl,F3⟩;rw[if_pos ⟨rx.1,by rw[ll];exact rx.2⟩];have L3:FrL b h h3:=FF.trans (frL F3);cases hk:ks'.getD x.toNat false
  ·have lr1:aR m A l ks false=if cS l' x (m x)=0 then aR m (A.drop (j+1)) (l'.set x.toNat (m x)) (ks'.set x.toNat true) true else(cS l' x (m x),l',ks',mo):=by
    rw[lr,dr,aR,if_pos ⟨rx.1,by rw[ll];exact rx.2⟩,hk];rfl
   simp only[evs,seval,eff,g0,g3,(F3.get oo).ld];refine⟨hN,aa (hm h3 L3.f x rx.1 rx.2) ?_⟩;rintro _ hm' ⟨rfl,Fm⟩;have ol3:=(F3.get oo).ld;have F3m:=F3.then Fm;have L3m:=L3.trans (frL Fm);simp only[evs,eff];apply aa (As F3m.wf (ii.fr F3m) (mb x).1 (mb x).2 oM oM);rintro _ h4 ⟨F4,c,d,rfl,hc,hd,hx⟩;simp only[evs,eff];apply ah (c':=[c,d,pv pm]) F4.wf ((F3m.then F4).get oo) rfl (by simp[au,V.cells,hc,hd]) rfl;rintro h5 o5 F5 n5;have L4:FrL b h h4:=L3m.trans (frL F4);have L5:FrL b h h5:=L4.trans (Ka F5 ((F3m.then F4).get oo));have m5:Mk h5 pm bs:=((mm.fr (F3m.then F4))).frb F5 ((F3m.then F4).get oo) rfl;by_cases z:cS l' x (m x)=0
   ·rw[if_pos z]at lr1;simp(disch:=omega) only[evs,seval,DF,eff,ab,g29,(F3m.get oo).ld,ol3,eq_true z];have i4:=hx z;obtain⟨p5,rfl⟩:=i4.form;have i5:=i4.frb F5 ((F3m.then F4).get oo) iS CM;refine rqn ⟨A.length-(j+1),oM,j+1,p5,d,_,_,true,iS,iX,iX,iX,iX,iS,oM,by simpa using ll,lr1,o5,hd,i5,m5,L5,(at'.fr (frF (F3m.then F4)) blt).fr (Dr F5) blt,rfl⟩
    done
   ·rw[if_neg z]at lr1;simp only[evs,seval,DF,eff,(F3m.get oo).ld,ol3,eq_false z];refine⟨A,c,d,al,?_,o5,hc,hd,fun q=>?_,m5,L5⟩
    ·rw[lr1];simp[z]
    ·rw[lr1]at q;exact absurd q z
  ·have lr1:aR m A l ks false=aR m (A.drop (j+1)) l' ks' mo:=by
    rw[lr,dr,aR,if_pos ⟨rx.1,by rw[ll];exact rx.2⟩,if_pos hk]
   simp(disch:=omega) only[evs,seval,ab,g29];refine rqn ⟨A.length-(j+1),oM,j+1,p',vk',l',ks',mo,iS,iX,iX,iX,iX,iX,oM,ll,lr1,F3.get oo,vv,ii.fr F3,mm.fr F3,L3,at'.fr (frF F3) blt,rfl⟩
   done
 ·have ej:j=A.length:=oM
  have lr1:aR m A l ks false=(0,l',ks',mo):=by
   rw[lr,ej,List.drop_length];rfl
  simp only[evs,seval,g29,g28,g12,hlt];refine⟨A,pv p',vk',al,?_,oo,?_,vv,fun _=>?_,mm,FF⟩
  ·rw[lr1];simp
  ·cases p'<;>rfl
  ·rw[lr1];exact ii
theorem g14x : F.get 9 = some fn14x := rfl
set_option maxRecDepth 4000
theorem rS{l:List Int}{i x:Int}(h:cS l i x=0):0≤i∧i<l.length∧1≤x∧x≤2305843009213693952:=by unfold cS at h;split at h;omega;omega
theorem dM(m:Int→Int):∀(A l:List Int)(ks:List Bool)(mo:Bool),ks.length=l.length→(∀x∈l,1≤x)→
 (aR m A l ks mo).2.1.length=l.length∧(aR m A l ks mo).2.2.1.length=ks.length∧(∀x∈(aR m A l ks mo).2.1,1≤x)∧(aR m A l ks mo).2.2.1.count false≤ks.count false∧
 ((aR m A l ks mo).2.2.2=true→mo=true∨(aR m A l ks mo).2.2.1.count false<ks.count false)
 |[],l,ks,mo,_,hp=>⟨rfl,rfl,hp,Nat.le_refl _,fun h=>.inl h⟩
 |i::A,l,ks,mo,hl,hp=>by
  rw[aR];by_cases c1:0≤i∧i<l.length;rw[if_pos c1];by_cases c2:ks.getD i.toNat false=true;rw[if_pos c2];exact dM m A l ks mo hl hp;rw[if_neg c2];by_cases c3:cS l i (m i)=0;rw[if_pos c3];let⟨_,_,x1,_⟩:=rS c3;have hi:i.toNat<ks.length:=oM;have hk:ks[i.toNat]=false:=by
   have:ks.getD i.toNat false=ks[i.toNat]:=by simp[List.getD,hi]
   rw[this]at c2;simpa using c2
  have hc:=List.count_set (a:=true) (b:=false) (l:=ks) hi;rw[hk]at hc;simp at hc;have hpos:0<ks.count false:=List.count_pos_iff.2 (by rw[←hk];exact List.getElem_mem hi);have ih:=dM m A (l.set i.toNat (m i)) (ks.set i.toNat true) true (eV hl) (fun x hx=>by
   obtain q|q:=List.mem_or_eq_of_mem_set hx;exact hp x q;omega)
  let⟨a1,a2,a3,a4,_⟩:=ih;refine⟨by simpa using a1,by simpa using a2,a3,oM,fun _=>.inr oM⟩;rw[if_neg c3];exact⟨rfl,rfl,hp,Nat.le_refl _,fun h=>.inl h⟩;rw[if_neg c1];exact⟨rfl,rfl,hp,Nat.le_refl _,fun h=>.inl h⟩
structure SS(h:Heap)(env:T V)(b fb bb N:Nat)(caps:List V)(p0 pm:Option Nat)(vk0:V)(l0:List Int)(ks0 bs:List Bool)(view over anchor delta:Int)(lo:Bool)(r:Nat)(l:List Int)(ks:List Bool):Prop where
 wf:WF h
 glb:Glb h
 ob:∃p vk,Own h b [pv p,vk,pv pm]∧vk.one=true∧Ix h (.agg [pv p,vk]) l ks
 ms:Mk h pm bs
 el:bs.length=l.length
 pos:∀x∈l,1≤x
 fo:Own h fb [.int .i64 view,.int .i64 over,.bool lo]
 bo:Own h bb [pv p0,vk0]
 v0:vk0.one=true
 ix0:Ix h (.agg [pv p0,vk0]) l0 ks0
 el0:bs.length=l0.length
 fne:fb≠b
 bne:bb≠b
 zne:0≠b
 g0:env.get 0=some (.ptr b 0)
 g2:env.get 2=some (.int .i64 anchor)
 g3:env.get 3=some (.int .i64 delta)
 g4:env.get 4=some (.func (.func N) [] caps)
 g6:env.get 6=some (.ptr fb 0)
 g11:env.get 11=some (.int .i64 r)
 g12:env.get 12=some (.int .i64 0)
 g13:env.get 13=some (.ptr bb 0)
theorem sR{c:List V}(h:c.length<60):∀n m ws,ws.length=64→c≠flc n m ws:=by intro n m ws hl e;have:=congrArg List.length e;simp[flc,hl]at this;omega
theorem lI(l:List Int)(view s:Int):aQ l view (aQ l view s)=aQ l view s:=by unfold aQ;omega
theorem qf{h:Heap}{env:T V}{b fb bb N r:Nat}{caps:List V}{p0 pm:Option Nat}{vk0:V}{l0 l:List Int}{ks0 bs ks:List Bool}{view over anchor delta s:Int}{lo:Bool}{m:Int→Int}{Q:Ex→T V→Heap→Prop}
 (S:SS h env b fb bb N caps p0 pm vk0 l0 ks0 bs view over anchor delta lo r l ks) (g10:env.get 10=some (.int .i64 s)) (ok:okF view over) (hr:r<1000000)
 (hN:N<1099511627776) (hm:∀h',FrF b h h'→∀i:Int,0≤i→i<(bs.length:Nat)→ao go N ([.int .i64 i]++caps) h' fun u h''=>u=.int .i64 (m i)∧Fr [] h' h'') (mb:∀i,-9223372036854775808≤m i∧m i≤9223372036854775807)
 (Kbad:∀env' h' A,jh l bs view over (aQ l view s) A→(aR m A l ks false).1≠0→env'.get 10=some (.int .i64 0)→env'.get 11=some (.int .i64 0)→env'.get 12=some (.int .i64 (aR m A l ks false).1)→Lo h' b l0 ks0 bs→FrL b h h'→Q .ret env' h')
 (Kdone:∀env' h' A l' ks',jh l bs view over (aQ l view s) A→aR m A l ks false=(0,l',ks',false)→env'.get 10=some (.int .i64 (aQ l view s))→env'.get 11=some (.int .i64 r)→env'.get 12=some (.int .i64 0)→Lo h' b l' ks' bs→FrL b h h'→Q .ret env' h')
 (Kmore:∀env' h' A l' ks',jh l bs view over (aQ l view s) A→aR m A l ks false=(0,l',ks',true)→SS h' env' b fb bb N caps p0 pm vk0 l0 ks0 bs view over anchor delta lo (r+1) l' ks'→env'.get 10=some (.int .i64 (aQ l view s))→FrL b h h'→Q (.goto 0) env' h'):
 W go sj env h Q:=by
 let⟨wf,glb,⟨p,vk,o,v1,ix⟩,mk,el,pos,fo,bo,v0,ix0,el0,fne,bne,zne,g0,g2,g3,g4,g6,g11,g12,g13⟩:=S;have a:Lo h b l ks bs:=⟨p,vk,pm,o,v1,ix,mk,el⟩;have fit:=ix.fit;have f1:=fit.nn;have f2:=fit.2.1;simp only[evs,seval,sj,g12,g6,g10,g0,fo.ld];apply aa (ua wf a);rintro _ h1 ⟨rfl,F1⟩;rw[if_pos ok];obtain⟨s',hs'⟩:∃s',s'=aQ l view s:=⟨_,rfl⟩;rw[←hs']at Kbad Kdone Kmore⊢;have sb:0≤s'∧s'≤4611686018427387904:=by rw[hs'];unfold aQ;have:=ok.1;omega
 have ci:aQ l view s'=s':=by rw[hs'];exact lI _ _ _
 simp only[evs,seval,g6,g0,g4,(F1.get fo).ld];apply aa (FY F1.wf (glb.fr F1) (F1.get o) v1 (ix.fr F1) (mk.fr F1) el pos oM oM ok ci hN (fun h' f i i0 i1=>hm h' ((frF F1).trans f) i i0 oM) mb);rintro _ h2 ⟨A,c,d,al,rfl,o2,hc,hd,hx,mk2,L2⟩;have L02:FrL b h h2:=(frL F1).trans L2;have ff2:=L02.f.own _ _ fne (sR iS) fo;have bb2:=L02.f.own _ _ bne (sR iS) bo;have i02:=L02.ix _ _ _ ix0;have g2':=glb.frF L02.f zne;have sp:=dM m A l ks false ix.len.1 pos;obtain⟨l',ks',mo,e,he⟩:∃l' ks' mo e,aR m A l ks false=(e,l',ks',mo):=⟨_,_,_,_,rfl⟩;have Kb:=Kbad;rw[he]at sp hx⊢;simp only[]at sp hx⊢;by_cases z:e=0;subst z;have i2:=hx rfl;obtain⟨p2,rfl⟩:=i2.form;cases mo;simp only[evs,seval,g11];exact Kdone _ _ A l' ks' al he iS iS iS ⟨p2,d,pm,o2,hd,i2,mk2,oM⟩ L02;simp(disch:=omega) only[evs,seval,ab,g11];refine Kmore _ _ A l' ks' al he ⟨L02.f.wf,g2',⟨p2,d,o2,hd,i2⟩,mk2,oM,sp.2.2.1,ff2,bb2,v0,i02,el0,fne,bne,zne,iX,iX,iX,iX,iX,iS,iS,iX⟩ iS L02;simp only[evs,seval,g0,g13,eq_false z,bb2.ld];apply ah (c':=[pv p0,vk0,pv pm]) L02.f.wf o2 rfl (by simp[au,V.cells,eR,v0]) rfl;rintro h3 o3 F3 n3;simp only[evs,seval];refine Kbad _ _ A al (by rw[he];exact z) iS iS (by rw[he];simp) ⟨p0,vk0,pm,o3,v0,i02.frb F3 o2 iS CM,mk2.frb F3 o2 rfl,el0⟩ (L02.trans (Ka F3 o2))
def sAt(l:List Int)(view anchor delta:Int)(lo:Bool)(r:Nat)(s:Int):Int:=aQ l view (if 0≤anchor∧(r=0∨lo=false)then(l.take anchor.toNat).sum+delta else s)
inductive SetS(m:Int→Int)(bs:List Bool)(view over anchor delta:Int)(lo:Bool):Int→Nat→List Int→List Bool→Int→Int→Int→List Int→List Bool→Prop
 |bad {s:Int} {r:Nat} {l:List Int} {ks:List Bool} {A l':List Int} {ks':List Bool}:jh l bs view over (sAt l view anchor delta lo r s) A→(aR m A l ks false).1≠0→SetS m bs view over anchor delta lo s r l ks 0 0 (aR m A l ks false).1 l' ks'
 |done {s:Int} {r:Nat} {l:List Int} {ks:List Bool} {A l':List Int} {ks':List Bool}:jh l bs view over (sAt l view anchor delta lo r s) A→aR m A l ks false=(0,l',ks',false)→SetS m bs view over anchor delta lo s r l ks (sAt l view anchor delta lo r s) r 0 l' ks'
 |more {s:Int} {r:Nat} {l:List Int} {ks:List Bool} {A l':List Int} {ks':List Bool} {s2 n2 e2:Int} {l2:List Int} {ks2:List Bool}:jh l bs view over (sAt l view anchor delta lo r s) A→aR m A l ks false=(0,l',ks',true)→
  SetS m bs view over anchor delta lo (sAt l view anchor delta lo r s) (r+1) l' ks' s2 n2 e2 l2 ks2→SetS m bs view over anchor delta lo s r l ks s2 n2 e2 l2 ks2
theorem wa{h:Heap}{env:T V}{b fb bb N r:Nat}{caps:List V}{p0 pm:Option Nat}{vk0:V}{l0 l:List Int}{ks0 bs ks:List Bool}{view over anchor delta s:Int}{lo:Bool}{m:Int→Int}{Q:Ex→T V→Heap→Prop}
 (S:SS h env b fb bb N caps p0 pm vk0 l0 ks0 bs view over anchor delta lo r l ks) (g10:env.get 10=some (.int .i64 s)) (ok:okF view over) (hr:r<1000000) (ha:anchor<l.length) (d0:0≤delta) (d1:delta≤2305843009213693952)
 (hN:N<1099511627776) (hm:∀h',FrF b h h'→∀i:Int,0≤i→i<(bs.length:Nat)→ao go N ([.int .i64 i]++caps) h' fun u h''=>u=.int .i64 (m i)∧Fr [] h' h'') (mb:∀i,-9223372036854775808≤m i∧m i≤9223372036854775807)
 (Kbad:∀env' h' A,jh l bs view over (sAt l view anchor delta lo r s) A→(aR m A l ks false).1≠0→env'.get 10=some (.int .i64 0)→env'.get 11=some (.int .i64 0)→env'.get 12=some (.int .i64 (aR m A l ks false).1)→Lo h' b l0 ks0 bs→FrL b h h'→Q .ret env' h')
 (Kdone:∀env' h' A l' ks',jh l bs view over (sAt l view anchor delta lo r s) A→aR m A l ks false=(0,l',ks',false)→env'.get 10=some (.int .i64 (sAt l view anchor delta lo r s))→env'.get 11=some (.int .i64 r)→env'.get 12=some (.int .i64 0)→Lo h' b l' ks' bs→FrL b h h'→Q .ret env' h')
 (Kmore:∀env' h' A l' ks',jh l bs view over (sAt l view anchor delta lo r s) A→aR m A l ks false=(0,l',ks',true)→SS h' env' b fb bb N caps p0 pm vk0 l0 ks0 bs view over anchor delta lo (r+1) l' ks'→env'.get 10=some (.int .i64 (sAt l view anchor delta lo r s))→FrL b h h'→Q (.goto 0) env' h'):
 W go rJ env h Q:=by
 have S0:=S;let⟨wf,glb,⟨p,vk,o,v1,ix⟩,mk,el,pos,fo,bo,v0,ix0,el0,fne,bne,zne,g0,g2,g3,g4,g6,g11,g12,g13⟩:=S;have fit:=ix.fit;have f2:=fit.2.1;unfold sAt at Kbad Kdone Kmore;by_cases ca:0≤anchor;have top:0≤anchor∧(r=0∨lo=false)→W go (.seq (.ops [⟨none,.p .nilck [.v 0],none⟩,⟨none,.p (.faddr 0) [.l 0],none⟩,⟨none,.ld 2 true (.l 0),none⟩,⟨none,.cf 26 [.l 0,.v 2],none⟩,⟨none,.p (.ext 0) [.l 0],none⟩,⟨none,.p (.ext 1) [.l 1],none⟩,⟨none,.p .mv [.l 1],some 10⟩,⟨none,.p .mv [.l 0],some 12⟩]) (.seq (.ops [⟨none,.p (.ib .eql) [.v 12,.c (.int .i64 0)],some 68⟩]) (.cond (.v 68) (.ops [⟨none,.p .mv [.v 10],none⟩,⟨none,.p (.ib .add) [.l 0,.v 3],none⟩,⟨none,.p .mv [.l 0],some 10⟩]) (.skip)))) (env.set 57 (.bool true)) h (rW go sj Q):=by
  intro c;rw[if_pos c]at Kbad Kdone Kmore;have b1:0≤(l.take anchor.toNat).sum∧(l.take anchor.toNat).sum≤l.sum:=by have:=(fit.sub (List.take_sublist anchor.toNat l)).nn;have h2:=List.sum_append (l₁:=l.take anchor.toNat) (l₂:=l.drop anchor.toNat);rw[List.take_append_drop]at h2;have:=(fit.sub (List.drop_sublist anchor.toNat l)).nn;omega
  simp only[evs,seval,g0,g2,o.ld];apply aa (Ar wf ix);rintro _ h1 ⟨rfl,F1⟩;rw[if_pos ⟨ca,oM⟩];simp(disch:=omega) only[evs,seval,ab,g3];have L1:FrL b h h1:=frL F1;exact qf (s:=(l.take anchor.toNat).sum+delta) ⟨F1.wf,glb.fr F1,⟨p,vk,F1.get o,v1,ix.fr F1⟩,mk.fr F1,el,pos,F1.get fo,F1.get bo,v0,ix0.fr F1,el0,fne,bne,zne,iX,iX,iX,iX,iX,iX,iS,iX⟩ iS ok hr hN (fun h' f=>hm h' ((frF F1).trans f)) mb
   (fun env' h' A a1 a2 a3 a4 a5 a6 a7=>Kbad env' h' A a1 a2 a3 a4 a5 a6 (L1.trans a7)) (fun env' h' A l' ks' a1 a2 a3 a4 a5 a6 a7=>Kdone env' h' A l' ks' a1 a2 a3 a4 a5 a6 (L1.trans a7)) (fun env' h' A l' ks' a1 a2 a3 a4 a5=>Kmore env' h' A l' ks' a1 a2 a3 a4 (L1.trans a5))
 by_cases cr:(r:Int)=0;simp only[evs,seval,rJ,g2,g11,eq_true ca,eq_true cr,g0,o.ld];have t1:=top ⟨ca,.inl oM⟩;simp only[evs,seval,g0,g2,o.ld]at t1;exact t1;cases lo;simp only[evs,seval,rJ,g2,g11,eq_true ca,eq_false cr,g6,fo.ld1,g0,o.ld];have t1:=top ⟨ca,.inr rfl⟩;simp only[evs,seval,g0,g2,o.ld]at t1;exact t1;have c:¬(0≤anchor∧(r=0∨true=false)):=by simp;omega
 rw[if_neg c]at Kbad Kdone Kmore;simp only[evs,seval,rJ,g2,g11,eq_true ca,eq_false cr,g6,fo.ld1];exact qf ⟨wf,glb,⟨p,vk,o,v1,ix⟩,mk,el,pos,fo,bo,v0,ix0,el0,fne,bne,zne,iX,iX,iX,iX,iX,iX,iX,iX⟩ iX ok hr hN hm mb Kbad Kdone Kmore;have c:¬(0≤anchor∧(r=0∨lo=false)):=fun x=>ca x.1;rw[if_neg c]at Kbad Kdone Kmore;simp only[evs,seval,rJ,g2,eq_false ca];exact qf ⟨wf,glb,⟨p,vk,o,v1,ix⟩,mk,el,pos,fo,bo,v0,ix0,el0,fne,bne,zne,iX,iX,iX,iX,iX,iX,iX,iX⟩ iX ok hr hN hm mb Kbad Kdone Kmore
theorem nf2(N:Nat)(caps:List V):aP (.nil 3 false) [.func (.func N) [] caps,.nilf]=some (.bool false):=rfl
theorem AO:fg.length=64:=by unfold fg;rw[List.length_map];rfl
def uz(l:List Int)(view over anchor delta:Int)(nil:Bool):Int:=if¬okF view over∨nil=true then 1 else if anchor< -1∨l.length≤anchor∨delta<0∨2305843009213693952<delta then 4 else 0
theorem BS{h:Heap}{b N:Nat}{caps:List V}{l:List Int}{ks bs:List Bool}{view over anchor delta:Int}{lo:Bool}{m:Int→Int}(w:WF h)(g:Glb h)(a:Lo h b l ks bs)(pos:∀x∈l,1≤x)(hb:uz l view over anchor delta false=0)
 (hN:N<1099511627776) (hm:∀h',FrF b h h'→∀i:Int,0≤i→i<(bs.length:Nat)→ao go N ([.int .i64 i]++caps) h' fun u h''=>u=.int .i64 (m i)∧Fr [] h' h'') (mb:∀i,-9223372036854775808≤m i∧m i≤9223372036854775807):
 ao go 9 [.ptr b 0,.agg [.int .i64 view,.int .i64 over,.bool lo],.int .i64 anchor,.int .i64 delta,.func (.func N) [] caps] h fun u h'=>∃s n e l' ks',u=.tup [.int .i64 s,.int .i64 n,.int .i64 e]∧
  SetS m bs view over anchor delta lo 0 0 l ks s n e l' ks'∧(if e=0 then Lo h' b l' ks' bs else Lo h' b l ks bs)∧FrL b h h':=by
 have ok:okF view over:=by unfold uz at hb;by_cases c:okF view over;exact c;grind
 have hb2:¬(anchor< -1∨l.length≤anchor∨delta<0∨2305843009213693952<delta):=by unfold uz at hb;rw[if_neg iX]at hb;intro c;rw[if_pos c]at hb;omega
 have al:=a;let⟨p,vk,pm,o,v1,ix,mk,el⟩:=a;have zne:0≠b:=by rintro rfl;have:=congrArg List.length (g.own.uniq o);rw[AO]at this;simp at this
 have kl:=ix.len;have blt:=o.lt w;let⟨h1,e_h1,F_h1,o_h1⟩:=aj w [.int .i64 view,.int .i64 over,.bool lo];refine ac ?_;simp only[evs,seval,←e_h1];refine pD (fun k env hh=>∃(s:Int)(r:Nat)(bb:Nat)(l':List Int)(ks':List Bool),SS hh env b h.next bb N caps p pm vk l ks bs view over anchor delta lo r l' ks'∧env.get 10=some (.int .i64 s)∧FrL b h hh∧l'.length=l.length∧ks'.count false≤k∧r+ks'.count false≤1024∧
  ∀s2 n2 e2 l2 ks2,SetS m bs view over anchor delta lo s r l' ks' s2 n2 e2 l2 ks2→SetS m bs view over anchor delta lo 0 0 l ks s2 n2 e2 l2 ks2) (ks.count false) ?_ ?_ ?_
 grind;simp only[evs,seval,o_h1.ld];refine aa (vG F_h1.wf) ?_;rintro _ h2 ⟨rfl,F2⟩;have F12:=F_h1.then F2;simp only[evs,seval,eq_true ok,nf2 N caps,eq_false (oM:¬anchor< -1)];refine aa (gL F2.wf (al.fr F12)) ?_;rintro _ h3 ⟨rfl,F3⟩;have F13:=F12.then F3;let⟨h4,e_h4,F_h4,o_h4⟩:=aj F3.wf [.nilp,.nils];simp only[evs,seval,eq_false (oM:¬(l.length:Int)≤anchor),eq_false (oM:¬delta<0),eq_false (oM:¬2305843009213693952<delta),(F13.get o).ld,←e_h4];refine ah (c':=[pv p,vk]) F_h4.wf o_h4 rfl (by simp[au,V.cells,eR,v1]) rfl ?_;rintro h5 o5 F5 n5;have F35:Fr [] h3 h5:=F_h4.fresh F5 F3.wf (Nat.le_refl _);have F05:=F13.then F35;have F15:Fr [] h1 h5:=(F2.then F3).then F35;simp only[evs];have hc:ks.count false≤ks.length:=List.count_le_length;refine wa (s:=0) (m:=m) (r:=0) (anchor:=anchor) (delta:=delta) (lo:=lo) (view:=view) (over:=over) ⟨F05.wf,g.fr F05,⟨p,vk,F05.get o,v1,ix.fr F05⟩,mk.fr F05,el,pos,F15.get o_h1,o5,v1,ix.fr F05,el,oM,by have:=F13.next;omega,zne,iS,iS,iS,iS,iS,iS,iS,iS⟩ iS ok oM oM oM oM hN (fun h' f=>hm h' ((frF F05).trans f)) mb ?_ ?_ ?_;intro env' h' A a1 a2 a3 a4 a5 a6 a7;refine(cP _ _).2 ?_;simp only[evs,a3,a4,a5];exact⟨_,_,_,l,ks,rfl,SetS.bad a1 a2,by rw[if_neg a2];exact a6,(frL F05).trans a7⟩;intro env' h' A l' ks' a1 a2 a3 a4 a5 a6 a7;refine(cP _ _).2 ?_;simp only[evs,a3,a4,a5];exact⟨_,_,_,l',ks',rfl,SetS.done a1 a2,by rw[if_pos rfl];exact a6,(frL F05).trans a7⟩;intro env' h' A l' ks' a1 a2 a3 a4 a5;have sp:=dM m A l ks false kl.1 pos;rw[a2]at sp;simp only[]at sp;have:=sp.2.2.2.2 trivial;simp at this;exact⟨rfl,_,0+1,_,l',ks',a3,a4,(frL F05).trans a5,sp.1,sp.2.2.2.1,oM,fun s2 n2 e2 l2 ks2 q=>SetS.more a1 a2 q⟩;rintro k env hh ⟨s,r,bb,l',ks',S,g10,L,ll,hk,hr,up⟩;have hl':ks'.length=l'.length:=by let⟨_,_,_,_,i⟩:=S.ob;exact i.len.1
 have pos':=S.pos;refine wa (m:=m) S g10 ok oM oM oM oM hN (fun h' f=>hm h' (L.f.trans f)) mb ?_ ?_ ?_;intro env' h' A a1 a2 a3 a4 a5 a6 a7;refine(cP _ _).2 ?_;simp only[evs,a3,a4,a5];exact⟨_,_,_,l,ks,rfl,up _ _ _ _ _ (SetS.bad a1 a2),by rw[if_neg a2];exact a6,L.trans a7⟩;intro env' h' A l2 ks2 a1 a2 a3 a4 a5 a6 a7;refine(cP _ _).2 ?_;simp only[evs,a3,a4,a5];exact⟨_,_,_,l2,ks2,rfl,up _ _ _ _ _ (SetS.done a1 a2),by rw[if_pos rfl];exact a6,L.trans a7⟩;intro env' h' A l2 ks2 a1 a2 a3 a4 a5;have sp:=dM m A l' ks' false hl' pos';rw[a2]at sp;simp only[]at sp;have:=sp.2.2.2.2 trivial;simp at this;exact⟨rfl,ks2.count false,oM,_,r+1,bb,l2,ks2,a3,a4,L.trans a5,oM,Nat.le_refl _,oM,fun s2 n2 e2 l2 ks2 q=>up _ _ _ _ _ (SetS.more a1 a2 q)⟩
open Go.Ev.St
set_option maxRecDepth 4000
structure LQ(h:Heap)(v:V)(E:List Ent):Prop where
 re:Recs Ent.cells 6 h v E
 ie:∀e∈E,ItmH h e.x
 n:E.length≤1000
 ok:okZ E
 s:(E.map Ent.b).sum≤4611686018427387904
section
variable {h : Heap} {v : V} {E : List Ent} {view over x : Int}
theorem LQ.fr{h':Heap}(q:LQ h v E)(f:Fr [] h h'):LQ h' v E:=⟨q.re.fr f,fun e m=>(q.ie e m).fr f,q.n,q.ok,q.s⟩
theorem LQ.fit(q:LQ h v E):Fit (E.map Ent.b):=K7 (by have:=q.n;omega) q.ok q.s
theorem LQ.pos(q:LQ h v E):∀x∈E.map Ent.b,1≤x:=fun x m=>by obtain⟨e,em,rfl⟩:=List.mem_map.1 m;exact(q.ok e em).1
theorem LQ.one(q:LQ h v E):v.one=true:=Sl.one q.re
theorem tC(w:WF h)(q:LQ h v E)(v1:1≤view)(v2:view≤2147483648):ao go 108 [.agg [v],.int .i64 view] h fun u h'=>u=.int .i64 0∧Fr [] h h':=by
 have o:=q.one;let⟨h1,e_h1,F_h1,o_h1⟩:=aj w [v];have x1:ai h1 h.next 0 1=some [v]:=by rw[o_h1.ld];rfl
 have q1:=q.fr F_h1;refine ac ?_;simp only[evs,seval,←e_h1,x1];refine aa (pT F_h1.wf q1.re q1.ie (by have:=q.n;omega) q1.ok q1.s) ?_;rintro _ h2 ⟨rfl,F2⟩;simp only[evs,seval,decide_eq_false (oM:¬view<1),decide_eq_false (oM:¬2147483648<view)];exact F_h1.then F2
theorem BO(w:WF h)(q:LQ h v E)(v1:1≤view)(v2:view≤2147483648):ao go 110 [.agg [v],.int .i64 view,.int .i64 x] h fun u h'=>u=.tup [.int .i64 (aQ (E.map Ent.b) view x),.int .i64 0]∧Fr [] h h':=by
 have o:=q.one;let⟨h1,e_h1,F_h1,o_h1⟩:=aj w [v];have x1:∀{h'},Fr [] h1 h'→ai h' h.next 0 1=some [v]:=fun f=>by rw[(f.get o_h1).ld];rfl
 have q1:=q.fr F_h1;have nn:=q.ok.sum_nn;have qs:=q.s;refine ac ?_;simp only[evs,seval,←e_h1,x1 (Fr.refl F_h1.wf)];refine aa (tC F_h1.wf q1 v1 v2) ?_;rintro _ h2 ⟨rfl,F2⟩;have q2:=q1.fr F2;simp only[evs,seval,x1 F2];refine aa (iq F2.wf q2.re q2.ie (by have:=q.n;omega) q2.ok q2.s) ?_;rintro _ h3 ⟨rfl,F3⟩;simp(disch:=omega) only[evs,seval,ab];exact⟨by congr 3;unfold aQ;omega,(F_h1.then F2).then F3⟩
theorem Hk{key i:Nat}{m:Nat→Option Nat}(w:WF h)(q:LQ h v E)(ix:IxOf m E)(hi:m key=some i):ao go 109 [.agg [v],.int .u64 (key:Int)] h fun u h'=>u=.tup [.int .i64 ((E.map Ent.b).take i).sum,.bool true]∧Fr [] h h':=by
 have o:=q.one;let⟨h1,e_h1,F_h1,o_h1⟩:=aj w [v];have x1:∀{h'},Fr [] h1 h'→ai h' h.next 0 1=some [v]:=fun f=>by rw[(f.get o_h1).ld];rfl
 have q1:=q.fr F_h1;have hl:i<E.length:=by let⟨e,q,_⟩:=(ix key i).1 hi;exact(List.getElem?_eq_some_iff.1 q).1
 refine ac ?_;simp only[evs,seval,←e_h1,x1 (Fr.refl F_h1.wf)];refine aa (wy F_h1.wf q1.re q1.ie (by have:=q.n;omega) ix) ?_;rintro _ h2 ⟨rfl,F2⟩;have q2:=q1.fr F2;simp only[evs,seval,mj,hi,x1 F2];refine aa (um F2.wf q2.re q2.ie (by have:=q.n;omega) q2.ok q2.s) ?_;rintro _ h3 ⟨F3,p,_,rfl,op⟩;have xa:=cL 1 p 0 (E.length+1) (E.length+1) .i64 (i:Int) oM oM;simp only[Int.toNat_natCast,Nat.mul_one,Nat.zero_add]at xa;have lt:ag h3 p i=some (.int .i64 ((E.map Ent.b).take i).sum):=by rw[op.ld1,dL,gz oO,if_pos oM]
 simp only[evs,seval,xa,lt];exact(F_h1.then F2).then F3
theorem tR{k:Nat}{d:Int}(w:WF h)(d0:0≤d)(d1:d≤2305843009213693952)(hk:k=0→d=0):ao go 59 [vA k d] h fun u h'=>u=.int .i64 0∧Fr [] h h':=by let⟨h1,e_h1,F_h1,o_h1⟩:=aj w [.int .u64 (k:Int),.int .i64 d];have l0:ag h1 h.next 0=some (.int .u64 (k:Int)):=o_h1.ld1 0;have l1:ag h1 h.next 1=some (.int .i64 d):=o_h1.ld1 1;by_cases c:k=0;have:=hk c;refine ac ?_;simp only[evs,seval,←e_h1,l0,l1,decide_eq_false (oM:¬d<0),decide_eq_false (oM:¬2305843009213693952<d),decide_eq_true (oM:(k:Int)=0),decide_eq_false (oM:¬0<d)];exact F_h1;refine ac ?_;simp only[evs,seval,←e_h1,l0,l1,decide_eq_false (oM:¬d<0),decide_eq_false (oM:¬2305843009213693952<d),decide_eq_false (oM:¬(k:Int)=0)];exact F_h1
def xY(l:List Int)(anchor delta:Int):Int:=if 0≤anchor then(l.take anchor.toNat).sum+delta else 0
theorem A6{k:Nat}{a d:Int}{m:Nat→Option Nat}(w:WF h)(q:LQ h v E)(ix:IxOf m E)(v1:1≤view)(v2:view≤2147483648)(d0:0≤d)(d1:d≤2305843009213693952)(hk:(k=0∧a=-1∧d=0)∨(k≠0∧∃i:Nat,a=i∧m k=some i)):
 ao go 62 [.agg [v],.int .i64 view,vA k d] h fun u h'=>u=.tup [.int .i64 (aQ (E.map Ent.b) view (xY (E.map Ent.b) a d)),.int .i64 0]∧Fr [] h h':=by
 have o:=q.one;let⟨h1,e_h1,F_h1,o_h1⟩:=aj w [v];let⟨h2,e_h2,F_h2,o_h2⟩:=aj F_h1.wf [.int .u64 (k:Int),.int .i64 d];have F02:=F_h1.then F_h2;have x1:∀{h'},Fr [] h2 h'→ai h' h.next 0 1=some [v]:=fun f=>by rw[(f.get (F_h2.get o_h1)).ld];rfl
 have y2:∀{h'},Fr [] h2 h'→ai h' h1.next 0 2=some [.int .u64 (k:Int),.int .i64 d]:=fun f=>by rw[(f.get o_h2).ld];rfl
 have y0:∀{h'},Fr [] h2 h'→ag h' h1.next 0=some (.int .u64 (k:Int)):=fun f=>(f.get o_h2).ld1 0;have y1:∀{h'},Fr [] h2 h'→ag h' h1.next 1=some (.int .i64 d):=fun f=>(f.get o_h2).ld1 1;have q2:=q.fr F02;refine ac ?_;simp only[evs,seval,←e_h1,←e_h2,x1 (Fr.refl F02.wf)];refine aa (tC F02.wf q2 v1 v2) ?_;rintro _ h3 ⟨rfl,F3⟩;simp only[evs,seval,y2 F3];refine aa (tR F3.wf d0 d1 (fun z=>by obtain⟨_,_,e⟩|⟨e,_⟩:=hk;exact e;exact absurd z e)) ?_
 rintro _ h4 ⟨rfl,F4⟩;have F24:=F3.then F4;obtain⟨k0,ha,hd⟩|⟨k0,i,ha,hi⟩:=hk;simp only[evs,seval,y0 F24,eq_true (oM:(k:Int)=0)];refine⟨?_,F02.then F24⟩;have nn:=q.ok.sum_nn;congr 3;rw[xY,if_neg oM];unfold aQ;omega;have hl:i<E.length:=by let⟨e,q,_⟩:=(ix k i).1 hi;exact(List.getElem?_eq_some_iff.1 q).1
 simp only[evs,seval,y0 F24,eq_false (oM:¬(k:Int)=0),x1 F24];apply aa (Hk F4.wf (q2.fr F24) ix hi);rintro _ h5 ⟨rfl,F5⟩;have F25:=F24.then F5;have t1:0≤((E.map Ent.b).take i).sum∧((E.map Ent.b).take i).sum≤(E.map Ent.b).sum:=Cc q.fit i;have qs:=q.s;simp(disch:=omega) only[evs,seval,ab,x1 F25,y1 F25];apply aa (BO F5.wf (q2.fr F25) v1 v2);rintro _ h6 ⟨rfl,F6⟩;simp only[evs,seval];subst ha;rw[xY,if_pos oM,Int.toNat_natCast];exact⟨rfl,(F02.then F25).then F6⟩
end
open Go.Ev.St
set_option maxRecDepth 4000
theorem FW{l:List Int}(f:Fit l){x:Int}(h0:0≤x)(h1:x<l.sum)(i:Nat):x<(l.take (i+1)).sum↔(aB l x).1≤i:=by have:=zR f h0 h1 (i+1);omega
section
variable {h : Heap} {v : V} {E : List Ent} {view over x s : Int}
theorem wb{q n:Nat}{l:List Int}(w:WF h)(f:Fit l)(o:Own h q (tpL l n))(hl:l.length=n)(hn:n≤4096)(h0:0≤x)(h1:x<l.sum):
 ao go 211 [.slice q 0 (n+1) (n+1),.int .i64 x] h fun u h'=>u=.int .i64 ((aB l x).1:Nat)∧Fr [] h h':=by
 have hk:=bF h0 h1;let⟨h3,e_h3,F_h3,o_h3⟩:=aj w [.slice q 0 (n+1) (n+1)];let⟨h4,e_h4,F_h4,o_h4⟩:=aj F_h3.wf [.int .i64 x];have l3:ag h4 h.next 0=some (.slice q 0 (n+1) (n+1)):=(F_h4.get o_h3).ld1 0;have F24:=F_h3.then F_h4;refine ac ?_;simp(disch:=omega) only[evs,seval,ab,←e_h3,←e_h4,l3,(oM:((n+1:Nat):Int)-1=(n:Nat))];refine aa (AS (k:=(aB l x).1) (F_h4.get o_h3) o_h4 (F24.get o) hl hn oM (fun i _=>FW f h0 h1 i)) ?_;rintro _ _ ⟨rfl,rfl⟩;simp only[evs,seval];exact F24
theorem mG{l:List Int}(h:aQ l view s=s):0≤s∧s≤max 0 (l.sum-view):=by unfold aQ at h;omega
theorem vF(w:WF h)(q:LQ h v E)(v1:1≤view)(v2:view≤2147483648)(cl:aQ (E.map Ent.b) view s=s):ao go 210 [.agg [v],.int .i64 s,.int .i64 view] h fun u h'=>u=.int .i64 0∧Fr [] h h':=by
 have o:=q.one;have ci:=mG cl;have nn:=q.ok.sum_nn;have qs:=q.s;let⟨h1,e_h1,F_h1,o_h1⟩:=aj w [v];have x1:∀{h'},Fr [] h1 h'→ai h' h.next 0 1=some [v]:=fun f=>by rw[(f.get o_h1).ld];rfl
 have q1:=q.fr F_h1;refine ac ?_;simp only[evs,seval,←e_h1,x1 (Fr.refl F_h1.wf)];refine aa (pT F_h1.wf q1.re q1.ie (by have:=q.n;omega) q1.ok q1.s) ?_;rintro _ h2 ⟨rfl,F2⟩;have q2:=q1.fr F2;simp only[evs,seval,decide_eq_false (oM:¬view<1),decide_eq_false (oM:¬2147483648<view),decide_eq_false (oM:¬s<0),x1 F2];refine aa (iq F2.wf q2.re q2.ie (by have:=q.n;omega) q2.ok q2.s) ?_;rintro _ h3 ⟨rfl,F3⟩;obtain⟨m,em⟩:∃m,m=max 0 ((E.map Ent.b).sum-view):=⟨_,rfl⟩;simp(disch:=omega) only[evs,seval,ab,show max 0 ((E.map Ent.b).sum-view)=m from em.symm,decide_eq_false (oM:¬m<s)];exact(F_h1.then F2).then F3
theorem C3{l:List Int}(f:Fit l)(pos:∀x∈l,1≤x)(hl:l≠[]):((aB l (l.sum-1)).1:Int)=(l.length:Int)-1:=by have hp:=gF pos hl;have lt:=bF (l:=l) (x:=l.sum-1) oM oM;have sp:=nv (l:=l) (x:=l.sum-1) oM oM;obtain c|c:=Nat.lt_or_ge ((aB l (l.sum-1)).1+1) l.length;have h2:=List.sum_append (l₁:=l.take ((aB l (l.sum-1)).1+1)) (l₂:=l.drop ((aB l (l.sum-1)).1+1));rw[List.take_append_drop]at h2;have:=gF (l:=l.drop ((aB l (l.sum-1)).1+1)) (fun x m=>pos x (List.mem_of_mem_drop m)) (fun e=>by have:=congrArg List.length e;simp at this;omega);omega;omega
theorem xI(w:WF h)(q:LQ h v E)(v1:1≤view)(v2:view≤2147483648)(cl:aQ (E.map Ent.b) view s=s):ao go 189 [.agg [v],.int .i64 s,.int .i64 view] h fun u h'=>
 u=(if E=[]then .tup [.int .i64 0,.int .i64 0,.int .i64 0]else .tup [.int .i64 ((aB (E.map Ent.b) s).1:Nat),.int .i64 (cW (E.map Ent.b) view s+1),.int .i64 0])∧Fr [] h h':=by
 have o:=q.one;have ci:=mG cl;have nn:=q.ok.sum_nn;have qs:=q.s;let⟨h1,e_h1,F_h1,o_h1⟩:=aj w [v];have x1:∀{h'},Fr [] h1 h'→ai h' h.next 0 1=some [v]:=fun f=>by rw[(f.get o_h1).ld];rfl
 have q1:=q.fr F_h1;refine ac ?_;simp only[evs,seval,←e_h1,x1 (Fr.refl F_h1.wf)];refine aa (vF F_h1.wf q1 v1 v2 cl) ?_;rintro _ h2 ⟨rfl,F2⟩;have q2:=q1.fr F2;simp only[evs,seval,x1 F2];refine aa (um F2.wf q2.re q2.ie (by have:=q.n;omega) q2.ok q2.s) ?_;rintro _ h3 ⟨F3,p,_,rfl,op⟩;have F03:=(F_h1.then F2).then F3;by_cases c:E=[];subst c;rw[if_pos rfl];simp(disch:=omega) only[evs,seval,ab];exact F03;rw[if_neg c];have qn:=q.n;have hn:=List.length_pos_iff.2 c;have hne:E.map Ent.b≠[]:=by simpa using c
 have hp:=gF q.pos hne;have fit:=q.fit;have xb:=cL 1 p 0 (E.length+1) (E.length+1) .i64 (((E.length+1:Nat):Int)-1) oM oM;simp only[(oM:(((E.length+1:Nat):Int)-1).toNat=E.length),Nat.mul_one,Nat.zero_add]at xb;have lt:ag h3 p E.length=some (.int .i64 (E.map Ent.b).sum):=by rw[op.ld1,dL,gz iS,if_pos (Nat.le_refl _),List.take_of_length_le iS]
 obtain⟨en,hen⟩:∃en,en=min (s+view) (E.map Ent.b).sum:=⟨_,rfl⟩;simp(disch:=omega) only[evs,seval,ab,eq_false (oM:¬((E.length+1:Nat):Int)=1),xb,lt,show min (s+view) (E.map Ent.b).sum=en from hen.symm];refine aa (wb (x:=s) F3.wf fit op iS (by have:=q.n;omega) oM oM) ?_;rintro _ h4 ⟨rfl,F4⟩;simp(disch:=omega) only[evs,seval,ab];refine aa (wb (x:=en-1) F4.wf fit (F4.get op) iS (by have:=q.n;omega) oM oM) ?_;rintro _ h5 ⟨rfl,F5⟩;have ll:((aB (E.map Ent.b) (en-1)).1:Int)=cW (E.map Ent.b) view s:=by unfold cW;split;grind;rw[(oM:en-1=(E.map Ent.b).sum-1),C3 fit q.pos hne]
 have lk:=bF (l:=E.map Ent.b) (x:=en-1) oM oM;have:=q.n;rw[List.length_map]at lk;simp(disch:=omega) only[evs,seval,ab,←ll];exact(F03.then F4).then F5
theorem HJ(a b:Int):aP (.seq false [0,0]) [.agg [.int .i64 a,.int .i64 b],.agg [.int .i64 0,.int .i64 0]]=some (.bool (decide (a=0∧b=0))):=by
 have e:fZ [0,0] [.int .i64 a,.int .i64 b] [.int .i64 0,.int .i64 0]=some (decide (a=0∧b=0)):=by show(bif jE IntKind.i64 IntKind.i64 then bif ieq a 0 then bif jE IntKind.i64 IntKind.i64 then bif ieq b 0 then some true else some false else none else some false else none)=_;rw[dh,dh,bG];by_cases c:a=0;grind;grind
 show(fZ [0,0] _ _).map _=_;rw[e];rfl
theorem AK(w:WF h)(q:LQ h v E)(ok:okF view over)(cl:aQ (E.map Ent.b) view s=s):ao go 158 [.agg [v],.int .i64 s,.int .i64 view,.int .i64 over] h fun u h'=>
 u=(if E=[]then .tup [.agg [.int .i64 0,.int .i64 0],.int .i64 0]else .tup [.agg [.int .i64 (dA (E.map Ent.b) view over s).1,.int .i64 (dA (E.map Ent.b) view over s).2],.int .i64 0])∧Fr [] h h':=by
 have o:=q.one;let⟨v1,v2,o1,o2⟩:=ok;have nn:=q.ok.sum_nn;have qs:=q.s;have qn:=q.n;have ci:=mG cl;let⟨h1,e_h1,F_h1,o_h1⟩:=aj w [v];let⟨h2,e_h2,F_h2,o_h2⟩:=aj F_h1.wf [.int .i64 0,.int .i64 0];have n1:=hnx e_h1;have F02:=F_h1.then F_h2;have x0:∀{h'},Fr [] h2 h'→ag h' h.next 0=some v:=fun f=>(f.get (F_h2.get o_h1)).ld1 0;have x1:∀{h'},Fr [] h2 h'→ai h' h.next 0 1=some [v]:=fun f=>by rw[(f.get (F_h2.get o_h1)).ld];rfl
 have q2:=q.fr F02;refine ac ?_;simp only[evs,seval,←e_h1,←e_h2,x1 (Fr.refl F02.wf)];refine aa (xI F02.wf q2 v1 v2 cl) ?_;rintro _ h3 ⟨rfl,F3⟩;have n3:=F3.next;let⟨h4,e_h4,F_h4,o_h4⟩:=aj F3.wf [.int .i64 0,.int .i64 0];have n4:=hnx e_h4;by_cases c:E=[];rw[if_pos c,if_pos c];simp only[evs,seval,←e_h4,decide_eq_false (oM:¬over<0),decide_eq_false (oM:¬16<over)];apply stu F_h4.wf o_h4;rintro h5 o5 F5 n5;have l5:ai h5 h3.next 0 2=some [.int .i64 0,.int .i64 0]:=by rw[o5.ld];rfl
 have F35:Fr [] h3 h5:=F_h4.fresh F5 F3.wf (Nat.le_refl _);simp only[evs,seval,l5,HJ];apply stu F5.wf (F35.get (F3.get o_h2));rintro h6 o6 F6 n6;have l6:ai h6 h1.next 0 2=some [.int .i64 0,.int .i64 0]:=by rw[o6.ld];rfl
 simp only[evs,seval,l6];exact(F02.then (F3.then F35)).fresh F6 w oM;rw[if_neg c,if_neg c];have hne:E.map Ent.b≠[]:=by simpa using c
 have hp:=gF q.pos hne;have lt1:=bF (l:=E.map Ent.b) (x:=s) oM oM;have ll:((aB (E.map Ent.b) s).1:Int)≤cW (E.map Ent.b) view s∧cW (E.map Ent.b) view s<(E.map Ent.b).length:=by unfold cW;split;have:=eN (E.map Ent.b) (x:=s) (y:=s+view-1) oM;have:=bF (l:=E.map Ent.b) (x:=s+view-1) oM (by assumption);omega;omega
 have hw:dA (E.map Ent.b) view over s=(max 0 (((aB (E.map Ent.b) s).1:Int)-over),min (E.length:Int) (cW (E.map Ent.b) view s+1+over)):=by unfold dA;rw[List.length_map]
 rw[hw];rw[List.length_map]at lt1 ll;generalize(aB (E.map Ent.b) s).1=fr at *;generalize cW (E.map Ent.b) view s=la at *;simp only[evs,seval,←e_h4,decide_eq_false (oM:¬over<0),decide_eq_false (oM:¬16<over)];apply stu F_h4.wf o_h4;rintro h5 o5 F5 n5;have l5:ai h5 h3.next 0 2=some [.int .i64 (fr:Int),.int .i64 (la+1)]:=by rw[o5.ld];rfl
 have F35:Fr [] h3 h5:=F_h4.fresh F5 F3.wf (Nat.le_refl _);have F25:=F3.then F35;obtain⟨a,ea⟩:∃a,a=max 0 ((fr:Int)-over):=⟨_,rfl⟩;obtain⟨b,eb⟩:∃b,b=min (E.length:Int) (la+1+over):=⟨_,rfl⟩;simp(disch:=omega) only[evs,seval,ab,l5,HJ,decide_eq_false (oM:¬((fr:Int)=0∧la+1=0)),x0 F25,(q2.fr F25).re.len,←ea,←eb];apply stu F5.wf (F25.get o_h2);rintro h6 o6 F6 n6;have l6:ai h6 h1.next 0 2=some [.int .i64 a,.int .i64 b]:=by rw[o6.ld];rfl
 simp only[evs,seval,l6];exact(F02.then F25).fresh F6 w oM
end
open Go.Ev.St
set_option maxRecDepth 4000
def stK(Ks:List Knd)(E:List Ent):List Bool:=E.map fun e=>eW Ks e.x
theorem HdR.rest{l:List Int}{bs:List Bool}{s r:Int}(f:Fit l){j:Nat}:∀n,HdR l bs s j r→s<(l.take j).sum→HdR l bs s (j+n) r
 |0,a,_=>a
 |n+1,a,h=>(HdR.rest f n a h).skip fun _=>by have:=pJ f (oM:j≤j+n);omega
section
variable {h : Heap} {v vK : V} {E : List Ent} {Ks : List Knd} {view over x s : Int}
theorem B5(w:WF h)(q:LQ h v E)(rk:Recs Knd.cells 9 h vK Ks)(hk:Ks.length≤256)(ty:∀e∈E,e.x.type<Ks.length):ao go 159 [.agg [vK,.int .i64 12],.agg [v],.int .i64 s] h fun u h'=>(∃r,u=.int .i64 r∧HdR (E.map Ent.b) (stK Ks E) s E.length r∧-1≤r)∧Fr [] h h':=by
 have o:=q.one;have k1:vK.one=true:=Sl.one rk;have qn:=q.n;let⟨h1,e_h1,F_h1,o_h1⟩:=aj w [vK,.int .i64 12];let⟨h2,e_h2,F_h2,o_h2⟩:=aj F_h1.wf [v];have n1:=hnx e_h1;have F02:=F_h1.then F_h2;have x3:∀{h'},Fr [] h2 h'→ag h' h.next 0=some vK:=fun f=>(f.get (F_h2.get o_h1)).ld1 0;have x4:∀{h'},Fr [] h2 h'→ag h' h1.next 0=some v:=fun f=>(f.get o_h2).ld1 0;have y4:∀{h'},Fr [] h2 h'→ai h' h1.next 0 1=some [v]:=fun f=>by rw[(f.get o_h2).ld];rfl
 have q2:=q.fr F02;refine ac ?_;simp only[evs,seval,←e_h1,←e_h2,y4 (Fr.refl F02.wf)];refine aa (um F02.wf q2.re q2.ie oM q2.ok q2.s) ?_;rintro _ h3 ⟨F3,p,_,rfl,op⟩;simp only[evs,seval,x4 F3,(q2.fr F3).re.len];refine az (fun n env hh=>Fr [] h3 hh∧∃(i:Nat)(r:Int),env.get 20=some (.int .i64 i)∧env.get 19=some (.int .i64 E.length)∧env.get 18=some v∧env.get 9=some (.int .i64 r)∧env.get 7=some (.slice p 0 (E.length+1) (E.length+1))∧env.get 3=some (.ptr h.next 0)∧env.get 2=some (.int .i64 s)∧
  i≤E.length∧HdR (E.map Ent.b) (stK Ks E) s i r∧-1≤r∧n=E.length-i) E.length oM ?_ ?_
 exact⟨Fr.refl F3.wf,0,-1,iS,iS,iS,iS,iS,iS,iS,oM,.inl ⟨rfl,fun i hi=>by omega⟩,oM,rfl⟩;rintro n env hh ⟨F,i,r,g20,g19,g18,g9,g7,g3,g2,hi,hd,hr,rfl⟩;have F2h:=F3.then F;have qh:=q2.fr F2h;by_cases c:i<E.length;let⟨bi,oi,e,p1,_,p3,p4⟩:=qh.re.ix aM .i64 (i:Int) oM oM;rw[Int.toNat_natCast]at p4;have em:=List.mem_of_getElem? p4;have xa:=cL 1 p 0 (E.length+1) (E.length+1) .i64 (i:Int) oM oM;simp only[Int.toNat_natCast,Nat.mul_one,Nat.zero_add]at xa;have lt:∀{h'},Fr [] h3 h'→ag h' p i=some (.int .i64 ((E.map Ent.b).take i).sum):=fun f=>by rw[(f.get op).ld1,dL,gz oO,if_pos oM]
 have sb:(stK Ks E).getD i false=eW Ks e.x:=by simp[stK,List.getD,p4]
 let⟨h4,e_h4,F_h4,o_h4⟩:=aj F.wf [.int .u64 0,.int .u8 0,.str [],.nils,.int .i64 0,.bool false];simp only[evs,seval,g20,g19,g18,eq_true (oM:(i:Int)<E.length),p1,p3,←e_h4];refine ah (c':=e.cells) F_h4.wf o_h4 rfl (gG (qh.ie e em)) rfl ?_;rintro h5 o5 F5 n5;have F45:Fr [] hh h5:=F_h4.fresh F5 F.wf (Nat.le_refl _);have F3x:=F.then F45;have l1:ag h5 hh.next 1=some (.int .u8 (e.x.type:Int)):=o5.ld1 1;by_cases ct:s<((E.map Ent.b).take i).sum;simp only[evs,seval,g9,g7,g2,xa,lt F3x,eq_true ct];have:=hd.rest q.fit (E.length-i) ct;rw[(oM:i+(E.length-i)=E.length)]at this;exact⟨⟨_,rfl,this,hr⟩,(F02.then F3).then F3x⟩;have te:=ty e em;let⟨bk,ok',kd,k1',k2,_,k4⟩:=(Recs.fr rk (F02.then (F3.then F3x))).ix dW .u8 (e.x.type:Int) oM oM;rw[Int.toNat_natCast]at k4;have l7:ag h5 bk (ok'+7)=some (.bool kd.sticky):=k2 7 oM;have ks:eW Ks e.x=kd.sticky:=by unfold eW;rw[k4]
 rw[ks]at sb;cases cs:kd.sticky;rw[cs]at l7 sb;simp(disch:=omega) only[evs,seval,ab,g20,g7,g3,g2,xa,lt F3x,eq_false ct,x3 (F3.then F3x),l1,k1',l7];refine rqn ⟨E.length-(i+1),oM,F3x,i+1,r,iS,iX,iX,iX,iX,iX,iX,oM,hd.skip (fun z=>by rw[sb]at z;cases z),hr,rfl⟩;rw[cs]at l7 sb;simp(disch:=omega) only[evs,seval,ab,g20,g7,g3,g2,xa,lt F3x,eq_false ct,x3 (F3.then F3x),l1,k1',l7];refine rqn ⟨E.length-(i+1),oM,F3x,i+1,(i:Int),iS,iX,iX,iS,iX,iX,iX,oM,.inr ⟨i,rfl,oM,sb,oM,fun j h1 h2=>by omega⟩,oM,rfl⟩;obtain rfl:i=E.length:=oM;simp only[evs,seval,g20,g19,g9,(oM:¬((E.length:Nat):Int)<E.length)];exact⟨⟨_,rfl,hd,hr⟩,(F02.then F3).then F⟩
abbrev iV(A:List Int):List V:=A.map (V.int .i64)
theorem Gx(A:List Int):au (iV A)=true:=by
 induction A with
 |nil=>rfl
 |cons a A ih=>show au (_::_)=true;rw[av,ih];rfl
theorem jT{A:List Int}(w:WF h)(a:Sl h 1 v A.length (iV A))(hn:A.length≤4096):ao go 112 [v] h fun u h'=>Fr [] h h'∧TbC 1 h' u h.next (iV A) A.length:=by
 by_cases c:A.length=0;obtain rfl:=List.eq_nil_of_length_eq_zero c;refine ac ?_;simp only[evs,seval,a.len];exact⟨Fr.refl w,rfl,.inl ⟨rfl,rfl⟩⟩;refine ac ?_;simp only[evs,seval,a.len,eq_false (oM:¬((A.length:Nat):Int)=0)];refine(bX _ _ _ _ _ _ _ _ oM oM oM oM).2 ?_;simp only[Int.toNat_natCast];obtain⟨h1,e_h1⟩:∃h1,h1=halloc h (bq [.int .i64 0] A.length):=⟨_,rfl⟩;have F_h1:Fr [] h h1:=e_h1▸Fr.halloc w _;have o_h1:Own h1 h.next (bq [.int .i64 0] A.length):=e_h1▸Own.new w _;rw[←e_h1];have lr:(bq [.int .i64 0] A.length).length=A.length*1:=by rw[jv];rfl
 simp only[evs,seval];apply qG F_h1.wf o_h1 lr (Sl.a a|>.fr F_h1) (Gx A);intro h2 o2 F2 n2;simp only[evs,seval];exact⟨F_h1.fresh F2 w (Nat.le_refl _),iS,.inr ⟨rfl,o2⟩⟩
end
set_option maxRecDepth 4000
def rG(l:List Int)(bs:List Bool)(view over s:Int)(A:List Int):Prop:=∃hd,HdR l bs s l.length hd∧A=if l=[]then[]else yL (dA l view over s).1 (dA l view over s).2 hd l.length
inductive SetR(m:Int→Int)(bs:List Bool)(view over anchor delta:Int)(lo:Bool):Int→Nat→List Int→List Bool→Int→Int→Int→List Int→List Bool→Prop
 |bad {s:Int} {r:Nat} {l:List Int} {ks:List Bool} {A l':List Int} {ks':List Bool}:rG l bs view over (sAt l view anchor delta lo r s) A→(aR m A l ks false).1≠0→SetR m bs view over anchor delta lo s r l ks 0 0 (aR m A l ks false).1 l' ks'
 |done {s:Int} {r:Nat} {l:List Int} {ks:List Bool} {A l':List Int} {ks':List Bool}:rG l bs view over (sAt l view anchor delta lo r s) A→aR m A l ks false=(0,l',ks',false)→SetR m bs view over anchor delta lo s r l ks (sAt l view anchor delta lo r s) r 0 l' ks'
 |more {s:Int} {r:Nat} {l:List Int} {ks:List Bool} {A l':List Int} {ks':List Bool} {s2 n2 e2:Int} {l2:List Int} {ks2:List Bool}:rG l bs view over (sAt l view anchor delta lo r s) A→aR m A l ks false=(0,l',ks',true)→
  SetR m bs view over anchor delta lo (sAt l view anchor delta lo r s) (r+1) l' ks' s2 n2 e2 l2 ks2→SetR m bs view over anchor delta lo s r l ks s2 n2 e2 l2 ks2
theorem zw:∀(l:List Int)(i:Nat)(x:Int),i<l.length→(l.set i x).sum=l.sum-l.getD i 0+x
 |[],i,x,h=>by simp at h
 |y::l,0,x,_=>by simp[List.getD];omega
 |y::l,i+1,x,h=>by have:=zw l i x (eV h);simp only[List.set_cons_succ,List.sum_cons,this];simp[List.getD];omega
theorem GJ{l:List Int}{i x:Int}(f:Fit l)(z:cS l i x=0):Fit (l.set i.toNat x):=by let⟨a1,a2,a3,a4⟩:=rS z;unfold cS at z;rw[if_pos ⟨a1,a2⟩,if_neg oM]at z;refine⟨fun y hy=>?_,?_,by simpa using f.2.2⟩;obtain q|q:=List.mem_or_eq_of_mem_set hy;exact f.1 y q;omega;rw[zw l i.toNat x oM];split at z<;>omega
theorem nu(m:Int→Int):∀(A l:List Int)(ks:List Bool)(mo:Bool),Fit l→Fit (aR m A l ks mo).2.1
 |[],l,ks,mo,f=>f
 |i::A,l,ks,mo,f=>by rw[aR];split;split;exact nu m A l ks mo f;split;rename_i z;exact nu m A _ _ true (GJ f z);exact f;exact f
theorem dY{l:List Int}{bs:List Bool}{view over s:Int}{A A':List Int}(f:Fit l)(pos:∀x∈l,1≤x)(hl:bs.length=l.length)(ok:okF view over)(cl:aQ l view s=s)(a:jh l bs view over s A)(b:rG l bs view over s A'):A=A':=by
 obtain⟨hd,h1,rfl⟩:=b;unfold jh at a;by_cases c:l=[];grind;rw[if_neg c]at a⊢;have hp:=gF pos c;have:=ok.1;have hs:0≤s∧s<l.sum:=by unfold aQ at cl;omega
 exact Jg f hl hs.1 hs.2 c ok.1 ok.2.2.1 a h1
theorem dq(l:List Int)(view anchor delta:Int)(lo:Bool)(r:Nat)(s:Int):aQ l view (sAt l view anchor delta lo r s)=sAt l view anchor delta lo r s:=lI _ _ _
theorem SetS.same{m:Int→Int}{bs:List Bool}{view over anchor delta:Int}{lo:Bool}{s:Int}{r:Nat}{l:List Int}{ks:List Bool}{s1 n1 e1:Int}{l1:List Int}{ks1:List Bool}(ok:okF view over)(a:SetS m bs view over anchor delta lo s r l ks s1 n1 e1 l1 ks1):
 ∀{s2 n2 e2:Int}{l2:List Int}{ks2:List Bool},SetR m bs view over anchor delta lo s r l ks s2 n2 e2 l2 ks2→Fit l→(∀x∈l,1≤x)→bs.length=l.length→ks.length=l.length→s1=s2∧n1=n2∧e1=e2∧(e1=0→l1=l2∧ks1=ks2):=by
 induction a with
 |bad a1 a2=>
  intro s2 n2 e2 l2 ks2 b f pos hl hk;cases b with
  |bad b1 b2=>have:=dY f pos hl ok (dq _ _ _ _ _ _ _) a1 b1;subst this;exact⟨rfl,rfl,rfl,fun z=>absurd z a2⟩
  |done b1 b2=>have:=dY f pos hl ok (dq _ _ _ _ _ _ _) a1 b1;subst this;rw[b2]at a2;exact absurd rfl a2
  |more b1 b2 _=>have:=dY f pos hl ok (dq _ _ _ _ _ _ _) a1 b1;subst this;rw[b2]at a2;exact absurd rfl a2
 |done a1 a2=>
  intro s2 n2 e2 l2 ks2 b f pos hl hk;cases b with
  |bad b1 b2=>have:=dY f pos hl ok (dq _ _ _ _ _ _ _) a1 b1;subst this;rw[a2]at b2;exact absurd rfl b2
  |done b1 b2=>have:=dY f pos hl ok (dq _ _ _ _ _ _ _) a1 b1;subst this;rw[a2]at b2;cases b2;exact⟨rfl,rfl,rfl,fun _=>⟨rfl,rfl⟩⟩
  |more b1 b2 _=>have:=dY f pos hl ok (dq _ _ _ _ _ _ _) a1 b1;subst this;rw[a2]at b2;cases b2
 | @more s r l ks A l' ks' s2' n2' e2' l2' ks2' a1 a2 _ ih=>
  intro s2 n2 e2 l2 ks2 b f pos hl hk;have sp:=dM m A l ks false hk pos;have ft:=nu m A l ks false f;rw[a2]at sp ft;simp only[]at sp ft;cases b with
  |bad b1 b2=>have:=dY f pos hl ok (dq _ _ _ _ _ _ _) a1 b1;subst this;rw[a2]at b2;exact absurd rfl b2
  |done b1 b2=>have:=dY f pos hl ok (dq _ _ _ _ _ _ _) a1 b1;subst this;rw[a2]at b2;cases b2
  |more b1 b2 b3=>have:=dY f pos hl ok (dq _ _ _ _ _ _ _) a1 b1;subst this;rw[a2]at b2;cases b2;exact ih b3 ft sp.2.2.1 oM oM
open Go.Ev.St
set_option maxRecDepth 4000
section
variable {h : Heap} {v vK : V} {E : List Ent} {Ks : List Knd} {view over s : Int}
theorem E4(w:WF h)(q:LQ h v E)(rk:Recs Knd.cells 9 h vK Ks)(kh:∀k∈Ks,KndH h k)(lo:LOk Ks h E)(ok:okF view over)(cl:aQ (E.map Ent.b) view s=s):
 ao go 111 [.agg [vK,.int .i64 12],.agg [v],.int .i64 s,.int .i64 view,.int .i64 over] h fun u h'=>Fr [] h h'∧∃A u' c,u=.tup [u',.int .i64 0]∧h.next≤c∧TbC 1 h' u' c (iV A) A.length∧rG (E.map Ent.b) (stK Ks E) view over s A∧A.length≤E.length∧∀i∈A,0≤i∧i<E.length:=by
 have o:=q.one;have k1:vK.one=true:=Sl.one rk;have qn:=q.n;have nn:=q.ok.sum_nn;have qs:=q.s;have ci:=mG cl;have r3:=lo.r.2.1;have ty:∀e∈E,e.x.type<Ks.length:=fun e m=>by
  have:=(lo.h e m).2.2.1;simp only[okI,Bool.and_eq_true,decide_eq_true_eq]at this;omega
 let⟨h1,e_h1,F_h1,o_h1⟩:=aj w [vK,.int .i64 12];let⟨h2,e_h2,F_h2,o_h2⟩:=aj F_h1.wf [v];have n1:=hnx e_h1;have n2:=hnx e_h2;have F02:=F_h1.then F_h2;have x5:∀{h'},Fr [] h2 h'→ai h' h.next 0 2=some [vK,.int .i64 12]:=fun f=>by rw[(f.get (F_h2.get o_h1)).ld];rfl
 have x6:∀{h'},Fr [] h2 h'→ai h' h1.next 0 1=some [v]:=fun f=>by rw[(f.get o_h2).ld];rfl
 have q2:=q.fr F02;have lo2:∀{h'},Fr [] h h'→LOk Ks h' E:=fun f=>⟨fun e m=>⟨(lo.h e m).1.fr f,(lo.h e m).2⟩,lo.b,lo.c,lo.n,lo.l,lo.r⟩;refine ac ?_;simp only[evs,seval,←e_h1,←e_h2,x5 (Fr.refl F02.wf),x6 (Fr.refl F02.wf)];refine aa (nw F02.wf (Recs.fr rk F02) (fun k m=>(kh k m).fr F02) q2.re (lo2 F02)) ?_;rintro _ h3 ⟨rfl,F3⟩;simp only[evs,seval,x6 F3];apply aa (AK F3.wf (q2.fr F3) ok cl);rintro _ h4 ⟨rfl,F4⟩;obtain⟨f,t,hw,hf0,hft,htn,hE⟩:∃f t:Int,(if E=[]then V.tup [.agg [.int .i64 0,.int .i64 0],.int .i64 0]else .tup [.agg [.int .i64 (dA (E.map Ent.b) view over s).1,.int .i64 (dA (E.map Ent.b) view over s).2],.int .i64 0])=.tup [.agg [.int .i64 f,.int .i64 t],.int .i64 0]∧0≤f∧f≤t∧t≤E.length∧
  ((E=[]∧f=0∧t=0)∨(E≠[]∧f=(dA (E.map Ent.b) view over s).1∧t=(dA (E.map Ent.b) view over s).2∧0≤s∧s<(E.map Ent.b).sum∧((aB (E.map Ent.b) s).1:Int)<t)):=by
  by_cases c:E=[]
  ·exact⟨0,0,by rw[if_pos c],oM,oM,oM,.inl ⟨c,rfl,rfl⟩⟩
  ·let⟨v1,v2,o1,o2⟩:=ok;have hne:E.map Ent.b≠[]:=by simpa using c
   have hp:=gF q.pos hne;have lt1:=bF (l:=E.map Ent.b) (x:=s) oM oM;have ll:((aB (E.map Ent.b) s).1:Int)≤cW (E.map Ent.b) view s∧cW (E.map Ent.b) view s<(E.map Ent.b).length:=by
    unfold cW;split
    ·have:=eN (E.map Ent.b) (x:=s) (y:=s+view-1) oM;have:=bF (l:=E.map Ent.b) (x:=s+view-1) oM (by assumption);omega
    ·omega
   have e1:(dA (E.map Ent.b) view over s).1=max 0 (((aB (E.map Ent.b) s).1:Int)-over):=rfl;have e2:(dA (E.map Ent.b) view over s).2=min ((E.map Ent.b).length:Int) (cW (E.map Ent.b) view s+1+over):=rfl;rw[List.length_map]at lt1 ll e2;exact⟨_,_,by rw[if_neg c],oM,oM,oM,.inr ⟨c,rfl,rfl,oM,oM,oM⟩⟩
 rw[hw];let⟨h5,e_h5,F_h5,o_h5⟩:=aj F4.wf [.int .i64 0,.int .i64 0];have n4:=(F3.then F4).next;have n5:=hnx e_h5;simp only[evs,seval,←e_h5];apply stu F_h5.wf o_h5;rintro h6 o6 F6 n6;have F46:Fr [] h4 h6:=F_h5.fresh F6 F4.wf (Nat.le_refl _);have F26:=(F3.then F4).then F46;have l0:∀{h'},Fr [] h6 h'→ag h' h4.next 0=some (.int .i64 f):=fun f=>(f.get o6).ld1 0;have l1:∀{h'},Fr [] h6 h'→ag h' h4.next 1=some (.int .i64 t):=fun f=>(f.get o6).ld1 1;have r6:Fr [] h6 h6:=Fr.refl F6.wf;simp(disch:=omega) only[evs,seval,ab,l0 r6,l1 r6];refine(bX _ _ _ _ _ _ _ _ oM oM oM oM).2 ?_;rw[fO];obtain⟨n,hn⟩:∃n:Nat,n=(t-f+1).toNat:=⟨_,rfl⟩;rw[←hn,(iR:(0:Int).toNat=0)];obtain⟨h7,e_h7⟩:∃h7,h7=halloc h6 (List.replicate n (V.int .i64 0)):=⟨_,rfl⟩;have F_h7:Fr [] h6 h7:=e_h7▸Fr.halloc F6.wf _;have o_h7:Own h7 h6.next (List.replicate n (V.int .i64 0)):=e_h7▸Own.new F6.wf _;have n7:=hnx e_h7;have F27:=F26.then F_h7;simp only[evs,seval,←e_h7,x5 F27,x6 F27];apply aa (B5 F_h7.wf (q2.fr F27) (Recs.fr rk (F02.then F27)) oM ty);rintro _ h8 ⟨⟨r,rfl,hd,hr⟩,F8⟩;have F28:=F27.then F8;have F68:=F_h7.then F8;have o8:=F8.get o_h7;have hrt:r<t∨r=-1:=by
  obtain⟨e,_⟩|⟨p,e,hp,_,h2,_⟩:=hd
  ·exact .inr e
  ·obtain⟨rfl,_⟩|⟨_,_,_,s0,s1,lt⟩:=hE
   ·simp at hp
   ·have:=(zR q.fit s0 s1 p).1 h2;exact .inl oM
 have core:∀(pre:List Int)(env:T V)(hh:Heap),Fr [] h2 hh→Fr [] h6 hh→pre.length≤1→pre=(if 0≤r∧r<f then[r]else[])→Own hh h6.next (iV pre++List.replicate (n-pre.length) (V.int .i64 0))→
  env.get 17=some (.int .i64 f)→env.get 13=some (.ptr h4.next 0)→env.get 15=some (.slice h6.next 0 pre.length n)→
  ∀{Q:Ex→T V→Heap→Prop},(∀env' hh A,Fr [] h2 hh→A.length≤1+(t-f).toNat→A=pre++rng f (t-f).toNat→Own hh h6.next (iV A++List.replicate (n-A.length) (V.int .i64 0))→env'.get 15=some (.slice h6.next 0 A.length n)→Q (.exit 0) env' hh)→
  W go (.loop (.seq (.seq (.ops [⟨none,.p (.faddr 1) [.v 13],none⟩,⟨none,.ld 1 false (.l 0),none⟩,⟨none,.p (.ib .lss) [.v 17,.l 0],some 63⟩]) (.cond (.v 63) (.skip) (.exit 0))) (.seq (.block 1 (.ops [⟨none,.p .mv [.v 15],none⟩,⟨none,.bs [(.int .i64 0)] [(0,1)] 1 [.v 17],none⟩,⟨none,.ap 1 8 (.l 1) (.l 0),none⟩,⟨none,.p .mv [.l 0],some 15⟩])) (.ops [⟨none,.p .mv [.v 17],none⟩,⟨none,.p (.ib .add) [.l 0,.c (.int .i64 1)],none⟩,⟨none,.p .mv [.l 0],some 17⟩])))) env hh Q:=by
  intro pre env hh F2h F6h hpl hpe oo g17 g13 g15 Q K;refine az (fun k env hh=>∃j:Nat,Fr [] h2 hh∧Fr [] h6 hh∧env.get 17=some (.int .i64 (f+j))∧env.get 13=some (.ptr h4.next 0)∧env.get 15=some (.slice h6.next 0 (pre.length+j) n)∧f+j≤t∧
   Own hh h6.next (iV (pre++rng f j)++List.replicate (n-(pre.length+j)) (V.int .i64 0))∧k=(t-f).toNat-j) (t-f).toNat oM ?_ ?_
  ·exact⟨0,F2h,F6h,(eV g17),g13,(eV g15),oM,by simpa[rng]using oo,rfl⟩
  ·clear F2h F6h oo g17 g13 g15;rintro k env hh ⟨j,F,G,g17,g13,g15,hj,oo,rfl⟩;by_cases hlt:f+(j:Int)<t
   ·let⟨h9,e_h9,F_h9,o_h9⟩:=aj F.wf [.int .i64 (f+j)];simp only[evs,seval,g17,g13,g15,l1 G,hlt,←e_h9];refine pz F_h9.wf (F_h9.get oo) o_h9 (by simp[eF];omega) oM rfl ?_;intro ha oa Fa na;have e8:=mw (pre++rng f j) (f+j) (n-(pre.length+j)) oM;rw[show(pre++rng f j).length=pre.length+j by simp[eF]]at e8;rw[e8,List.append_assoc,←pX]at oa;simp(disch:=omega) only[evs,seval,ab,g17];refine rqn ⟨(t-f).toNat-(j+1),oM,j+1,(F.then F_h9).fresh Fa F02.wf oM,(G.then F_h9).fresh Fa F6.wf oM,oO,iX,oO,oM,by rw[(oM:n-(pre.length+(j+1))=n-(pre.length+j)-1)];exact oa,rfl⟩
    done
   ·simp only[evs,seval,g17,g13,l1 G,hlt];have ej:j=(t-f).toNat:=oM
    refine K _ _ (pre++rng f j) F (by simp[eF];omega) (by rw[ej]) (by rw[show(pre++rng f j).length=pre.length+j by simp[eF]];exact oo) (by simp[eF,g15])
 have fin:∀(env':T V)(hh:Heap)(A:List Int),Fr [] h2 hh→A.length≤1+(t-f).toNat→A=(if 0≤r∧r<f then[r]else[])++rng f (t-f).toNat→Own hh h6.next (iV A++List.replicate (n-A.length) (V.int .i64 0))→∃u',aP (.sl none 1 false true true) [.slice h6.next 0 A.length n,.int .i64 (A.length:Int),.int .i64 (A.length:Int)]=some u'∧Sl hh 1 u' A.length (iV A)∧
  rG (E.map Ent.b) (stK Ks E) view over s A∧A.length≤E.length∧∀i∈A,0≤i∧i<E.length:=by
  intro env' hh A F hA eA oo;have la:A.length≤n:=oM
  have sl:Sl hh 1 (.slice h6.next 0 A.length n) A.length (iV A):=⟨iS,rfl,la,_,oo,iS,iS⟩;let⟨u',e1,e2,_⟩:=qL oM sl iS;refine⟨u',e1,e2,?_,?_,?_⟩
  ·refine⟨r,by rw[List.length_map];exact hd,?_⟩;obtain⟨rfl,e1,e2⟩|⟨c,e1,e2,s0,s1,lt⟩:=hE
   ·subst e1 e2;rw[eA,if_neg oM,(iR:(0-0:Int).toNat=0)];rfl
   ·rw[if_neg (eV c),←e1,←e2,mP f t r hf0 hft oM,List.length_map,eA,(oM:min (E.length:Int) t=t)];congr 1;by_cases c2:0≤r∧r<f
    ·grind
    ·grind
  ·rw[eA];split
   ·grind
   ·simp[eF];omega
  ·rw[eA];intro i m;rw[List.mem_append]at m;obtain m|m:=m
   ·grind
   ·simp only[rng,List.mem_map,List.mem_range]at m;obtain⟨j,hj,rfl⟩:=m;omega
 by_cases c:0≤r∧r<f
 ·let⟨h9,e_h9,F_h9,o_h9⟩:=aj F8.wf [.int .i64 r];simp only[evs,seval,decide_eq_true c.1,l0 F68,decide_eq_true c.2,←e_h9];apply pz F_h9.wf (F_h9.get o8) o_h9 iS oM rfl;intro ha oa Fa na;have e8:=mw [] r n oM;simp only[List.map_nil,List.nil_append,List.length_nil]at e8;rw[e8]at oa;have F2a:Fr [] h2 ha:=(F28.then F_h9).fresh Fa F02.wf oM;have F6a:Fr [] h6 ha:=(F68.then F_h9).fresh Fa F6.wf oM;simp only[evs,seval,l0 F6a];have hpe:[r]=if 0≤r∧r<f then[r]else[]:=by rw[if_pos c]
  apply core [r] _ ha F2a F6a iS hpe oa iS iS iS;rw[hpe];intro env' hh A F hA eA oo g15;let⟨u',e1,e2,e3,e4⟩:=fin env' hh A F hA eA oo;simp only[evs,seval,g15,e1];apply aa (jT F.wf e2 oM);rintro u hz ⟨Fz,tb⟩;simp only[evs,seval];exact⟨(F02.then F).then Fz,A,u,_,rfl,by have:=F.next;omega,tb,e3,e4⟩
 ·have hpe:[]=if 0≤r∧r<f then[r]else[]:=by rw[if_neg c]
  by_cases c1:0≤r
  ·simp only[evs,seval,decide_eq_true c1,l0 F68,decide_eq_false (fun z:r<f=>c ⟨c1,z⟩)];apply core [] _ h8 F28 F68 iS hpe (eV o8) iS iS iS;rw[hpe];intro env' hh A F hA eA oo g15;let⟨u',e1,e2,e3,e4⟩:=fin env' hh A F hA eA oo;simp only[evs,seval,g15,e1];apply aa (jT F.wf e2 oM);rintro u hz ⟨Fz,tb⟩;simp only[evs,seval];exact⟨(F02.then F).then Fz,A,u,_,rfl,by have:=F.next;omega,tb,e3,e4⟩
  ·simp only[evs,seval,decide_eq_false c1,l0 F68];apply core [] _ h8 F28 F68 iS hpe (eV o8) iS iS iS;rw[hpe];intro env' hh A F hA eA oo g15;let⟨u',e1,e2,e3,e4⟩:=fin env' hh A F hA eA oo;simp only[evs,seval,g15,e1];apply aa (jT F.wf e2 oM);rintro u hz ⟨Fz,tb⟩;simp only[evs,seval];exact⟨(F02.then F).then Fz,A,u,_,rfl,by have:=F.next;omega,tb,e3,e4⟩
end
open Go.Ev.St
set_option maxRecDepth 4000
section
variable {h : Heap} {v vK : V} {E : List Ent} {Ks : List Knd} {view over s : Int} {A : List Int} {p : Int → Bool} {bp B : Nat}
theorem xO(a:Sl h 1 v A.length (iV A))(i:Nat)(hi:i<A.length):∃b o x,aP (.ixs 1) [v,.int .i64 i]=some (.ptr b o)∧ag h b o=some (.int .i64 x)∧A[i]? =some x:=by let⟨b,o,x,e1,e2,e3⟩:=(show rB h v A from a).ix .i64 i oM oM;exact⟨b,o,x,e1,e2,by simpa using e3⟩
theorem Fr.in1{h':Heap}(w:WF h)(f:Fr [] h h'):Fr [B] h h':=f.trans (Fr.refl f.wf (S:=[])) w iS iS
def Fnd(h:Heap)(bp:Nat)(A:List Int)(p:Int→Bool):Prop:=∀h',Fr [] h h'→∀i∈A,ao go 114 [.int .i64 i,.ptr bp 0] h' fun u h''=>u=.bool (p i)∧Fr [] h' h''
theorem IZ(w:WF h)(a:Sl h 1 v A.length (iV A))(hn:A.length≤4096)(hp:Fnd h bp A p):ao go 160 [v,.func (.func 114) [] [.ptr bp 0]] h fun u h'=>(∃k:Nat,k≤A.length∧(A.take k).filter (fun x=> !p x)=A.take k∧
 ((k<A.length∧u=.int .i64 k∧(A.take (k+1)).filter (fun x=> !p x)=A.take k)∨(k=A.length∧u=.int .i64 (-1))))∧Fr [] h h':=by
 refine ac ?_;simp only[evs,seval,a.len];refine az (fun n env hh=>Fr [] h hh∧∃i:Nat,env.get 8=some (.int .i64 i)∧env.get 7=some (.int .i64 A.length)∧env.get 0=some v∧env.get 1=some (.func (.func 114) [] [.ptr bp 0])∧
  i≤A.length∧(A.take i).filter (fun x=> !p x)=A.take i∧n=A.length-i) A.length oM ?_ ?_
 ·exact⟨Fr.refl w,0,iS,iS,iS,iS,oM,rfl,rfl⟩
 rintro n env hh ⟨F,i,g8,g7,g0,g1,hi,e,rfl⟩;by_cases hlt:i<A.length
 ·let⟨b,o,x,e1,e2,e3⟩:=xO (a.fr F) i hlt;have ts:A.take (i+1)=A.take i++[x]:=by rw[List.take_add_one,e3];rfl
  simp only[evs,seval,g8,g7,g0,g1,eq_true (oM:(i:Int)<A.length),e1,e2];refine aa (hp _ F x (List.mem_of_getElem? e3)) ?_;rintro _ h1 ⟨rfl,F1⟩;cases c:p x
  ·simp(disch:=omega) only[evs,seval,ab,g8];refine rqn ⟨A.length-(i+1),oM,F.then F1,i+1,iS,iX,iX,iX,oM,by rw[ts,List.filter_append,e];simp[c],rfl⟩
   done
  ·simp only[evs,seval];exact⟨⟨i,hi,e,.inl ⟨hlt,rfl,by rw[ts,List.filter_append,e];simp[c]⟩⟩,F.then F1⟩
 ·simp only[evs,seval,g8,g7,eq_false (oM:¬(i:Int)<A.length)];exact⟨⟨i,hi,e,.inr oM⟩,F⟩
theorem I8(w:WF h)(a:TbC 1 h v B (iV A) A.length)(hn:A.length≤4096)(hB:bp<B)(hp:∀h',Fr [B] h h'→Fnd h' bp A p):ao go 113 [v,.func (.func 114) [] [.ptr bp 0]] h fun u h'=>
 Sl h' 1 u (A.filter fun x=> !p x).length (iV (A.filter fun x=> !p x))∧Fr [B] h h':=by
 refine ac ?_;simp only[evs,seval];refine aa (IZ w a.sl hn (hp _ (Fr.refl w))) ?_;rintro _ h1 ⟨⟨k,hk,ek,(⟨lt,rfl,ek1⟩|⟨rfl,rfl⟩)⟩,F1⟩
 ·simp(disch:=omega) only[evs,seval,ab,eq_false (oM:¬(k:Int)=-1)];refine az (fun n env hh=>Fr [B] h hh∧∃(i j:Nat)(C:List Int),env.get 5=some (.int .i64 i)∧env.get 6=some (.int .i64 j)∧env.get 0=some v∧env.get 1=some (.func (.func 114) [] [.ptr bp 0])∧
   i<j∧j≤A.length∧C.length=A.length∧TbC 1 hh v B (iV C) A.length∧C.take i=(A.take j).filter (fun x=> !p x)∧C.drop j=A.drop j∧n=A.length-j) (A.length-(k+1)) oM ?_ ?_
  ·exact⟨Go.Ev.Lay.Fr.in1 w F1,k,k+1,A,iS,iS,iS,iS,oM,oM,rfl,a.fr F1 iS,ek1.symm,rfl,rfl⟩
  rintro n env hh ⟨F,i,j,C,g5,g6,g0,g1,ij,hj,lc,t,ei,ed,rfl⟩;by_cases hlt:j<A.length
  ·obtain⟨b,o,x,e1,e2,e3⟩:=xO (A:=C) (by rw[lc];exact t.sl) j oM;have e4:A[j]? =some x:=by
    have:=congrArg (·[0]?) ed;simpa[List.getElem?_drop,e3]using this.symm
   have ts:A.take (j+1)=A.take j++[x]:=by rw[List.take_add_one,e4];rfl
   have ed':C.drop (j+1)=A.drop (j+1):=by
    have:=congrArg (List.drop 1) ed;simpa[List.drop_drop]using this
   simp only[evs,seval,g6,g0,g1,t.len,eq_true (oM:(j:Int)<A.length),e1,e2];apply aa (hp _ F _ (Fr.refl F.wf) x (List.mem_of_getElem? e4));rintro _ h2 ⟨rfl,F2⟩;cases c:p x
   ·obtain⟨_,⟨_,n0⟩|⟨rfl,own⟩⟩:=t
    ·omega
    have xa:=cL 1 B 0 A.length A.length .i64 (i:Int) oM oM;simp only[Int.toNat_natCast,Nat.mul_one,Nat.zero_add]at xa;simp only[evs,seval,g5,g0,xa];refine ah (c':=iV (C.set i x)) F2.wf (F2.get own) rfl rfl (by rw[show iV (C.set i x)=(iV C).set i (V.int .i64 x)from List.map_set];exact fC _ _ _ oO) ?_;rintro h3 o3 F3 n3;simp(disch:=omega) only[evs,seval,ab,g5,g6];refine rqn ⟨A.length-(j+1),oM,(F.trans (T:=[B]) F2 w iS iS).trans F3 w iS iS,i+1,j+1,C.set i x,iS,iS,iX,iX,oM,oM,by simpa using lc,⟨by simp[lc],.inr ⟨rfl,o3⟩⟩,?_,?_,rfl⟩
    ·rw[ts,List.filter_append,←ei,List.take_set,List.take_add_one];simp[c];rw[List.getElem?_eq_getElem oM,Option.toList_some,List.set_append_right _ _ oO,(oO:i-(C.take i).length=0)];rfl
    ·rw[List.drop_set,if_pos oM];exact ed'
   ·simp(disch:=omega) only[evs,seval,ab,g6];refine rqn ⟨A.length-(j+1),oM,F.trans F2 w iS iS,i,j+1,C,iX,iS,iX,iX,oM,oM,lc,t.fr F2 iS,by rw[ts,List.filter_append,←ei];simp[c],ed',rfl⟩
    done
  ·obtain rfl:j=A.length:=oM
   rw[List.take_length]at ei;let⟨v1,q1,q2,q3⟩:=t.from oM .i64 (i:Int) i rfl oM;simp only[evs,seval,g5,g6,g0,t.len,eq_false (oM:¬((A.length:Nat):Int)<A.length),q1];apply Ja F.wf q3 rfl rfl t;intro h2 t2 F2 n2;let⟨v2,r1,r2⟩:=t2.upto oM .i64 (i:Int) i rfl oM;simp only[evs,seval,g5,g0,r1];have ln:(C.take i).length=i:=by simp;omega
   rw[Nat.mul_one,List.append_assoc,List.take_append_of_le_length oO,List.take_take,Nat.min_self,show(iV C).take i=iV (C.take i)from List.map_take.symm,ei]at r2;rw[ei]at ln;rw[ln];exact⟨r2,F.trans F2 w iS iS⟩
 ·simp only[evs,seval];refine⟨?_,Go.Ev.Lay.Fr.in1 w F1⟩;rw[List.take_length]at ek;rw[ek];exact(a.fr F1 iS).sl
theorem JX{i:Nat}{e:Ent}(w:WF h)(q:LQ h v E)(o:Own h bp [v])(he:E[i]? =some e):ao go 114 [.int .i64 (i:Int),.ptr bp 0] h fun u h'=>u=.bool e.kn∧Fr [] h h':=by have hi:i<E.length:=(List.getElem?_eq_some_iff.1 he).1;let⟨bi,oi,e',p1,p2,p3,p4⟩:=q.re.ix aM .i64 (i:Int) oM oM;rw[Int.toNat_natCast,he]at p4;cases p4;have l5:ag h bi (oi+5)=some (.bool e.kn):=p2 5 oM;have l0:ag h bp 0=some v:=o.ld1 0;refine ac ?_;simp only[evs,seval,l0,p1,l5];exact Fr.refl w
theorem Io(w:WF h)(q:LQ h v E)(rk:Recs Knd.cells 9 h vK Ks)(kh:∀k∈Ks,KndH h k)(lo:LOk Ks h E)(ok:okF view over)(cl:aQ (E.map Ent.b) view s=s):
 ao go 63 [.agg [vK,.int .i64 12],.agg [v],.int .i64 s,.int .i64 view,.int .i64 over] h fun u h'=>Fr [] h h'∧∃A u' c,u=.tup [u',.int .i64 0]∧h.next≤c∧
  TbC 1 h' u' c (iV (A.filter fun i=> !(E.map Ent.kn).getD i.toNat false)) (A.filter fun i=> !(E.map Ent.kn).getD i.toNat false).length∧rG (E.map Ent.b) (stK Ks E) view over s A∧A.length≤E.length∧∀i∈A,0≤i∧i<E.length:=by
 have o:=q.one;have k1:vK.one=true:=Sl.one rk;have qn:=q.n;let⟨h1,e_h1,F_h1,o_h1⟩:=aj w [vK,.int .i64 12];let⟨h2,e_h2,F_h2,o_h2⟩:=aj F_h1.wf [v];have n1:=hnx e_h1;have n2:=hnx e_h2;have F02:=F_h1.then F_h2;have x5:ai h2 h.next 0 2=some [vK,.int .i64 12]:=by rw[(F_h2.get o_h1).ld];rfl
 have x6:ai h2 h1.next 0 1=some [v]:=by rw[o_h2.ld];rfl
 have lo2:LOk Ks h2 E:=⟨fun e m=>⟨(lo.h e m).1.fr F02,(lo.h e m).2⟩,lo.b,lo.c,lo.n,lo.l,lo.r⟩;refine ac ?_;simp only[evs,seval,←e_h1,←e_h2,x5,x6];refine aa (E4 F02.wf (q.fr F02) (Recs.fr rk F02) (fun k m=>(kh k m).fr F02) lo2 ok cl) ?_;rintro _ h3 ⟨F3,A,u',c,rfl,hc,tb,at',la,rg⟩;simp only[evs,seval];refine aa (I8 (bp:=h1.next) (p:=fun i=>(E.map Ent.kn).getD i.toNat false) F3.wf tb oM oM ?_) ?_;intro h' f h'' g i m;let⟨i0,i1⟩:=rg i m;obtain⟨j,rfl⟩:∃j:Nat,i=j:=⟨i.toNat,oM⟩;obtain⟨e,he⟩:∃e,E[j]? =some e:=⟨_,List.getElem?_eq_getElem oM⟩;have F2':Fr [] h2 h'':=(F3.fresh f F02.wf hc).then g;have:=JX F2'.wf ((q.fr F02).fr F2') (F2'.get o_h2) he;simp only[show(E.map Ent.kn).getD (j:Int).toNat false=e.kn by simp[List.getD,he]];exact this;rintro u2 h4 ⟨sl,F4⟩;simp only[evs];refine aa (jT F4.wf sl (by have:=List.length_filter_le (fun i=> !(E.map Ent.kn).getD i.toNat false) A;omega)) ?_;rintro u3 h5 ⟨F5,tb5⟩;simp only[evs,seval];have F24:Fr [] h2 h4:=F3.fresh F4 F02.wf hc;exact⟨(F02.then F24).then F5,A,u3,_,rfl,by have:=(F02.then F24).next;omega,tb5,at',la,rg⟩
end
set_option maxRecDepth 4000
def hc(p:Nat×Int):List V:=[.int .u64 (p.1:Int),.int .i64 p.2]
theorem iN(p:Nat×Int):(hc p).length=2:=rfl
structure TOk(Y:List (Nat×Int)):Prop where
 k:∀p∈Y,1≤p.1∧p.1≤12
 s:∀p∈Y,1≤p.2∧p.2≤50
 n:(Y.map Prod.fst).Nodup
 l:Y.length≤12
theorem zA(a n:Nat)(b:Int)(hb:b=n)(h0:0<n):aP (.ib .rem) [.int .u8 (a:Int),.int .u8 b]=some (.int .u8 ((a%n:Nat):Int)):=by subst hb;rw[iW _ _ _ oM,show Int.tmod (a:Int) n=((a%n:Nat):Int)from(Int.ofNat_tmod a n).symm]
theorem I6{h:Heap}{vT vK:V}{ps:List (Nat×Nat)}{vw off ov:Nat}(w:WF h)(a:ARecs uc 2 h vT ps)(hp:∀p∈ps,p.1<256∧p.2<256)(k1:vK.one=true)(hv:vw<256)(hov:ov<256)(hoff:off<65536):
 ao go 5 [.agg [.int .u8 (vw:Int),.int .u16 (off:Int),.int .u8 (ov:Int),vT],.agg [vK,.int .i64 12]] h fun u h'=>
  (∃Y vt,u=.tup [.agg [vK,.int .i64 12,.int .i64 (1+((vw%200:Nat):Int)),.int .i64 ((ov%4:Nat):Int),.int .i64 1],vt]∧GRecs hc 2 h' h.next vt Y∧TOk Y)∧Fr [] h h':=by
 have v1:=ARecs.one a;let⟨h1,e_h1,F_h1,o_h1⟩:=aj w [.int .u8 (vw:Int),.int .u16 (off:Int),.int .u8 (ov:Int),vT];let⟨h2,e_h2,F_h2,o_h2⟩:=aj F_h1.wf [vK,.int .i64 12];let⟨h3,e_h3,F_h3,o_h3⟩:=aj F_h2.wf [.nils,.int .i64 0,.int .i64 0,.int .i64 0,.int .i64 0];have n1:=hnx e_h1;have n2:=hnx e_h2;have n3:=hnx e_h3;have F13:=F_h2.then F_h3;have F03:=F_h1.then F13;have o1:=F13.get o_h1;have o2:=F_h3.get o_h2;have q2:ai h3 h1.next 0 2=some [vK,.int .i64 12]:=by rw[o2.ld];rfl
 have m1:=zA vw 200 200 rfl oM;have m2:=zA ov 4 4 rfl oM;let⟨h4,e_h4,F_h4,o_h4⟩:=aj F_h3.wf [.nils,.int .i64 0,.int .i64 0,.int .i64 0,.int .i64 0];refine ac ?_;simp(disch:=omega) only[evs,seval,ab,←e_h1,←e_h2,←e_h3,q2,o1.ld1,m1,m2,←e_h4];refine ah (c':=[vK,.int .i64 12,.int .i64 (1+((vw%200:Nat):Int)),.int .i64 ((ov%4:Nat):Int),.int .i64 1]) F_h4.wf o_h4 rfl (by show au [_,_,_,_,_]=true;simp only[av,aF,k1];rfl) rfl ?_;rintro h5 o5 F5 n5;have F35:Fr [] h3 h5:=F_h4.fresh F5 F_h3.wf (Nat.le_refl _);have F05:=F03.then F35;have n4:=hnx e_h4;have o3:Own h5 h2.next [.nils,.int .i64 0,.int .i64 0,.int .i64 0,.int .i64 0]:=F35.get o_h3;simp only[evs];refine az (fun n env hh=>Fr [] h5 hh∧∃(i:Nat)(vo:V)(Y:List (Nat×Int)),env.get 2=some (.ptr h.next 0)∧env.get 4=some (.ptr h2.next 0)∧env.get 6=some (.ptr h3.next 0)∧env.get 7=some vo∧env.get 8=some (.int .i64 i)∧
  i≤ps.length∧i≤12∧Y.length≤i∧GRecs hc 2 hh h5.next vo Y∧TOk Y∧n=12-i) 12 oM ?_ ?_
 ·exact⟨Fr.refl F05.wf,0,.nils,[],iS,iS,iS,iS,iS,oM,oM,Nat.le_refl _,GRecs.nil,⟨iS,iS,iS,iS⟩,rfl⟩
 rintro n env hh ⟨F,i,vo,Y,g2,g4,g6,g7,g8,hi,h12,hT,gT,ok,rfl⟩;have F0:=F05.then F;have l3:ag hh h.next 3=some vT:=(F.get (F35.get o1)).ld1 3;have al:=ARecs.len (ARecs.fr a F0);have ld5:ai hh h3.next 0 5=some [vK,.int .i64 12,.int .i64 (1+((vw%200:Nat):Int)),.int .i64 ((ov%4:Nat):Int),.int .i64 1]:=by rw[(F.get o5).ld];rfl
 by_cases c1:(i:Int)<ps.length
 ·by_cases c2:(i:Int)<12
  ·let⟨b,o,p,e1,e2,e3,e4⟩:=ARecs.ix B6 (ARecs.fr a F0) .i64 i oM c1;simp only[Int.toNat_natCast]at e4;have q0:ag hh b o=some (.int .u8 (p.1:Int)):=by have:=e2 0 oM;simpa[uc]using this
   have q1:ag hh b (o+1)=some (.int .u8 (p.2:Int)):=by have:=e2 1 oM;simpa[uc]using this
   let⟨h6,e_h6,F_h6,o_h6⟩:=aj F.wf [.int .u64 0,.int .i64 0];have l3':ag h6 h.next 3=some vT:=(F_h6.get (F.get (F35.get o1))).ld1 3;let⟨b',o',p',e1',e2',_,e4'⟩:=ARecs.ix B6 (ARecs.fr a (F0.then F_h6)) .i64 i oM c1;rw[e1]at e1';obtain⟨rfl,rfl⟩:b=b'∧o=o':=by cases e1';exact⟨rfl,rfl⟩
   simp only[Int.toNat_natCast]at e4';obtain rfl:p=p':=by rw[e4]at e4';exact Option.some.inj e4'
   have q0':ag h6 b o=some (.int .u8 (p.1:Int)):=by have:=e2' 0 oM;simpa[uc]using this
   have q1':ag h6 b (o+1)=some (.int .u8 (p.2:Int)):=by have:=e2' 1 oM;simpa[uc]using this
   let⟨r1,r2⟩:=hp p (List.mem_of_getElem? e4);have i0:=gX 1 b o 2 .i64 0 oM oM;have i1:=gX 1 b o 2 .i64 1 oM oM;rw[(iS:o+(0:Int).toNat*1=o)]at i0;rw[(iS:o+(1:Int).toNat*1=o+1)]at i1;have m1:=zA p.1 12 12 rfl oM;have m2:=zA p.2 50 50 rfl oM;obtain⟨k,hk⟩:∃k:Nat,k=1+p.1%12:=⟨_,rfl⟩;obtain⟨z,hz⟩:∃z:Int,z=1+((p.2%50:Nat):Int):=⟨_,rfl⟩;have f1:bD .u64 ((p.1%12:Nat):Int)=((p.1%12:Nat):Int):=bH _ oM oM;have f2:bD .u64 (1+((p.1%12:Nat):Int))=(k:Int):=by rw[bH _ oM oM];omega
   simp(disch:=omega) only[evs,seval,eff,ab,g2,g8,l3,al,c1,c2,e1,i0,i1,q0,q1,m1,m2,f1,f2,←hz,←e_h6];apply stu F_h6.wf o_h6;rintro h7 o7 F7 n7;have F67:Fr [] hh h7:=F_h6.fresh F7 F.wf (Nat.le_refl _);have n6:=hnx e_h6;simp only[evs,seval,DF,l3,l3',q0,q0',q1,q1'];have r7:=GRecs.recs iN oM (gT.fr F67);refine az (fun n env' hz'=>h7=hz'∧∃m:Nat,env'.get 2=some (.ptr h.next 0)∧env'.get 4=some (.ptr h2.next 0)∧env'.get 6=some (.ptr h3.next 0)∧env'.get 7=some vo∧env'.get 8=some (.int .i64 i)∧env'.get 9=some (.ptr hh.next 0)∧
    env'.get 10=some (.bool (decide (k∈(Y.take m).map Prod.fst)))∧env'.get 11=some (.int .i64 m)∧m≤Y.length∧n=Y.length-m) Y.length oM ?_ ?_
   ·exact⟨rfl,0,iX,iX,iX,iX,iX,iS,iS,iS,oM,rfl⟩
   rintro n env' _ ⟨rfl,m,g2,g4,g6,g7,g8,g9,g10,g11,hm,rfl⟩;have l0:ag h7 hh.next 0=some (.int .u64 (k:Int)):=o7.ld1 0;by_cases c3:(m:Int)<Y.length
   ·let⟨b',o',x,y1,y2,y3,y4⟩:=r7.ix iN .i64 m oM c3;simp only[Int.toNat_natCast]at y4;have yq:ag h7 b' o'=some (.int .u64 (x.1:Int)):=by have:=y2 0 oM;simpa[hc]using this
    have tk:(Y.take (m+1)).map Prod.fst=(Y.take m).map Prod.fst++[x.1]:=by rw[List.take_add_one,y4];simp
    by_cases c4:k∈(Y.take m).map Prod.fst
    ·rw[decide_eq_true c4]at g10;simp(disch:=omega) only[evs,seval,DF,eff,ab,g7,g10,g11,r7.len,c3];refine rqn ⟨Y.length-(m+1),oM,rfl,m+1,iX,iX,iX,iX,iX,iX,(by rw[tk,decide_eq_true (List.mem_append_left _ c4)];simp),iS,oM,rfl⟩
     done
    ·rw[decide_eq_false c4]at g10;have dd:decide ((x.1:Int)=(k:Int))=decide (k∈(Y.take (m+1)).map Prod.fst):=by
      rw[tk,Bool.eq_iff_iff];simp only[decide_eq_true_eq,List.mem_append,List.mem_singleton];constructor
      ·intro q;right;omega
      ·rintro(q|q);exact absurd q c4;omega
     simp(disch:=omega) only[evs,seval,DF,eff,ab,g7,g9,g10,g11,r7.len,c3,l0,y1,yq,dd];refine rqn ⟨Y.length-(m+1),oM,rfl,m+1,iX,iX,iX,iX,iX,iX,iS,iS,oM,rfl⟩
     done
   ·obtain rfl:m=Y.length:=oM
    rw[List.take_length]at g10;by_cases c4:k∈Y.map Prod.fst
    ·rw[decide_eq_true c4]at g10;simp(disch:=omega) only[evs,seval,ab,g7,g8,g10,g11,r7.len,c3];refine rqn ⟨12-(i+1),oM,F.then F67,i+1,vo,Y,iX,iX,iX,iX,iS,oM,oM,oM,gT.fr F67,ok,rfl⟩
     done
    ·rw[decide_eq_false c4]at g10;have l9:ai h7 hh.next 0 2=some [.int .u64 (k:Int),.int .i64 z]:=by rw[o7.ld];rfl
     obtain⟨h8,e_h8⟩:∃h8,h8=halloc h7 (hc (k,z)):=⟨_,rfl⟩;have F_h8:Fr [] h7 h8:=e_h8▸Fr.halloc F67.wf _;have o_h8:Own h8 h7.next (hc (k,z)):=e_h8▸Own.new F67.wf _;have e8:halloc h7 [.int .u64 (k:Int),.int .i64 z]=h8:=e_h8.symm;simp only[evs,seval,g7,g9,g10,g11,r7.len,c3,l9,e8];have n57:=(F.then F67).next;apply GRecs.append (x:=(k,z)) F_h8.wf ((gT.fr F67).fr F_h8) iN rfl oM o_h8 (Nat.le_trans n57 F_h8.next) oM;intro v' h9 g9' F9;have U9:=Gs.up ((gT.fr F67).fr F_h8) F9;simp(disch:=omega) only[evs,seval,ab,g8];refine rqn ⟨12-(i+1),oM,((F.then F67).then F_h8).ups F05.wf U9,i+1,v',Y++[(k,z)],iX,iX,iX,iS,iS,oM,oM,by simp;omega,g9',⟨?_,?_,?_,by simp;omega⟩,rfl⟩
     ·intro q m;obtain m|m:=List.mem_append.1 m
      ·exact ok.k q m
      ·rw[List.mem_singleton.1 m];exact⟨by show 1≤k;omega,by show k≤12;omega⟩
     ·intro q m;obtain m|m:=List.mem_append.1 m
      ·exact ok.s q m
      ·rw[List.mem_singleton.1 m];exact⟨by show 1≤z;omega,by show z≤50;omega⟩
     ·rw[List.map_append,List.nodup_append];exact⟨ok.n,iS,fun x m y my e=>by
       have:=List.mem_singleton.1 my;subst this;subst e;exact c4 m⟩
  ·simp only[evs,seval,g2,g4,g6,g8,l3,al,c1,c2,ld5];refine ah (c':=[vK,.int .i64 12,.int .i64 (1+((vw%200:Nat):Int)),.int .i64 ((ov%4:Nat):Int),.int .i64 1]) F.wf (F.get o3) rfl (by show au [_,_,_,_,_]=true;simp only[av,aF,k1];rfl) rfl ?_;rintro h6 o6 F6 n6;have l6:ai h6 h2.next 0 5=some [vK,.int .i64 12,.int .i64 (1+((vw%200:Nat):Int)),.int .i64 ((ov%4:Nat):Int),.int .i64 1]:=by rw[o6.ld];rfl
   simp only[evs,seval,g4,g7,l6];refine⟨⟨Y,vo,rfl,Gs.ge (Gs.frX gT F6 (by simp;have:=F35.next;omega)) (by have:=F05.next;omega),ok⟩,F0.fresh F6 w oM⟩
 ·simp only[evs,seval,g2,g4,g6,g8,l3,al,c1,ld5];refine ah (c':=[vK,.int .i64 12,.int .i64 (1+((vw%200:Nat):Int)),.int .i64 ((ov%4:Nat):Int),.int .i64 1]) F.wf (F.get o3) rfl (by show au [_,_,_,_,_]=true;simp only[av,aF,k1];rfl) rfl ?_;rintro h6 o6 F6 n6;have l6:ai h6 h2.next 0 5=some [vK,.int .i64 12,.int .i64 (1+((vw%200:Nat):Int)),.int .i64 ((ov%4:Nat):Int),.int .i64 1]:=by rw[o6.ld];rfl
  simp only[evs,seval,g4,g7,l6];refine⟨⟨Y,vo,rfl,Gs.ge (Gs.frX gT F6 (by simp;have:=F35.next;omega)) (by have:=F05.next;omega),ok⟩,F0.fresh F6 w oM⟩
open Go.Ev.St
set_option maxRecDepth 4000
def dz(Ks:List Knd)(E:List Ent):List (Int×Bool×Bool):=E.map fun e=>(e.b,e.kn,eW Ks e.x)
theorem hJ(Ks:List Knd)(E:List Ent):sz (dz Ks E)=E.map Ent.b:=by simp[sz,dz,Function.comp_def]
theorem v8(Ks:List Knd)(E:List Ent):ky (dz Ks E)=E.map Ent.kn:=by simp[ky,dz,Function.comp_def]
theorem v7(Ks:List Knd)(E:List Ent):sy (dz Ks E)=stK Ks E:=by simp[sy,dz,stK,Function.comp_def]
theorem CA{h:Heap}{v vK:V}{E:List Ent}{Ks:List Knd}(w:WF h)(q:Recs Ent.cells 6 h v E)(ie:∀e∈E,au e.cells=true)(qn:E.length≤1000)(rk:Recs Knd.cells 9 h vK Ks)(ty:∀e∈E,e.x.type<Ks.length)(hk:Ks.length≤256):
 ao go 6 [.agg [vK,.int .i64 12],.agg [v]] h fun u h'=>GRecs rc 3 h' h.next u (dz Ks E)∧Fr [] h h':=by
 have o:=Sl.one q;have k1:vK.one=true:=Sl.one rk;let⟨h1,e_h1,F_h1,o_h1⟩:=aj w [vK,.int .i64 12];let⟨h2,e_h2,F_h2,o_h2⟩:=aj F_h1.wf [v];have n1:=hnx e_h1;have n2:=hnx e_h2;have F02:=F_h1.then F_h2;have x3:∀{h'},Fr [] h2 h'→ag h' h.next 0=some vK:=fun f=>(f.get (F_h2.get o_h1)).ld1 0;have x4:∀{h'},Fr [] h2 h'→ag h' h1.next 0=some v:=fun f=>(f.get o_h2).ld1 0;refine ac ?_;simp only[evs,seval,←e_h1,←e_h2];refine az (fun n env hh=>Fr [] h2 hh∧∃(i:Nat)(vo:V),env.get 2=some (.ptr h.next 0)∧env.get 3=some (.ptr h1.next 0)∧env.get 5=some vo∧env.get 6=some (.int .i64 i)∧
  i≤E.length∧GRecs rc 3 hh h2.next vo (dz Ks (E.take i))∧n=E.length-i) E.length oM ?_ ?_
 ·exact⟨Fr.refl F02.wf,0,.nils,iS,iS,iS,iS,oM,GRecs.nil,rfl⟩
 rintro n env hh ⟨F,i,vo,g2,g3,g5,g6,hi,gO,rfl⟩;have F0:=F02.then F;have re:=q.fr F0;by_cases c:(i:Int)<E.length
 ·let⟨bi,oi,e,p1,_,p3,p4⟩:=re.ix aM .i64 (i:Int) oM c;rw[Int.toNat_natCast]at p4;have em:=List.mem_of_getElem? p4;have te:=ty e em;let⟨h4,e_h4,F_h4,o_h4⟩:=aj F.wf [.int .u64 0,.int .u8 0,.str [],.nils,.int .i64 0,.bool false];simp only[evs,seval,g3,g6,x4 F,re.len,c,p1,p3,←e_h4];refine ah (c':=e.cells) F_h4.wf o_h4 rfl (ie e em) rfl ?_;rintro h5 o5 F5 n5;have F45:Fr [] hh h5:=F_h4.fresh F5 F.wf (Nat.le_refl _);have F25:=F.then F45;let⟨bk,ok',kd,k1',k2,_,k4⟩:=(Recs.fr rk (F02.then F25)).ix dW .u8 (e.x.type:Int) oM oM;rw[Int.toNat_natCast]at k4;have l7:ag h5 bk (ok'+7)=some (.bool kd.sticky):=k2 7 oM;have ks:eW Ks e.x=kd.sticky:=by unfold eW;rw[k4]
  have l1:∀{H},Own H hh.next e.cells→ag H hh.next 1=some (.int .u8 (e.x.type:Int)):=fun o=>o.ld1 1;have l4:∀{H},Own H hh.next e.cells→ag H hh.next 4=some (.int .i64 e.b):=fun o=>o.ld1 4;have l5:∀{H},Own H hh.next e.cells→ag H hh.next 5=some (.bool e.kn):=fun o=>o.ld1 5;obtain⟨h6,e_h6⟩:∃h6,h6=halloc h5 (rc (e.b,e.kn,eW Ks e.x)):=⟨_,rfl⟩;have F_h6:Fr [] h5 h6:=e_h6▸Fr.halloc F5.wf _;have o_h6:Own h6 h5.next (rc (e.b,e.kn,eW Ks e.x)):=e_h6▸Own.new F5.wf _;have e6:halloc h5 [.int .i64 e.b,.bool e.kn,.bool kd.sticky]=h6:=by rw[←ks];exact e_h6.symm
  simp only[evs,seval,eff,g2,g5,x3 F25,l1 o5,l4 o5,l5 o5,k1',l7,e6];have tk:dz Ks (E.take (i+1))=dz Ks (E.take i)++[(e.b,e.kn,eW Ks e.x)]:=by unfold dz;rw[List.take_add_one,p4];simp
  have F26:=F25.then F_h6;have gl:(dz Ks (E.take i)).length=i:=by simp[dz];omega
  refine GRecs.append (x:=(e.b,e.kn,eW Ks e.x)) F_h6.wf ((gO.fr F45).fr F_h6) gN (Fu _) oM o_h6 F26.next oM ?_;intro v' h7 g7 F7;have U7:=Gs.up ((gO.fr F45).fr F_h6) F7;have F27:Fr [] h2 h7:=F26.ups F02.wf U7;have ne:hh.next∉vb vo:=by
   obtain⟨rfl,_⟩|⟨b',n',rfl,hl',_,_,og⟩:=gO
   ·simp[vb]
   ·have:=og.lt F.wf;simp only[vb,List.mem_singleton];omega
  have o6:=F_h6.get o5;have o7:=F7.own _ _ ne o6;have kk:∀H,Fr [] h2 H→ag H bk (ok'+7)=some (.bool kd.sticky):=by
   intro H f;let⟨bk2,ok2,kd2,k12,k22,_,k42⟩:=(Recs.fr rk (F02.then f)).ix dW .u8 (e.x.type:Int) oM oM;rw[Int.toNat_natCast,k4]at k42;obtain rfl:=Option.some.inj k42;rw[k1']at k12;obtain⟨rfl,rfl⟩:bk=bk2∧ok'=ok2:=by grind
   exact k22 7 oM
  simp(disch:=omega) only[evs,seval,DF,eff,ab,g6,x3 F25,l1 o5,l4 o5,l5 o5,kk _ F25];refine rqn ⟨E.length-(i+1),oM,F27,i+1,v',iX,iX,iS,iS,oM,by rw[tk];exact g7,rfl⟩
  done
 ·obtain rfl:i=E.length:=oM
  simp only[evs,seval,g3,g5,g6,x4 F,re.len,c];rw[List.take_length]at gO;exact⟨Gs.ge gO (by have:=F02.next;omega),F0⟩
open Go.Ev.St
set_option maxRecDepth 4000
def fk(k:Nat)(p:Nat×Int):Bool:=p.1==k
def msr(Ks:List Knd)(Y:List (Nat×Int))(x:Itm):Int:=match Y.find? (fk x.key)with
 |some p=>p.2
 |none=>aW Ks x
section
variable {h : Heap} {v vK vT : V} {Y : List (Nat × Int)} {Ks : List Knd} {x : Itm} {bp : Nat}
theorem J6{p:Nat×Int}(w:WF h)(o:Own h bp x.cells):ao go 30 [.agg (hc p),.ptr bp 0] h fun u h'=>u=.bool (fk x.key p)∧Fr [] h h':=by
 obtain⟨h1,e_h1⟩:∃h1,h1=halloc h (hc p):=⟨_,rfl⟩;have F_h1:Fr [] h h1:=e_h1▸Fr.halloc w _;have o_h1:Own h1 h.next (hc p):=e_h1▸Own.new w _;have e1:halloc h [.int .u64 (p.1:Int),.int .i64 p.2]=h1:=e_h1.symm;have q0:ag h1 h.next 0=some (.int .u64 (p.1:Int)):=o_h1.ld1 0;have l0':ag h1 bp 0=some (.int .u64 (x.key:Int)):=(F_h1.get o).ld1 0;have dd:decide ((p.1:Int)=(x.key:Int))=fk x.key p:=by unfold fk;rw[Bool.eq_iff_iff];simp;omega
 unfold hc;refine ac ?_;simp only[evs,seval,e1,q0,l0',dd];exact F_h1
theorem I0(w:WF h)(a:Recs hc 2 h vT Y)(o:Own h bp x.cells)(hl:Y.length≤4096):ao go 29 [vT,.func (.func 30) [] [.ptr bp 0]] h fun u h'=>((∃(i:Nat)(p:Nat×Int),u=.int .i64 i∧Y[i]? =some p∧Y.find? (fk x.key)=some p)∨(u=.int .i64 (-1)∧Y.find? (fk x.key)=none))∧Fr [] h h':=by
 refine ac ?_;simp only[evs,seval,a.len];refine az (fun n env hh=>Fr [] h hh∧∃i:Nat,env.get 8=some (.int .i64 i)∧env.get 7=some (.int .i64 Y.length)∧env.get 0=some vT∧env.get 1=some (.func (.func 30) [] [.ptr bp 0])∧
  i≤Y.length∧(Y.drop i).find? (fk x.key)=Y.find? (fk x.key)∧n=Y.length-i) Y.length oM ?_ ?_
 ·exact⟨Fr.refl w,0,iS,iS,iS,iS,oM,rfl,rfl⟩
 rintro n env hh ⟨F,i,g8,g7,g0,g1,hi,e,rfl⟩;by_cases c:(i:Int)<Y.length
 ·let⟨b,o',p,e1,_,e3,e4⟩:=(Recs.fr a F).ix iN .i64 (i:Int) oM c;rw[Int.toNat_natCast]at e4;rw[aK e4,List.find?_cons]at e;simp only[evs,seval,g8,g7,g0,g1,c,e1,e3];refine aa (J6 F.wf (F.get o)) ?_;rintro _ h1 ⟨rfl,F1⟩;cases q:fk x.key p
  ·rw[q]at e;simp(disch:=omega) only[evs,seval,ab,g8];refine rqn ⟨Y.length-(i+1),oM,F.then F1,i+1,iS,iX,iX,iX,oM,e,rfl⟩
   done
  ·rw[q]at e;simp only[evs,seval];exact⟨.inl ⟨i,p,rfl,e4,e.symm⟩,F.then F1⟩
 ·rw[List.drop_of_length_le oM]at e;simp only[evs,seval,g8,g7,c];exact⟨.inr e.symm,F⟩
theorem CU{view over:Int}(w:WF h)(a:Recs hc 2 h vT Y)(hl:Y.length≤4096)(om:x.vm.one=true)(rk:Recs Knd.cells 9 h vK Ks)(te:x.type<Ks.length)(hk:Ks.length≤256):
 ao go 11 [.agg [vK,.int .i64 12,.int .i64 view,.int .i64 over,.int .i64 1],.agg x.cells,vT] h fun u h'=>u=.int .i64 (msr Ks Y x)∧Fr [] h h':=by
 have k1:vK.one=true:=Sl.one rk;let⟨h1,e_h1,F_h1,o_h1⟩:=aj w [vK,.int .i64 12,.int .i64 view,.int .i64 over,.int .i64 1];let⟨h2,e_h2,F_h2,o_h2⟩:=aj F_h1.wf x.cells;have n1:=hnx e_h1;have F02:=F_h1.then F_h2;have e2:halloc h1 [.int .u64 (x.key:Int),.int .u8 (x.type:Int),.str x.text,x.vm]=h2:=e_h2.symm;have o1:=F_h2.get o_h1;unfold Itm.cells;refine ac ?_;simp only[evs,seval,←e_h1,e2];refine aa (I0 F02.wf (Recs.fr a F02) o_h2 hl) ?_;rintro _ h3 ⟨(⟨i,p,rfl,e3,e4⟩|⟨rfl,e4⟩),F3⟩;let⟨b,o',p',y1,y2,y3,y4⟩:=(Recs.fr a (F02.then F3)).ix iN .i64 (i:Int) oM (by have:=(List.getElem?_eq_some_iff.1 e3).1;omega);rw[Int.toNat_natCast,e3]at y4;obtain rfl:=Option.some.inj y4;have q1:ag h3 b (o'+1)=some (.int .i64 p.2):=y2 1 oM;simp only[evs,seval,y1,q1,(oM:(0:Int)≤i)];exact⟨by rw[msr,e4],F02.then F3⟩;have l1:ag h3 h1.next 1=some (.int .u8 (x.type:Int)):=(F3.get o_h2).ld1 1;have l0:ag h3 h.next 0=some vK:=(F3.get o1).ld1 0;let⟨bk,ok',kd,k1',k2,_,k4⟩:=(Recs.fr rk (F02.then F3)).ix dW .u8 (x.type:Int) oM oM;rw[Int.toNat_natCast]at k4;have l6:ag h3 bk (ok'+6)=some (.int .i64 kd.base):=k2 6 oM;simp(disch:=omega) only[evs,seval,ab,(oM:¬(0:Int)≤-1),l1,l0,Recs.len rk,(oM:(x.type:Int)<Ks.length),k1',l6];exact⟨by rw[msr,e4];show _=V.int .i64 (aW Ks x);rw[aW,k4],F02.then F3⟩
end
open Go.Ev.St
set_option maxRecDepth 4000
section
variable {h : Heap} {v vK vT : V} {Y : List (Nat × Int)} {Ks : List Knd} {m : Nat → Option Nat} {b S c : Nat}
theorem II{p:Nat×Int}(w:WF h)(k:Km h b S m c)(hc':c<4096)(mk:m p.1=none)(p1:1≤p.1∧p.1≤12)(p2:1≤p.2∧p.2≤50):
 ao go 101 [.agg (hc p),.int .i64 1,.ptr b 0] h fun u h'=>u=.int .i64 0∧∃S',(S'=S∨h.next≤S')∧Km h' b S' (i9 m p.1 0) (c+1)∧Fr [b,S] h h':=by
 obtain⟨h1,e_h1⟩:∃h1,h1=halloc h (hc p):=⟨_,rfl⟩;have F_h1:Fr [] h h1:=e_h1▸Fr.halloc w _;have o_h1:Own h1 h.next (hc p):=e_h1▸Own.new w _;have e1:halloc h [.int .u64 (p.1:Int),.int .i64 p.2]=h1:=e_h1.symm;have q0:∀{h'},Fr [] h1 h'→ag h' h.next 0=some (.int .u64 (p.1:Int)):=fun f=>(f.get o_h1).ld1 0;have q1:∀{h'},Fr [] h1 h'→ag h' h.next 1=some (.int .i64 p.2):=fun f=>(f.get o_h1).ld1 1;unfold hc;refine ac ?_;simp only[evs,seval,e1,q0 (Fr.refl F_h1.wf)];refine aa (Gm F_h1.wf (k.fr F_h1) oM) ?_;rintro _ h2 ⟨rfl,F2⟩;have F02:=F_h1.then F2;simp only[evs,seval,mk,mj,q0 F2,q1 F2,eq_false (oM:¬(p.1:Int)=0),eq_false (oM:¬p.2<1),eq_false (oM:¬2305843009213693952<p.2)];apply aa (Gj (x:=0) F2.wf (k.fr F02) (.inl hc') oM oM oM);rintro _ h3 ⟨rfl,S',s1,k3,F3⟩;rw[mk]at k3;simp only[evs,seval];have:=F02.next;exact⟨S',s1.imp id (fun q=>by omega),k3,F02.trans F3 w iS iS⟩
theorem Ip(w:WF h)(a:Recs hc 2 h vT Y)(ok:TOk Y):ao go 58 [vT,.int .i64 1] h fun u h'=>u=.tup [.int .i64 0,.int .i64 0]∧Fr [] h h':=by
 have hl:=ok.l;refine ac ?_;simp only[evs,seval,a.len,decide_eq_false (oM:¬(1:Int)<1),decide_eq_false (oM:¬(2305843009213693952:Int)<1),eq_false (oM:¬(256:Int)<Y.length)];refine aa (Gk w) ?_;rintro _ h1 ⟨b,rfl,hb,k1,F1⟩;simp only[evs,seval,a.len];refine az (fun n env hh=>Fr [] h hh∧∃(i S:Nat)(m:Nat→Option Nat),env.get 24=some (.int .i64 i)∧env.get 23=some (.int .i64 Y.length)∧env.get 22=some vT∧env.get 1=some (.int .i64 1)∧env.get 6=some (.ptr b 0)∧
  i≤Y.length∧h.next≤S∧Km hh b S m i∧(∀k,m k≠none→k∈(Y.take i).map Prod.fst)∧n=Y.length-i) Y.length oM ?_ ?_
 exact⟨F1,0,b,_,iS,iS,iS,iS,iS,oM,hb,k1,fun k x=>absurd rfl x,rfl⟩;rintro n env hh ⟨F,i,S,m,g24,g23,g22,g1,g6,hi,hS,km,hm,rfl⟩;by_cases c:(i:Int)<Y.length;let⟨bi,oi,p,e1,_,e3,e4⟩:=(Recs.fr a F).ix iN .i64 (i:Int) oM c;rw[Int.toNat_natCast]at e4;have em:=List.mem_of_getElem? e4;have e3':ai hh bi oi 2=some [.int .u64 (p.1:Int),.int .i64 p.2]:=e3;have tk:(Y.take (i+1)).map Prod.fst=(Y.take i).map Prod.fst++[p.1]:=by rw[List.take_add_one,e4];simp
 have mn:m p.1=none:=by
  cases q:m p.1 with
  |none=>rfl
  |some z=>
   exfalso;have h1:=hm p.1 (by rw[q];simp);have nd:=ok.n;have:Y.map Prod.fst=(Y.take i).map Prod.fst++p.1::(Y.drop (i+1)).map Prod.fst:=by rw[←List.map_cons (f:=Prod.fst),←aK e4,←List.map_append,List.take_append_drop]
   rw[this,List.nodup_append]at nd;exact nd.2.2 _ h1 _ iS rfl
 let⟨h2,e_h2,F_h2,o_h2⟩:=aj F.wf [.int .u64 0,.int .i64 0];simp only[evs,seval,g24,g23,g22,c,e1,e3',←e_h2];apply stu F_h2.wf o_h2;rintro h3 o3 F3 n3;have F23:Fr [] hh h3:=F_h2.fresh F3 F.wf (Nat.le_refl _);have l3:ai h3 hh.next 0 2=some [.int .u64 (p.1:Int),.int .i64 p.2]:=by rw[o3.ld];rfl
 simp only[evs,seval,g1,g6,l3];apply aa (II (p:=p) F23.wf (km.fr F23) oM mn (ok.k p em) (ok.s p em));rintro _ h4 ⟨rfl,S',s1,k4,F4⟩;have F03:=F.then F23;have n23:=F03.next;simp(disch:=omega) only[evs,seval,ab,g24];refine rqn ⟨Y.length-(i+1),oM,Fr.new w F03 F4 oO,i+1,S',i9 m p.1 0,iS,iX,iX,iX,iX,oM,by obtain rfl|q:=s1<;>omega,k4,?_,rfl⟩
 intro k hk;rw[tk,List.mem_append,List.mem_singleton];by_cases q:k=p.1;exact .inr q;refine .inl (hm k ?_);simpa[i9,q]using hk;simp only[evs,seval,g24,g23,c];exact F
theorem GF{view over:Int}(w:WF h)(rk:Recs Knd.cells 9 h vK Ks)(kh:∀q∈Ks,KndH h q)(hk:Ks.length≤256)(r:okR Ks 12=true)(v1:1≤view)(v2:view≤2147483648)(o1:0≤over)(o2:over≤16):
 ao go 56 [.agg [vK,.int .i64 12,.int .i64 view,.int .i64 over,.int .i64 1]] h fun u h'=>u=.int .i64 0∧Fr [] h h':=by
 have k1:vK.one=true:=Sl.one rk;let⟨h1,e_h1,F_h1,o_h1⟩:=aj w [vK,.int .i64 12,.int .i64 view,.int .i64 over,.int .i64 1];have l0:ai h1 h.next 0 2=some [vK,.int .i64 12]:=by rw[o_h1.ld];rfl
 refine ac ?_;simp only[evs,seval,←e_h1,l0];refine aa (pH F_h1.wf (Recs.fr rk F_h1) (fun q m=>(kh q m).fr F_h1) oM) ?_;rintro _ h2 ⟨rfl,F2⟩;rw[r];have o:=F2.get o_h1;have l2:ag h2 h.next 2=some (.int .i64 view):=o.ld1 2;have l3:ag h2 h.next 3=some (.int .i64 over):=o.ld1 3;have l4:ag h2 h.next 4=some (.int .i64 1):=o.ld1 4;simp only[evs,seval,l2,l3,l4,decide_eq_false (oM:¬view<1),decide_eq_false (oM:¬2147483648<view),decide_eq_false (oM:¬over<0),decide_eq_false (oM:¬16<over),decide_eq_false (oM:¬(1:Int)<1),decide_eq_false (oM:¬(2305843009213693952:Int)<1)];exact F_h1.then F2
end
open Go.Ev.St
set_option maxRecDepth 4000
structure SetG(h:Heap)(Ks:List Knd)(vK:V)(Y:List (Nat×Int))(vT:V)(view over:Int):Prop where
 w:WF h
 rk:Recs Knd.cells 9 h vK Ks
 kh:∀q∈Ks,KndH h q
 r:okR Ks 12=true∧Ks.length=3∧GK Ks
 t:Recs hc 2 h vT Y
 ok:TOk Y
 f:okF view over
def EZ(k:Nat)(a d:Int)(m:Nat→Option Nat)(n:Nat):Prop:=0≤d∧d≤2305843009213693952∧k<18446744073709551616∧((k=0∧a=-1∧d=0∧n=0)∨(k≠0∧∃i:Nat,a=i∧m k=some i))
section
variable {h : Heap} {v vK vT : V} {E : List Ent} {Y : List (Nat × Int)} {Ks : List Knd} {view over a d : Int} {m : Nat → Option Nat} {k : Nat}
theorem SetG.fr{h':Heap}(g:SetG h Ks vK Y vT view over)(f:Fr [] h h'):SetG h' Ks vK Y vT view over:=⟨f.wf,Recs.fr g.rk f,fun q m=>(g.kh q m).fr f,g.r,Recs.fr g.t f,g.ok,g.f⟩
theorem AT(g:SetG h Ks vK Y vT view over)(re:Recs Ent.cells 6 h v E)(lo:LOk Ks h E)(ix:IxOf m E)(an:EZ k a d m E.length):
 ao go 21 [.agg [vK,.int .i64 12,.int .i64 view,.int .i64 over,.int .i64 1],.agg [v],vA k d,vT] h fun u h'=>u=.int .i64 0∧Fr [] h h':=by
 have w:=g.w;have k1:vK.one=true:=Sl.one g.rk;have o:=Sl.one re;let⟨d0,d1,kb,ak⟩:=an;let⟨f1,f2,f3,f4⟩:=g.f;have k3:=g.r.2.1;have el:=lo.l;let⟨h1,e_h1,F_h1,o_h1⟩:=aj w [vK,.int .i64 12,.int .i64 view,.int .i64 over,.int .i64 1];let⟨h2,e_h2,F_h2,o_h2⟩:=aj F_h1.wf [v];let⟨h3,e_h3,F_h3,o_h3⟩:=aj F_h2.wf [.int .u64 (k:Int),.int .i64 d];have n1:=hnx e_h1;have n2:=hnx e_h2;have F13:=F_h2.then F_h3;have F03:=F_h1.then F13;have o1:=F13.get o_h1;have o2:=F_h3.get o_h2;have y0:∀{h'},Fr [] h3 h'→ai h' h.next 0 5=some [vK,.int .i64 12,.int .i64 view,.int .i64 over,.int .i64 1]:=fun f=>by rw[(f.get o1).ld];rfl
 have y1:∀{h'},Fr [] h3 h'→ai h' h.next 0 2=some [vK,.int .i64 12]:=fun f=>by rw[(f.get o1).ld];rfl
 have y4:∀{h'},Fr [] h3 h'→ag h' h.next 4=some (.int .i64 1):=fun f=>(f.get o1).ld1 4;have yl:∀{h'},Fr [] h3 h'→ai h' h1.next 0 1=some [v]:=fun f=>by rw[(f.get o2).ld];rfl
 have ya:∀{h'},Fr [] h3 h'→ai h' h2.next 0 2=some [.int .u64 (k:Int),.int .i64 d]:=fun f=>by rw[(f.get o_h3).ld];rfl
 have yk:∀{h'},Fr [] h3 h'→ag h' h2.next 0=some (.int .u64 (k:Int)):=fun f=>(f.get o_h3).ld1 0;have r3:Fr [] h3 h3:=Fr.refl F03.wf;refine ac ?_;simp only[evs,seval,←e_h1,←e_h2,←e_h3,y0 r3];refine aa (GF F03.wf (g.fr F03).rk (g.fr F03).kh oM g.r.1 f1 f2 f3 f4) ?_;rintro _ h4 ⟨rfl,F4⟩;simp only[evs,seval,y1 F4,yl F4];apply aa (nw F4.wf (g.fr (F03.then F4)).rk (g.fr (F03.then F4)).kh (re.fr (F03.then F4)) (lo.fr (F03.then F4)));rintro _ h5 ⟨rfl,F5⟩;have F35:=F4.then F5;simp only[evs,seval,y4 F35];apply aa (Ip F5.wf (g.fr (F03.then F35)).t g.ok);rintro _ h6 ⟨rfl,F6⟩;have F36:=F35.then F6;simp only[evs,seval,ya F36];refine aa (tR F6.wf d0 d1 (fun z=>by obtain⟨_,_,e,_⟩|⟨e,_⟩:=ak;exact e;exact absurd z e)) ?_
 rintro _ h7 ⟨rfl,F7⟩;have F37:=F36.then F7;simp only[evs,seval,yl F37,yk F37];apply aa (wy F7.wf (re.fr (F03.then F37)) (fun e em=>((lo.h e em).1).fr (F03.then F37)) oM ix);rintro _ h8 ⟨rfl,F8⟩;have F38:=F37.then F8;obtain⟨k0,_⟩|⟨k0,i,_,hi⟩:=ak;cases mk:m k with
 |none=>simp only[evs,seval,mj,yk F38,decide_eq_true (oM:(k:Int)=0)];exact F03.then F38
 |some z=>simp only[evs,seval,mj,yk F38,decide_eq_true (oM:(k:Int)=0)];exact F03.then F38
 simp only[evs,seval,hi,mj,yk F38,decide_eq_false (oM:¬(k:Int)=0)];exact F03.then F38
theorem FC(g:SetG h Ks vK Y vT view over)(re:Recs Ent.cells 6 h v E)(lo:LOk Ks h E)(nE:v≠.sliceE):
 ao go 22 [.agg [vK,.int .i64 12,.int .i64 view,.int .i64 over,.int .i64 1],.agg [v]] h fun u h'=>(∃v' Z,u=.agg [v']∧LsO h.next h' v' Z∧Z.map Ent.val=E.map Ent.val∧∀z∈Z,ItmH h' z.x)∧Fr [] h h':=by
 have w:=g.w;have k1:vK.one=true:=Sl.one g.rk;have o:=Sl.one re;have el:=lo.l;let⟨h1,e_h1,F_h1,o_h1⟩:=aj w [vK,.int .i64 12,.int .i64 view,.int .i64 over,.int .i64 1];let⟨h2,e_h2,F_h2,o_h2⟩:=aj F_h1.wf [v];let⟨h3,e_h3,F_h3,o_h3⟩:=aj F_h2.wf [.nils];have n1:=hnx e_h1;have n2:=hnx e_h2;have n3:=hnx e_h3;have F13:=F_h2.then F_h3;have F03:=F_h1.then F13;have o1:=F13.get o_h1;have o2:=F_h3.get o_h2;have y1:ai h3 h.next 0 2=some [vK,.int .i64 12]:=by rw[o1.ld];rfl
 have yl:ai h3 h1.next 0 1=some [v]:=by rw[o2.ld];rfl
 have g3:=g.fr F03;refine ac ?_;simp only[evs,seval,←e_h1,←e_h2,←e_h3,y1,yl];refine aa (Gh (a:=0) (c:=0) ⟨F03.wf,g3.rk,g3.kh,re.fr F03,lo.fr F03⟩ nE ⟨oM,oM⟩ ⟨oM,oM⟩ el) ?_;rintro _ h4 ⟨F4,v',rfl,nE',v1',_,hz⟩;let⟨Z,lz,ez,iz⟩:=hz (if_neg (by unfold mD;omega));have er:jw E (0:Int).toNat (0:Int).toNat=E:=by simp[jw]
 rw[er]at ez;let⟨h5,e_h5,F_h5,o_h5⟩:=aj F4.wf [.nils];have n5:=hnx e_h5;have n4:=F4.next;simp only[evs,seval,←e_h5];refine ah (v:=.agg [v']) (c':=[v']) F_h5.wf o_h5 rfl (by show au [_]=true;simp only[av,aF,v1'];rfl) rfl ?_;rintro h6 o6 F6 n6;have l6:ai h6 h4.next 0 1=some [v']:=by rw[o6.ld];rfl
 have F46:Fr [] h4 h6:=F_h5.fresh F6 F4.wf (Nat.le_refl _);simp only[evs,seval,l6];refine ah (v:=.agg [v']) (c':=[v']) F46.wf ((F4.then F46).get o_h3) rfl (by show au [_]=true;simp only[av,aF,v1'];rfl) rfl ?_;rintro h7 o7 F7 n7;have l7:ai h7 h2.next 0 1=some [v']:=by rw[o7.ld];rfl
 simp only[evs,seval,l7];have lz6:=lz.keep F46 iS;have lz7:=lz6.keep F7 oO;exact⟨⟨v',Z,rfl,lz7.le oM,ez,lz7.itm iz⟩,(F03.then (F4.then F46)).fresh F7 w oM⟩
end
open Go.Ev.St
set_option maxRecDepth 4000
section
variable {Ks : List Knd} {Y : List (Nat × Int)}
def msE(Ks:List Knd)(Y:List (Nat×Int))(e:Ent):Ent:=⟨e.x,msr Ks Y e.x,true⟩
def cD(Ks:List Knd)(Y:List (Nat×Int))(E:List Ent)(i:Int):List Ent:=match E[i.toNat]? with
 |some e=>E.set i.toNat (msE Ks Y e)
 |none=>E
theorem xN(E:List Ent)(i:Int):(cD Ks Y E i).map Ent.x=E.map Ent.x:=by unfold cD;split;rename_i e q;rw[List.map_set];apply List.ext_getElem?;intro j;rw[List.getElem?_set];split;rename_i h;subst h;split;simp[q,msE];grind;rfl;rfl
theorem vS(E:List Ent)(i:Int):(cD Ks Y E i).length=E.length:=by have:=congrArg List.length (xN (Ks:=Ks) (Y:=Y) E i);simpa using this
theorem uo(U:List Int):∀E:List Ent,(U.foldl (cD Ks Y) E).map Ent.x=E.map Ent.x:=by
 induction U with
 |nil=>intro E;rfl
 |cons i U ih=>intro E;rw[List.foldl_cons,ih,xN]
theorem AP(U:List Int)(E:List Ent):(U.foldl (cD Ks Y) E).length=E.length:=by have:=congrArg List.length (uo (Ks:=Ks) (Y:=Y) U E);simpa using this
theorem yh(t:TOk Y)(r:RK Ks){x:Itm}(o:okI x 3=true):1≤msr Ks Y x∧msr Ks Y x≤50:=by unfold msr;split;rename_i p q;exact t.s p (List.mem_of_find?_eq_some q);exact r.base o
theorem LV.step{E:List Ent}(t:TOk Y)(r:RK Ks)(a:LV Ks E)(i:Int):LV Ks (cD Ks Y E i):=by unfold cD;split;rename_i e q;have em:=List.mem_of_getElem? q;refine⟨fun z m=>?_,fun z m k=>?_,fun z m k=>?_,?_⟩;obtain m|rfl:=List.mem_or_eq_of_mem_set m;exact a.o z m;exact a.o e em;obtain m|rfl:=List.mem_or_eq_of_mem_set m;exact a.b z m k;cases k;obtain m|rfl:=List.mem_or_eq_of_mem_set m;exact a.c z m k;exact yh t r (a.o e em).1;have:=xN (Ks:=Ks) (Y:=Y) E i;rw[cD,q]at this;have h2:=congrArg (List.map Itm.key) this;rw[List.map_map,List.map_map]at h2;have n:=a.n;unfold jD at n⊢;exact h2▸n;exact a
theorem LV.steps(t:TOk Y)(r:RK Ks)(U:List Int):∀{E:List Ent},LV Ks E→LV Ks (U.foldl (cD Ks Y) E):=by
 induction U with
 |nil=>intro E a;exact a
 |cons i U ih=>intro E a;exact ih (a.step t r i)
def mE(Ks:List Knd)(Y:List (Nat×Int))(E:List Ent)(i:Int):Int:=match E[i.toNat]? with
 |some e=>msr Ks Y e.x
 |none=>0
theorem k9{m:Int→Int}(t:TOk Y)(r:RK Ks):∀(A:List Int)(E:List Ent)(mo:Bool),A.Nodup→(∀i∈A,0≤i∧i<E.length)→LV Ks E→E.length≤1000→(∀i∈A,∀e,E[i.toNat]? =some e→m i=msr Ks Y e.x)→
 aR m A (E.map Ent.b) (E.map Ent.kn) mo=(0,(((A.filter fun i=> !(E.map Ent.kn).getD i.toNat false).foldl (cD Ks Y) E).map Ent.b),(((A.filter fun i=> !(E.map Ent.kn).getD i.toNat false).foldl (cD Ks Y) E).map Ent.kn),mo|| !(A.filter fun i=> !(E.map Ent.kn).getD i.toNat false).isEmpty)
 |[],E,mo,_,_,_,_,_=>by simp[aR]
 |i::A,E,mo,nd,rg,lv,hl,hm=>by
  let⟨i0,i1⟩:=rg i iS;obtain⟨n,rfl⟩:∃n:Nat,i=n:=⟨i.toNat,oM⟩;obtain⟨e,he⟩:∃e,E[n]? =some e:=⟨_,List.getElem?_eq_getElem oM⟩;have em:=List.mem_of_getElem? he;have nd':=(List.nodup_cons.1 nd);have kg:(E.map Ent.kn).getD (n:Int).toNat false=e.kn:=by simp[List.getD,he]
  rw[aR,if_pos ⟨i0,by simpa using i1⟩];cases ek:e.kn;have hm1:=hm n iS e (eV he);have mi:=yh (Ks:=Ks) t r (lv.o e em).1;have xz:cS (E.map Ent.b) (n:Int) (m n)=0:=vx (lv.in40 r) (eV hl) (by rw[hm1];exact mi) oO;have es:cD Ks Y E (n:Int)=E.set n (msE Ks Y e):=by unfold cD;rw[Int.toNat_natCast,he]
  have sb:(cD Ks Y E (n:Int)).map Ent.b=(E.map Ent.b).set (n:Int).toNat (m n):=by rw[es,List.map_set,hm1];rfl
  have sk:(cD Ks Y E (n:Int)).map Ent.kn=(E.map Ent.kn).set (n:Int).toNat true:=by rw[es,List.map_set];rfl
  have ex:∀j∈A,j.toNat≠n:=by grind
  have fl:A.filter (fun i=> !((cD Ks Y E (n:Int)).map Ent.kn).getD i.toNat false)=A.filter (fun i=> !(E.map Ent.kn).getD i.toNat false):=by apply List.filter_congr;intro j jm;rw[sk,Int.toNat_natCast];have:=ex j jm;simp[List.getD,Ne.symm this]
  have ih:=k9 t r A (cD Ks Y E (n:Int)) true nd'.2 (fun j jm=>by rw[vS];exact rg j iX) (lv.step t r _) (by rw[vS];exact hl) (fun j jm z hz=>by
   rw[es,List.getElem?_set,if_neg (Ne.symm (ex j jm))]at hz;exact hm j iX z hz)
  rw[if_neg (by rw[kg,ek];simp),if_pos xz,←sb,←sk,ih,fl,List.filter_cons,if_pos (by rw[kg,ek];rfl)];simp;rw[if_pos (by rw[kg,ek]),List.filter_cons,if_neg (by rw[kg,ek];simp)];exact k9 t r A E mo nd'.2 (fun j jm=>rg j iX) lv hl (fun j jm=>hm j iX)
theorem yM{l:List Int}{bs:List Bool}{view over s:Int}{A:List Int}(a:rG l bs view over s A):A.Nodup:=by obtain⟨hd,_,rfl⟩:=a;split;simp;unfold yL;exact List.Pairwise.map _ (fun a b h e=>h (by have e:(a:Int)=b:=e;omega)) (List.Pairwise.filter _ List.nodup_range)
end
end Go.Ev.Lay
