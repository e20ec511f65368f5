/- An evaluator of the program, and contracts over it: LayN to StL. -/
import Derived.Test.YtdbfhmneijcjbaaGreatP04
import Derived.Test.YtdbfhmneijcjbaaGreatP06
set_option linter.unusedSimpArgs false
set_option linter.unusedVariables false
set_option linter.constructorNameAsVariable false
set_option linter.unnecessarySimpa false
namespace Go.Ev.Lay
set_option maxRecDepth 4000
def rM(t:Int):List Int→Int
 |[]=>0
 |s::l=>if s<1∨2305843009213693952<s then 12 else if 4611686018427387904<t+s then 13 else rM (t+s) l
theorem vd:∀(a:List Int)(s t:Int),chk (a++[s]) t=if chk a t=0 then(if s<0∨2305843009213693952<s then 12 else if 4611686018427387904-(t+a.sum)<s then 13 else 0)else chk a t
 |[],s,t=>by simp[chk]
 |x::a,s,t=>by
  simp only[List.cons_append,chk];by_cases c1:x<0∨2305843009213693952<x
  ·simp only[if_pos c1];simp
  ·simp only[if_neg c1];by_cases c2:4611686018427387904-t<x
   ·simp only[if_pos c2];simp
   ·simp only[if_neg c2];rw[vd a s (t+x)];simp only[List.sum_cons,show t+x+a.sum=t+(x+a.sum) by omega];rfl
def ce(l:List Int)(a:Int)(m:List Int):Int:=if 0≤a∧a≤l.length then if 1024-(l.length:Int)<m.length then 3 else if rM 0 m=0 then(if 4611686018427387904-m.sum<l.sum then 13 else 0)else rM 0 m else 4
theorem A2{ks:List Bool}{a n:Nat}{kn:Bool}(ha:a≤ks.length)(j:Nat):
 (ks.take a++List.replicate n kn++ks.drop a).getD j false=if j<a then ks.getD j false else if j<a+n then kn else ks.getD (j-n) false:=by
 simp only[List.getD_eq_getElem?_getD];by_cases c1:j<a
 ·rw[if_pos c1,List.append_assoc,List.getElem?_append_left (by simp;omega),List.getElem?_take,if_pos c1]
 ·rw[if_neg c1,List.append_assoc,List.getElem?_append_right (by simp;omega)];have hl:(ks.take a).length=a:=by simp;omega
  rw[hl];by_cases c2:j<a+n
  ·rw[if_pos c2,List.getElem?_append_left (by simp;omega),List.getElem?_replicate,if_pos (by omega)];rfl
  ·rw[if_neg c2,List.getElem?_append_right (by simp;omega),List.length_replicate,List.getElem?_drop];congr 2;omega
theorem DU{h:Heap}{v u:V}{l m:List Int}{ks:List Bool}{i:Int}{kn:Bool}(w:WF h)(a:Ix h v l ks)(am:mJ h u m)(hm:m.length≤1000000)(i0:-9223372036854775808≤i)(i1:i≤9223372036854775807):
 ao go 223 [v,.int .i64 i,u,.bool kn] h fun z h'=>Fr [] h h'∧∃c d,z=.tup [.agg [c,d],.int .i64 (ce l i m)]∧c.one=true∧d.one=true∧
  (ce l i m=0→Ix h' (.agg [c,d]) (l.take i.toNat++m++l.drop i.toNat) (ks.take i.toNat++List.replicate m.length kn++ks.drop i.toNat)):=by
 have a0:=a;obtain⟨p,vk,L,rfl,r,s,kn',e1,e2⟩:=a;obtain⟨h1,e_h1⟩:∃h1,h1=halloc h [pv p,vk]:=⟨_,rfl⟩;have F_h1:Fr [] h h1:=e_h1▸Fr.halloc w _;have o_h1:Own h1 h.next [pv p,vk]:=e_h1▸Own.new w _;obtain⟨h2,e_h2⟩:∃h2,h2=halloc h1 [.nilp,.nils]:=⟨_,rfl⟩;have F_h2:Fr [] h1 h2:=e_h2▸Fr.halloc F_h1.wf _;have o_h2:Own h2 h1.next [.nilp,.nils]:=e_h2▸Own.new F_h1.wf _;have F12:=F_h1.then F_h2;have o1:=F_h2.get o_h1;have b1:h.next≤h1.next:=F_h1.next;by_cases c0:i<0
 ·refine ah rfl rfl ?_;simp only[fn223,evs,seval,←e_h1,←e_h2,c0];refine ab (c':=[.nilp,.nils]) F_h2.wf o_h2 rfl (by first|rfl|simp[aq,V.cells,aL, *]) rfl ?_
  rintro h4 o_h4 F_h4 n_h4;simp only[evs,seval,o_h4.ld];have e:ce l i m=4:=by unfold ce;rw[if_neg (by omega)]
  rw[e];exact⟨F12.fresh F_h4 w b1,_,_,rfl,rfl,rfl,by simp⟩
 ·refine ah rfl rfl ?_;simp only[fn223,evs,seval,←e_h1,←e_h2,o1.ld,c0];refine aa (gY F12.wf (a0.fr F12)) ?_;rintro _ h3 ⟨rfl,F3⟩;by_cases c1:(l.length:Int)<i
  ·simp only[evs,seval,c1];refine ab (c':=[.nilp,.nils]) F3.wf (F3.get o_h2) rfl (by first|rfl|simp[aq,V.cells,aL, *]) rfl ?_
   rintro h4 o_h4 F_h4 n_h4;simp only[evs,seval,o_h4.ld];have e:ce l i m=4:=by unfold ce;rw[if_neg (by omega)]
   rw[e];exact⟨(F12.then F3).fresh F_h4 w b1,_,_,rfl,rfl,rfl,by simp⟩
  ·have am3:=am.fr (F12.then F3);simp only[evs,seval,c1,am3.len,(F3.get o1).ld];refine aa (gY F3.wf (a0.fr (F12.then F3))) ?_;rintro _ h4 ⟨rfl,F4⟩;have F34:=F3.then F4;have F14:=F12.then F34;have am4:=am.fr F14;have hi:0≤i∧i≤l.length:=by omega
   by_cases c2:1024-(l.length:Int)<m.length
   ·simp(disch:=omega) only[evs,seval,ai,c2];refine ab (c':=[.nilp,.nils]) F4.wf (F34.get o_h2) rfl (by first|rfl|simp[aq,V.cells,aL, *]) rfl ?_
    rintro h5 o_h5 F_h5 n_h5;simp only[evs,seval,o_h5.ld];have e:ce l i m=3:=by unfold ce;rw[if_pos hi,if_pos c2]
    rw[e];exact⟨F14.fresh F_h5 w b1,_,_,rfl,rfl,rfl,by simp⟩
   ·simp(disch:=omega) only[evs,seval,ai,c2,am4.len];have o2:=F34.get o_h2;refine aC (fun k env hh=>hh=h4∧∃(j:Nat),env.get 36=some (.int .i64 j)∧env.get 34=some u∧env.get 35=some (.int .i64 m.length)∧env.get 2=some u∧env.get 1=some (.int .i64 i)∧env.get 3=some (.bool kn)∧
     env.get 4=some (.ptr h.next 0)∧env.get 8=some (.ptr h1.next 0)∧j≤m.length∧chk (m.take j) 0=0∧0≤(m.take j).sum∧(m.take j).sum≤4611686018427387904∧rM (m.take j).sum (m.drop j)=rM 0 m∧k=m.length-j) m.length (by omega) ?_ ?_
    ·exact⟨rfl,0,(by simp),(by simp),(by simp),(by simp),(by simp),(by simp),(by simp),(by simp),by omega,by simp[chk],by simp,by simp,by simp,rfl⟩
    ·rintro k env hh ⟨rfl,j,g36,g34,g35,g2,g1,g3,g4,g8,hj,ck,sn,sm,se,rfl⟩;by_cases hlt:(j:Int)<m.length
     ·obtain⟨bb,oo,x,q1,q2,q3⟩:=am4.ix .i64 j (by omega) hlt;simp only[Int.toNat_natCast]at q3;rw[aJ q3,rM]at se;simp only[evs,seval,g36,g34,g35,hlt,q1,q2];refine aa mX ?_;rintro _ _ ⟨rfl,hh⟩;subst hh;by_cases c3:x<1∨2305843009213693952<x
      ·simp only[evs,seval,eq_true c3,g8];refine ab (c':=[.nilp,.nils]) F4.wf o2 rfl (by first|rfl|simp[aq,V.cells,aL, *]) rfl ?_
       rintro h5 o_h5 F_h5 n_h5;simp only[evs,seval,o_h5.ld,g8];rw[if_pos c3]at se;have e:ce l i m=12:=by unfold ce;rw[if_pos hi,if_neg c2,if_neg (by omega),←se]
       rw[e];exact⟨F14.fresh F_h5 w b1,_,_,rfl,rfl,rfl,by simp⟩
      ·rw[if_neg c3]at se;have hv:u≠.sliceE:=Sl.ne am4 (by omega);obtain⟨u',p1,p2⟩:=am4.upto hv .i64 ((j:Int)+1) (by omega) (by omega);have tk:m.take (j+1)=m.take j++[x]:=by rw[List.take_add_one,q3];rfl
       rw[show((j:Int)+1).toNat=j+1 by omega]at p2;have cs:chk (m.take (j+1)) 0=if 4611686018427387904<(m.take j).sum+x then 13 else 0:=by
        rw[tk,vd,if_pos ck,if_neg (by omega)];by_cases c4:4611686018427387904<(m.take j).sum+x
        ·rw[if_pos c4,if_pos (by omega)]
        ·rw[if_neg c4,if_neg (by omega)]
       simp(disch:=omega) only[evs,seval,ai,eq_false c3,g2,p1];refine aa (pB F4.wf p2 (by simp;omega)) ?_;rintro _ _ ⟨rfl,hh⟩;subst hh;rw[if_neg (by simp;omega),cs];by_cases c4:4611686018427387904<(m.take j).sum+x
       ·rw[if_pos c4]at se⊢;simp only[evs,seval,g8,show¬(13:Int)=0 by omega];refine ab (c':=[.nilp,.nils]) F4.wf o2 rfl (by first|rfl|simp[aq,V.cells,aL, *]) rfl ?_
        rintro h5 o_h5 F_h5 n_h5;simp only[evs,seval,o_h5.ld,g8];have e:ce l i m=13:=by unfold ce;rw[if_pos hi,if_neg c2,if_neg (by omega),←se]
        rw[e];exact⟨F14.fresh F_h5 w b1,_,_,rfl,rfl,rfl,by simp⟩
       ·rw[if_neg c4]at se⊢;simp(disch:=omega) only[evs,seval,ai,g36];have ts:(m.take (j+1)).sum=(m.take j).sum+x:=by rw[tk];simp
        refine(aj _ _ _).2 ⟨m.length-(j+1),by omega,rfl,j+1,(by simp),(by simp[g34]),(by simp[g35]),(by simp[g2]),(by simp[g1]),(by simp[g3]),(by simp[g4]),(by simp[g8]),by omega,by rw[cs,if_neg c4],by rw[ts];omega,by rw[ts];omega,by rw[ts];exact se,rfl⟩
        done
     ·have ej:j=m.length:=by omega
      subst ej;simp only[List.take_length,List.drop_length,rM]at ck se sn sm;simp only[evs,seval,g36,g35,g2,g1,g4,hlt,(F34.get o1).ld];refine aa (D2 F4.wf (r.fr F14) am4 hm) ?_;rintro _ h5 ⟨F5,c5,rfl,hc5,hr⟩;have ei:pE l i m=ce l i m:=by
       unfold pE ce ofE hP;rw[if_pos hi,if_pos hi,if_neg (show¬4096<m.length by omega),if_pos ck,if_neg (show¬4096<l.length+m.length by omega),if_neg c2,if_pos se.symm]
      rw[ei]at hr⊢;obtain⟨h6,e_h6⟩:∃h6,h6=halloc h5 [.nilp]:=⟨_,rfl⟩;have F_h6:Fr [] h5 h6:=e_h6▸Fr.halloc F5.wf _;have o_h6:Own h6 h5.next [.nilp]:=e_h6▸Own.new F5.wf _;simp only[evs,seval,←e_h6];refine ab (c':=[c5]) F_h6.wf o_h6 rfl (by simp[aq,V.cells,hc5]) rfl ?_;rintro h7 o7 F7 n7;have F57:Fr [] h5 h7:=F_h6.fresh F7 F5.wf (Nat.le_refl _);have F27:=(F34.then F5).then F57;by_cases z:ce l i m=0
      ·simp only[evs,seval,eq_true z,g2,g1,g4,(F27.get o1).ld1,am.len];refine aa (DZ (m:=ks.length) F57.wf (s.fr (F12.then F27)).slc kn'.ok (by omega) kn'.le (by omega) (by omega) (by omega) (by omega)) ?_;rintro _ h8 ⟨F8,vk1,L1,rfl,ov1,sL1,ok1,iL1,mL1⟩;simp(disch:=omega) only[evs,seval,eff,ai,g2,g1,g3,(F8.get o7).ld,am.len];refine aa (qo (m:=ks.length+m.length) F8.wf sL1 ok1 (by omega) mL1 (by omega) (by omega) (by omega)) ?_;rintro vk2 h9 ⟨F9,L2,ov2,sL2,ok2,iL2,mL2⟩;simp only[evs,seval,eff];refine aa (rG F9.wf hc5 ov2) ?_;rintro _ h10 ⟨F10,rfl⟩;rw[if_pos rfl];have F210:=((F27.then F8).then F9).then F10;simp only[evs,seval,eff,g8];refine ab (c':=[c5,vk2]) F10.wf (F210.get o_h2) rfl (by first|rfl|simp[aq,V.cells, *]) rfl ?_
       rintro h11 o_h11 F_h11 n_h11;simp only[evs,seval,DF,eff,o_h11.ld,g8,(F8.get o7).ld,((F8.then F9).get o7).ld];obtain⟨t',p',ep,at',et,ft⟩:=hr z;cases ep;refine⟨(F12.then F210).fresh F_h11 w b1,_,_,by rw[z],aL _,ov2,fun _=>⟨p',vk2,L2,rfl,?_,?_,?_,?_,?_⟩⟩
       ·exact(Rp.fr (l:=l.take i.toNat++m++l.drop i.toNat) ⟨t',p',rfl,at',et,ft⟩ (((F57.then F8).then F9).then F10)).frb F_h11 (F210.get o_h2) (by simp)
       ·exact(sL2.fr F10).frb F_h11 (F210.get o_h2) (v7 (by simp))
       ·refine⟨ok2,?_,fun j=>?_⟩
        ·intro x hx;have:=mL2 x hx;simp;omega
        ·rw[iL2,iL1,A2 (by omega)];unfold shf;by_cases d1:j<i.toNat
         ·rw[if_neg (by omega),if_pos (by omega),if_pos d1,kn'.eq]
         ·by_cases d2:j<i.toNat+m.length
          ·rw[if_pos (by omega),if_neg d1,if_pos d2]
          ·rw[if_neg (by omega),if_neg (by omega),if_neg (by omega),if_neg d1,if_neg d2,←kn'.eq];congr 1;omega
       ·simp;omega
       ·simp;omega
      ·simp only[evs,seval,eq_false z,g8];refine ab (c':=[.nilp,.nils]) F57.wf (F27.get o_h2) rfl (by first|rfl|simp[aq,V.cells,aL, *]) rfl ?_
       rintro h9 o_h9 F_h9 n_h9;simp only[evs,seval,o_h9.ld,g8];exact⟨(F12.then F27).fresh F_h9 w b1,_,_,rfl,rfl,rfl,by simp[]⟩
theorem DO(k:IntKind)(x:Nat)(b:Int)(n:Nat)(h:b=n)(hn:n≤64):aP (.sh false) [.int .u64 (x:Int),.int k b]=some (.int .u64 ((x/2^n:Nat):Int)):=by
 subst h;rw[wM _ _ _ _ (by omega)];simp only[Int.toNat_natCast,IntKind.bits,Nat.min_eq_left hn];congr 2;rw[Int.fdiv_eq_ediv_of_nonneg _ (Int.natCast_nonneg _),Int.natCast_ediv]
theorem Hv(w x y:Nat):(BitVec.ofInt w (x:Int)&&&BitVec.ofInt w (y:Int)).toNat=(x%2^w)&&&(y%2^w):=by simp[BitVec.toNat_and]
theorem Hu(w x y:Nat):(BitVec.ofInt w (x:Int)^^^BitVec.ofInt w (y:Int)).toNat=(x%2^w)^^^(y%2^w):=by simp[BitVec.toNat_xor]
theorem B9(k:IntKind)(a b:Int):aP (.ib .and) [.int k a,.int k b]=some (.int k (bC k (BitVec.toNat (BitVec.ofInt k.bits a&&&BitVec.ofInt k.bits b)))):=by simp only[aP,bF,cond_true,fQ]
theorem FX(k:IntKind)(a b:Int):aP (.ib .xor) [.int k a,.int k b]=some (.int k (bC k (BitVec.toNat (BitVec.ofInt k.bits a^^^BitVec.ofInt k.bits b)))):=by simp only[aP,bF,cond_true,fQ]
theorem p64:2^IntKind.u64.bits=18446744073709551616:=rfl
theorem DQ(x y:Nat)(a b:Int)(ha:a=x)(hb:b=y)(hx:x<18446744073709551616)(hy:y<18446744073709551616):aP (.ib .and) [.int .u64 a,.int .u64 b]=some (.int .u64 ((x&&&y:Nat):Int)):=by
 subst ha hb;have hxy:x&&&y<18446744073709551616:=Nat.lt_of_le_of_lt Nat.and_le_left hx;rw[B9,Hv,p64,Nat.mod_eq_of_lt hx,Nat.mod_eq_of_lt hy,cP _ (by omega) (by omega)]
theorem mU(x y:Nat)(a b:Int)(ha:a=x)(hb:b=y)(hx:x<18446744073709551616)(hy:y<18446744073709551616):aP (.ib .xor) [.int .u64 a,.int .u64 b]=some (.int .u64 ((x^^^y:Nat):Int)):=by
 subst ha hb;have hxy:x^^^y<2^64:=Nat.xor_lt_two_pow (by simpa using hx) (by simpa using hy);rw[FX,Hu,p64,Nat.mod_eq_of_lt hx,Nat.mod_eq_of_lt hy,cP _ (by omega) (by omega)]
def uw(x:Nat):V:=.int .u64 (x:Int)
def flc(n m:Int)(ws:List Nat):List V:=.int .i64 n::.int .i64 m::ws.map uw
structure WOK(ws:List Nat)(bs:List Bool):Prop where
 len:ws.length=64
 w:∀k,k<64→∃x,ws[k]? =some x∧x<18446744073709551616∧∀j,j<64→x.testBit j=bs.getD (64*k+j) false
def Fl(h:Heap)(b:Nat)(bs:List Bool):Prop:=∃ws,Own h b (flc bs.length (bs.count true) ws)∧WOK ws bs∧bs.length≤4096
theorem Fl.fr{h h':Heap}{b:Nat}{bs:List Bool}(a:Fl h b bs)(f:Fr [] h h'):Fl h' b bs:=by
 obtain⟨ws,o,x⟩:=a;exact⟨ws,f.get o,x⟩
theorem xw(n m:Int)(ws:List Nat)(k:Nat):nth (flc n m ws) (2+k)=(ws[k]?).map uw:=by
 rw[iw,Nat.add_comm];simp[flc]
theorem Ej(i:Nat):aP (.ib .quo) [.int .i64 (i:Int),.int .i64 64]=some (.int .i64 ((i/64:Nat):Int))∨i>9000000:=by
 by_cases h:i>9000000
 ·exact .inr h
 ·left;rw[lT _ _ 64 (by decide),show Int.tdiv (i:Int) 64=((i/64:Nat):Int)from(Int.ofNat_tdiv i 64).symm,ai _ (by omega) (by omega)]
theorem Ei(i:Nat):aP (.ib .rem) [.int .i64 (i:Int),.int .i64 64]=some (.int .i64 ((i%64:Nat):Int)):=by
 rw[ke _ _ 64 (by decide),show Int.tmod (i:Int) 64=((i%64:Nat):Int)from(Int.ofNat_tmod i 64).symm]
theorem HX(x j:Nat):decide (((x/2^j&&&1:Nat):Int)=1)=x.testBit j:=by
 rw[Nat.testBit_eq_decide_div_mod_eq,Nat.and_one_is_mod];rw[Bool.eq_iff_iff,decide_eq_true_eq,decide_eq_true_eq];omega
theorem A7{h:Heap}{b:Nat}{bs:List Bool}{i:Nat}(f:Fl h b bs)(hi:i<bs.length):ao go 211 [.ptr b 0,.int .i64 (i:Int)] h fun u h'=>u=.bool (bs.getD i false)∧h'=h:=by
 obtain⟨ws,o,ok,hn⟩:=f;obtain⟨x,e1,e2,e3⟩:=ok.w (i/64) (by omega);have q1:=(Ej i).resolve_right (by omega);have q2:=Ei i;have q3:=ti 1 b 2 64 .i64 ((i/64:Nat):Int) (by omega) (by omega);have q4:ag h b (2+(i/64) *1)=some (.int .u64 (x:Int)):=by rw[o.ld1,Nat.mul_one,xw,e1];rfl
 have q5:=DO .i64 x ((i%64:Nat):Int) (i%64) rfl (by omega);have q6:=DQ (x/2^(i%64)) 1 _ 1 rfl rfl (Nat.lt_of_le_of_lt (Nat.div_le_self _ _) e2) (by omega);simp only[Int.toNat_natCast]at q3;refine ah rfl rfl ?_;simp only[fn211,ya,xY,yb,gG,tj,DX,DW,CY,mW,mV,AG,tn,eg,sw,sr,mj,gh,xC,cL,eP,bW,bv,bT,jt,fx,T.get_set,kZ,kY,kL,sB,iY,xQ,pq,gz,wO,seval,Nat.zero_add,q1,q2,q3,q4,q5,q6,HX];rw[e3 (i%64) (by omega),show 64*(i/64)+i%64=i by omega];exact⟨rfl,trivial⟩
theorem qH:∀(bs:List Bool)(i:Nat)(v:Bool),i<bs.length→bs.getD i false≠v→((bs.set i v).count true:Int)=bs.count true+if v=true then 1 else-1
 |b::bs,0,v,_,h=>by cases b<;>cases v<;>simp at h⊢ <;>omega
 |b::bs,i+1,v,hi,h=>by
  have ih:=qH bs i v (by simpa using hi) (by simpa using h);simp only[List.set_cons_succ,List.count_cons];split at ih<;>simp_all<;>split<;>omega
theorem tJ:∀(bs:List Bool)(i:Nat),bs.set i (bs.getD i false)=bs
 |[],_=>rfl
 |b::bs,0=>by simp
 |b::bs,i+1=>by have:=tJ bs i;simp at this⊢;exact this
theorem WOK.flip{ws:List Nat}{bs:List Bool}(ok:WOK ws bs){i x:Nat}{v:Bool}(hi:i<bs.length)(h4:bs.length≤4096)(hx:ws[i/64]? =some x)(hv:bs.getD i false≠v):WOK (ws.set (i/64) (x^^^2^(i%64))) (bs.set i v):=by
 refine⟨by rw[List.length_set];exact ok.len,fun k hk=>?_⟩;obtain⟨y,e1,e2,e3⟩:=ok.w k hk;by_cases c:k=i/64
 ·subst c;rw[hx]at e1;cases e1;refine⟨x^^^2^(i%64),by simp[ok.len,hk],?_,fun j hj=>?_⟩
  ·have:=Nat.xor_lt_two_pow (n:=64) (x:=x) (y:=2^(i%64)) (by simpa using e2) (Nat.pow_lt_pow_right (by omega) (by omega));simpa using this
  ·rw[Nat.testBit_xor,Nat.testBit_two_pow,e3 j hj,oI hi];by_cases cj:i%64=j
   ·rw[if_pos (by omega)];have:64*(i/64)+j=i:=by omega
    rw[this];simp only[cj,decide_true];cases h1:bs.getD i false<;>cases v<;>simp_all
   ·rw[if_neg (by omega)];simp[cj]
 ·refine⟨y,by rw[List.getElem?_set_ne (Ne.symm c)];exact e1,e2,fun j hj=>?_⟩;rw[e3 j hj,oI hi,if_neg (by omega)]
theorem Ds(n m:Int)(ws:List Nat)(k y:Nat):(flc n m ws).set (2+k) (.int .u64 (y:Int))=flc n m (ws.set k y):=by
 rw[Nat.add_comm];simp[flc,List.map_set,uw]
theorem cT(n m:Int)(ws:List Nat):(flc n m ws).length=ws.length+2:=by simp[flc]
theorem iV(l:List V):aY l 0 []=some l:=by cases l<;>rfl
theorem uI(n m m':Int)(ws:List Nat):aY (flc n m ws) 1 [.int .i64 m']=some (flc n m' ws):=by
 show aY (.int .i64 n::.int .i64 m::ws.map uw) (0+1) [.int .i64 m']=_;rw[aX,aQ,iV];rfl
theorem Bf(n n' m:Int)(ws:List Nat):aY (flc n m ws) 0 [.int .i64 n']=some (flc n' m ws):=by
 show aY (.int .i64 n::.int .i64 m::ws.map uw) 0 [.int .i64 n']=_;rw[aQ,iV];rfl
theorem CZ(k:IntKind)(j:Nat)(hj:j<64):aP (.sh true) [.int .u64 1,.int k (j:Int)]=some (.int .u64 ((2^j:Nat):Int)):=by
 have h2:2^j<2^64:=Nat.pow_lt_pow_right (by omega) hj;rw[FY _ _ _ _ (by omega)];simp only[Int.toNat_natCast,IntKind.bits,Nat.min_eq_left (show j≤64 by omega),Int.one_mul];rw[cP _ (Int.natCast_nonneg _) (Int.ofNat_le.2 (Nat.le_of_lt_succ (by simpa using h2)))]
theorem xv{h:Heap}{b:Nat}{bs:List Bool}{i:Nat}{v:Bool}(w:WF h)(f:Fl h b bs)(hi:i<bs.length):ao go 212 [.ptr b 0,.int .i64 (i:Int),.bool v] h fun u h'=>u=.tup []∧Fl h' b (bs.set i v)∧Fr [b] h h'∧h'.next=h.next:=by
 have f0:=f;obtain⟨ws,o,ok,hn⟩:=f;obtain⟨x,e1,e2,e3⟩:=ok.w (i/64) (by omega);have q1:=(Ej i).resolve_right (by omega);have q2:=Ei i;have q3:=ti 1 b 2 64 .i64 ((i/64:Nat):Int) (by omega) (by omega);simp only[Int.toNat_natCast,Nat.mul_one]at q3;have q4:ag h b (2+i/64)=some (.int .u64 (x:Int)):=by rw[o.ld1,xw,e1];rfl
 have q5:=CZ .i64 (i%64) (by omega);have h2:2^(i%64)<2^64:=Nat.pow_lt_pow_right (by omega) (by omega);have q6:=mU x (2^(i%64)) _ _ rfl rfl e2 (by simpa using h2);have j8:bs.count true≤bs.length:=List.count_le_length;refine ah rfl rfl ?_;simp only[fn212,evs,seval];refine aa (A7 f0 hi) ?_;rintro _ _ ⟨rfl,hh⟩;subst hh;by_cases hv:bs.getD i false=v
 ·simp only[evs,seval,eq_true hv];rw[←hv,tJ];exact⟨f0,Fr.refl w⟩
 ·simp only[evs,seval,eff,eq_false hv,q1,q2,q3,q4,q5,q6];refine ab (c':=flc bs.length (bs.count true) (ws.set (i/64) (x^^^2^(i%64)))) w o rfl rfl ?_ ?_
  ·rw[show V.cells (.int .u64 ((x^^^2^(i%64):Nat):Int))=[.int .u64 ((x^^^2^(i%64):Nat):Int)]from rfl,iU _ _ _ (by rw[cT,ok.len];omega),Ds]
  rintro h1 o1 F1 n1;have cs:=qH bs i v hi hv;have okf:=ok.flip hi hn e1 hv;have ln:((bs.set i v).length:Int)=bs.length:=by simp
  cases v
  ·simp(disch:=omega) only[evs,seval,DF,ai,q4,o1.ld1,flc];refine ab (c':=flc bs.length ((bs.count true:Int)-1) (ws.set (i/64) (x^^^2^(i%64)))) F1.wf o1 rfl rfl (uI _ _ _ _) ?_;rintro h2 o2 F2 n2;simp only[evs];simp only[Bool.false_eq_true,if_false]at cs;refine⟨⟨_,by rw[ln,cs,show(bs.count true:Int)+-1=bs.count true-1 by omega];exact o2,okf,by simpa using hn⟩,F1.trans F2 w (fun x hx=>.inl hx) (fun x hx=>.inl hx),n2.trans n1⟩
  ·simp(disch:=omega) only[evs,seval,DF,ai,q4,o1.ld1,flc];refine ab (c':=flc bs.length ((bs.count true:Int)+1) (ws.set (i/64) (x^^^2^(i%64)))) F1.wf o1 rfl rfl (uI _ _ _ _) ?_;rintro h2 o2 F2 n2;simp only[evs];simp only[if_true]at cs;refine⟨⟨_,by rw[ln,cs];exact o2,okf,by simpa using hn⟩,F1.trans F2 w (fun x hx=>.inl hx) (fun x hx=>.inl hx),n2.trans n1⟩
def pG(n:Nat)(a k:Int):Int:=if a<0∨k<0∨n<a∨n-a<k then 4 else 0
theorem lM{h:Heap}{b:Nat}{bs:List Bool}{a k:Int}(f:Fl h b bs)(a0:-9223372036854775808≤a)(a1:a≤9223372036854775807):ao go 150 [.ptr b 0,.int .i64 a,.int .i64 k] h fun u h'=>u=.int .i64 (pG bs.length a k)∧h'=h:=by
 obtain⟨ws,o,ok,hn⟩:=f;have q:ag h b 0=some (.int .i64 (bs.length:Int)):=o.ld1 0;unfold pG;by_cases c1:a<0
 ·refine ah rfl rfl ?_;simp only[fn150,evs,seval,c1];simp
 ·by_cases c2:k<0
  ·refine ah rfl rfl ?_;simp only[fn150,evs,seval,c1,c2];simp
  ·by_cases c3:(bs.length:Int)<a
   ·refine ah rfl rfl ?_;simp only[fn150,evs,seval,q,c1,c2,c3];simp
   ·by_cases c4:(bs.length:Int)-a<k
    ·refine ah rfl rfl ?_;simp(disch:=omega) only[fn150,evs,seval,ai,q,c1,c2,c3,c4];simp
    ·refine ah rfl rfl ?_;simp(disch:=omega) only[fn150,evs,seval,ai,q,c1,c2,c3,c4];simp
theorem Dv{h:Heap}{b:Nat}{bs:List Bool}{i:Int}{v:Bool}(w:WF h)(f:Fl h b bs)(a0:-9223372036854775808≤i)(a1:i≤9223372036854775807):ao go 178 [.ptr b 0,.int .i64 i,.bool v] h fun u h'=>
 (u=.int .i64 (if 0≤i∧i<bs.length then 0 else 4))∧Fl h' b (if 0≤i∧i<bs.length then bs.set i.toNat v else bs)∧Fr [b] h h'∧h'.next=h.next:=by
 refine ah rfl rfl ?_;simp only[fn178,evs,seval];refine aa (lM f a0 a1) ?_;rintro _ _ ⟨rfl,hh⟩;subst hh;by_cases c:0≤i∧i<bs.length
 ·have e:pG bs.length i 1=0:=by unfold pG;rw[if_neg (by omega)]
  obtain⟨j,rfl⟩:∃j:Nat,i=j:=⟨i.toNat,by omega⟩;rw[e,if_pos c,if_pos c];simp only[evs,seval];refine aa (xv w f (by omega)) ?_;rintro _ h1 ⟨rfl,f1,F1,n1⟩;simp only[evs,seval,Int.toNat_natCast];exact⟨f1,F1,n1⟩
 ·have e:pG bs.length i 1=4:=by unfold pG;rw[if_pos (by omega)]
  rw[e,if_neg c,if_neg c];simp only[evs,seval,show¬(4:Int)=0 by omega];exact⟨f,Fr.refl w⟩
theorem GF(h:Heap):WOK (List.replicate 64 0) []:=⟨by simp,fun k hk=>⟨0,by rw[List.getElem?_replicate,if_pos hk],by omega,fun j _=>by simp⟩⟩
theorem Dx{h:Heap}(w:WF h):ao go 224 [.int .i64 0] h fun u h'=>∃b,u=.tup [.ptr b 0,.int .i64 0]∧h.next≤b∧Fl h' b []∧Fr [] h h':=by
 refine ah rfl rfl ?_;simp only[fn224,evs,seval,show¬(0:Int)<0 by omega,show¬(4096:Int)<0 by omega];exact⟨_,rfl,Nat.le_refl _,⟨List.replicate 64 0,Own.new w _,GF h,by simp⟩,Fr.halloc w _⟩
theorem Sl.frb{h h':Heap}{esz:Nat}{v:V}{n:Nat}{cs:List V}{b:Nat}{c c':List V}(a:Sl h esz v n cs)(f:Fr [b] h h')(o:Own h b c)(o':Own h' b c')(hl:c'.length=c.length)(hd:cs≠[]→∃x∈cs,x∉c):Sl h' esz v n cs:=by
 obtain⟨e1,e2⟩:=a;have main:∀(bb oo:Nat),(∃d,Own h bb d∧oo+n*esz≤d.length∧cs=(d.drop oo).take (n*esz))→∃d,Own h' bb d∧oo+n*esz≤d.length∧cs=(d.drop oo).take (n*esz):=by
  rintro bb oo ⟨d,od,h1,h2⟩;by_cases e:bb=b
  ·subst e;have:=od.uniq o;subst this;by_cases hL:cs=[]
   ·subst hL;have:n*esz=0:=by simpa using e1.symm
    exact⟨c',o',by omega,by simp[this]⟩
   ·obtain⟨x,hx,hn⟩:=hd hL;rw[h2]at hx;exact absurd (List.mem_of_mem_drop (List.mem_of_mem_take hx)) hn
  ·exact⟨d,f.own _ _ (by simpa using e) od,h1,h2⟩
 refine⟨e1,?_⟩;cases v with
 |slice bb oo len cap=>obtain⟨x1,x2,x3⟩:=e2;exact⟨x1,x2,main bb oo x3⟩
 |sliceU bb oo len cap=>obtain⟨x1,x2,x3⟩:=e2;exact⟨x1,x2,main bb oo x3⟩
 |_=>exact e2
theorem Bools.frb{h h':Heap}{v:V}{bs:List Bool}{b:Nat}{n m n' m':Int}{ws ws':List Nat}(a:Bools h v bs)(f:Fr [b] h h')(o:Own h b (flc n m ws))(o':Own h' b (flc n' m' ws'))(hl:ws'.length=ws.length):Bools h' v bs:=by
 refine Sl.frb a f o o' (by simp[cT,hl]) fun hne=>?_;cases bs with
 |nil=>simp at hne
 |cons x bs=>exact⟨.bool x,by simp,by simp[flc,uw]⟩
theorem CO(bs:List Bool)(i:Nat)(x:Bool)(h:bs[i]? =some x):((bs.take i).map V.bool++List.replicate (bs.length-i) (V.bool false)).set i (V.bool x)=(bs.take (i+1)).map V.bool++List.replicate (bs.length-(i+1)) (V.bool false):=by
 have hi:i<bs.length:=by
  rcases Nat.lt_or_ge i bs.length with y|y
  ·exact y
  ·rw[List.getElem?_eq_none y]at h;cases h
 have hl:((bs.take i).map V.bool).length=i:=by simp;omega
 rw[List.set_append,if_neg (by omega),hl,Nat.sub_self,show bs.length-i=(bs.length-(i+1))+1 by omega,List.replicate_succ,List.set_cons_zero,List.take_add_one,h];simp
theorem uH{h:Heap}{b:Nat}{bs:List Bool}(w:WF h)(f:Fl h b bs):ao go 151 [.ptr b 0] h fun u h'=>Bools h' u bs∧(∃c,u=.slice c 0 bs.length bs.length∧h.next≤c)∧Fr [] h h':=by
 have f0:=f;obtain⟨ws,o,ok,hn⟩:=f;have q:ag h b 0=some (.int .i64 (bs.length:Int)):=o.ld1 0;refine ah rfl rfl ?_;simp only[fn151,evs,seval,q];refine(gw _ _ _ _ _ _ _ _ (by omega) (by omega) (by omega) (by omega)).2 ?_;simp only[Int.toNat_natCast];rw[tV];obtain⟨h1,e_h1⟩:∃h1,h1=halloc h (List.replicate bs.length (.bool false)):=⟨_,rfl⟩;have F_h1:Fr [] h h1:=e_h1▸Fr.halloc w _;have o_h1:Own h1 h.next (List.replicate bs.length (.bool false)):=e_h1▸Own.new w _;simp only[evs,seval,←e_h1];refine aC (fun k env hh=>∃i:Nat,env.get 12=some (.int .i64 i)∧env.get 11=some (.int .i64 bs.length)∧env.get 3=some (.slice h.next 0 bs.length bs.length)∧env.get 0=some (.ptr b 0)∧i≤bs.length∧Fr [] h hh∧
  Own hh h.next ((bs.take i).map V.bool++List.replicate (bs.length-i) (.bool false))∧k=bs.length-i) bs.length (by omega) ?_ ?_
 ·exact⟨0,(by simp),(by simp),(by simp),(by simp),by omega,F_h1,by simpa using o_h1,rfl⟩
 ·rintro k env hh ⟨i,g12,g11,g3,g0,hi,F,oo,rfl⟩;by_cases hlt:(i:Int)<bs.length
  ·have ei:bs[i]? =some (bs.getD i false):=by simp[List.getD,show i<bs.length by omega]
   simp only[evs,seval,g12,g11,g0,hlt];refine aa (A7 (f0.fr F) (by omega)) ?_;rintro _ _ ⟨rfl,hh'⟩;subst hh';have ix:=fC 1 h.next 0 bs.length bs.length .i64 i (by omega) hlt;simp only[Int.toNat_natCast,Nat.mul_one,Nat.zero_add]at ix;simp only[evs,seval,g3,ix];refine ab (c':=(bs.take (i+1)).map V.bool++List.replicate (bs.length-(i+1)) (.bool false)) F.wf oo rfl rfl ?_ ?_
   ·show aY _ i [.bool (bs.getD i false)]=_;rw[iU _ _ _ (by simp;omega),CO bs i _ ei]
   rintro h2 o2 F2 n2;simp(disch:=omega) only[evs,seval,ai,g12];refine(aj _ _ _).2 ⟨bs.length-(i+1),by omega,i+1,(by simp),(by simp[g11]),(by simp[g3]),(by simp[g0]),by omega,F.fresh F2 w (Nat.le_refl _),o2,rfl⟩
   done
  ·simp only[evs,seval,g12,g11,g3,hlt];have:i=bs.length:=by omega
   subst this;simp only[List.take_length,Nat.sub_self,List.replicate_zero,List.append_nil]at oo;exact⟨Sl.lit oo (by simp),⟨_,rfl,Nat.le_refl _⟩,F⟩
theorem wY(B:List Bool)(k:Nat)(x:Bool)(h:B[k]? =some x):(B.take k++List.replicate (B.length-k) false).set k x=B.take (k+1)++List.replicate (B.length-(k+1)) false:=by
 have hi:k<B.length:=by
  rcases Nat.lt_or_ge k B.length with y|y
  ·exact y
  ·rw[List.getElem?_eq_none y]at h;cases h
 have hl:(B.take k).length=k:=by simp;omega
 rw[List.set_append,if_neg (by omega),hl,Nat.sub_self,show B.length-k=(B.length-(k+1))+1 by omega,List.replicate_succ,List.set_cons_zero,List.take_add_one,h];simp
theorem Fl.falses{h:Heap}{b N:Nat}(o:Own h b (flc N 0 (List.replicate 64 0)))(hN:N≤4096):Fl h b (List.replicate N false):=by
 refine⟨List.replicate 64 0,by simpa[List.count_replicate]using o,⟨by simp,fun k hk=>⟨0,by rw[List.getElem?_replicate,if_pos hk],by omega,fun j _=>?_⟩⟩,by simpa using hN⟩;simp only[Nat.zero_testBit,List.getD_eq_getElem?_getD,List.getElem?_replicate];split<;>rfl
theorem Bools.noint{h:Heap}{v:V}{bs:List Bool}(a:Bools h v bs):∀k n,v≠.int k n:=by
 rintro k n rfl;exact a.2
theorem qP{h:Heap}{b:Nat}{bs0:List Bool}{vl:V}{Ls:List (V×List Bool)}(w:WF h)(f:Fl h b bs0)(a:Vals Prod.fst h vl Ls)(al:∀p∈Ls,Bools h p.1 p.2)(hN:(Ls.flatMap Prod.snd).length≤4096)(hl:Ls.length≤100):
 ao go 152 [.ptr b 0,vl] h fun u h'=>u=.tup []∧Fl h' b (Ls.flatMap Prod.snd)∧Fr [b] h h':=by
 obtain⟨ws,o,ok,hn⟩:=f;obtain⟨B,hB⟩:∃B,B=Ls.flatMap Prod.snd:=⟨_,rfl⟩;rw[←hB]at hN⊢;have stay:∀{hh:Heap}{n' m':Int}{ws':List Nat},Fr [b] h hh→Own hh b (flc n' m' ws')→ws'.length=64→Vals Prod.fst hh vl Ls∧∀p∈Ls,Bools hh p.1 p.2:=by
  intro hh n' m' ws' F o' hl';refine⟨Sl.frb a F o o' (by rw[cT,cT,hl',ok.len]) fun hne=>?_,fun p hp=>Bools.frb (al p hp) F o o' (by rw[hl',ok.len])⟩;cases Ls with
  |nil=>simp at hne
  |cons p Ls=>
   refine⟨p.1,by simp,?_⟩;have:=(al p (by simp)).noint;simp only[flc,List.mem_cons,List.mem_map,not_or,not_exists,not_and];exact⟨this _ _,this _ _,fun x _ hx=>this _ _ hx.symm⟩
 have stayF:∀{hh:Heap}{bs:List Bool},Fr [b] h hh→Fl hh b bs→Vals Prod.fst hh vl Ls∧∀p∈Ls,Bools hh p.1 p.2:=fun F ⟨_,o',ok',_⟩=>stay F o' ok'.len;refine ah rfl rfl ?_;simp only[fn152,evs,seval];refine ab (c':=flc 0 0 (List.replicate 64 0)) w o rfl rfl ?_ ?_
 ·rw[bE _ _ _ (by rw[cT,ok.len];simp[V.cells])];simp only[List.take_zero,List.nil_append,V.cells];rw[List.drop_of_length_le (by rw[cT,ok.len];simp)];rfl
 rintro h1 o1 F1 n1;obtain⟨a1,al1⟩:=stay F1 o1 (by simp);simp only[evs,seval,a1.len];refine aC (fun k env hh=>∃i:Nat,env.get 16=some (.int .i64 i)∧env.get 15=some (.int .i64 Ls.length)∧env.get 14=some vl∧env.get 0=some (.ptr b 0)∧env.get 1=some vl∧i≤Ls.length∧Fr [b] h hh∧
  Own hh b (flc ((Ls.take i).flatMap Prod.snd).length 0 (List.replicate 64 0))∧k=Ls.length-i) Ls.length (by omega) ?_ ?_
 ·exact⟨0,(by simp),(by simp),(by simp),(by simp),(by simp),by omega,F1,by simpa using o1,rfl⟩
 rintro k env hh ⟨i,g16,g15,g14,g0,g1,hi,F,oo,rfl⟩;obtain⟨a2,al2⟩:=stay F oo (by simp);by_cases hlt:(i:Int)<Ls.length
 ·obtain⟨bb,po,p,e1,e2,e3⟩:=a2.ix .i64 i (by omega) hlt;simp only[Int.toNat_natCast]at e3;have lp:=al2 p (List.mem_of_getElem? e3);have tk:(Ls.take (i+1)).flatMap Prod.snd=(Ls.take i).flatMap Prod.snd++p.2:=by rw[List.take_add_one,e3];simp
  have hle:((Ls.take (i+1)).flatMap Prod.snd).length≤B.length:=by
   rw[hB];conv=>rhs;rw[←List.take_append_drop (i+1) Ls]
   rw[List.flatMap_append,List.length_append];omega
  rw[tk,List.length_append]at hle;simp(disch:=omega) only[evs,seval,ai,g16,g15,g14,g0,hlt,e1,e2,oo.ld1,flc,lp.len];refine ab (c':=flc ((Ls.take (i+1)).flatMap Prod.snd).length 0 (List.replicate 64 0)) F.wf oo rfl rfl ?_ ?_
  ·rw[tk,List.length_append,Int.natCast_add];exact Bf _ _ _ _
  rintro h2 o2 F2 n2;simp(disch:=omega) only[evs,seval,ai,g16];refine(aj _ _ _).2 ⟨Ls.length-(i+1),by omega,i+1,(by simp),(by simp[g15]),(by simp[g14]),(by simp[g0]),(by simp[g1]),by omega,F.trans F2 w (fun x hx=>.inl hx) (fun x hx=>.inl hx),o2,rfl⟩
  done
 ·have:i=Ls.length:=by omega
  subst this;rw[List.take_length,←hB]at oo;have fl0:=Fl.falses oo hN;simp only[evs,seval,g16,g15,g1,hlt,a2.len];refine aC (fun k env hh=>∃j:Nat,env.get 32=some (.int .i64 j)∧env.get 31=some (.int .i64 Ls.length)∧env.get 30=some vl∧env.get 0=some (.ptr b 0)∧
   env.get 6=some (.int .i64 ((Ls.take j).flatMap Prod.snd).length)∧j≤Ls.length∧Fr [b] h hh∧Fl hh b (B.take ((Ls.take j).flatMap Prod.snd).length++List.replicate (B.length-((Ls.take j).flatMap Prod.snd).length) false)∧k=Ls.length-j) Ls.length (by omega) ?_ ?_
  ·exact⟨0,(by simp),(by simp),(by simp),(by simp[g0]),(by simp),by omega,F,by simpa using fl0,rfl⟩
  rintro k env hh ⟨j,g32,g31,g30,g0,g6,hj,F,fj,rfl⟩;obtain⟨a3,al3⟩:=stayF F fj;by_cases hlt:(j:Int)<Ls.length
  ·obtain⟨bb,po,p,e1,e2,e3⟩:=a3.ix .i64 j (by omega) hlt;simp only[Int.toNat_natCast]at e3;have lp:=al3 p (List.mem_of_getElem? e3);obtain⟨K,hK⟩:∃K,K=((Ls.take j).flatMap Prod.snd).length:=⟨_,rfl⟩;rw[←hK]at g6 fj;have tk:((Ls.take (j+1)).flatMap Prod.snd).length=K+p.2.length:=by rw[List.take_add_one,e3,hK];simp
   have eB:B=(Ls.take j).flatMap Prod.snd++(p.2++(Ls.drop (j+1)).flatMap Prod.snd):=by
    rw[hB];conv=>lhs;rw[←List.take_append_drop j Ls,aJ e3]
    rw[List.flatMap_append,List.flatMap_cons]
   have lB:K+p.2.length≤B.length:=by rw[eB,List.length_append,List.length_append];omega
   have nB:∀q,q<p.2.length→B[K+q]? =p.2[q]? :=fun q hq=>by
    rw[eB,List.getElem?_append_right (by omega),List.getElem?_append_left (by omega)];congr 1;omega
   simp only[evs,seval,g32,g31,g30,hlt,e1,e2,lp.len];refine aC (fun k env' hh=>(∀s,s=32∨s=31∨s=30∨s=0→env'.get s=env.get s)∧∃q:Nat,env'.get 38=some (.int .i64 q)∧env'.get 37=some (.int .i64 p.2.length)∧env'.get 36=some p.1∧env'.get 6=some (.int .i64 ((K+q:Nat):Int))∧q≤p.2.length∧Fr [b] h hh∧
    Fl hh b (B.take (K+q)++List.replicate (B.length-(K+q)) false)∧k=p.2.length-q) p.2.length (by omega) ?_ ?_
   ·exact⟨fun s hs=>by rcases hs with rfl|rfl|rfl|rfl<;>simp,0,(by simp),(by simp),(by simp),(by simp[g6]),by omega,F,by simpa using fj,rfl⟩
   rintro k env1 hh ⟨same,q,g38,g37,g36,g6',hq,F,fq,rfl⟩;have n32:=(same 32 (by simp)).trans g32;have n31:=(same 31 (by simp)).trans g31;have n30:=(same 30 (by simp)).trans g30;have n0:=(same 0 (by simp)).trans g0;obtain⟨a4,al4⟩:=stayF F fq;have lp4:=al4 p (List.mem_of_getElem? e3);by_cases hlt2:(q:Int)<p.2.length
   ·obtain⟨b5,p5,x,d1,d2,d3⟩:=lp4.ix .i64 q (by omega) hlt2;simp only[Int.toNat_natCast]at d3;simp only[evs,seval,n0,g38,g37,g36,g6',hlt2,d1,d2];refine aa (xv F.wf fq (by simp;omega)) ?_;rintro _ h5 ⟨rfl,f5,F5,n5⟩;rw[wY B (K+q) x ((nB q (by omega)).trans d3)]at f5;simp(disch:=omega) only[evs,seval,ai,g38,g6'];refine(aj _ _ _).2 ⟨p.2.length-(q+1),by omega,fun s hs=>by rcases hs with rfl|rfl|rfl|rfl<;>simp[n32,n31,n30,n0,g32,g31,g30,g0],q+1,(by simp),(by simp[g37]),(by simp[g36]),(by simp;omega),by omega,F.trans F5 w (fun x hx=>.inl hx) (fun x hx=>.inl hx),f5,rfl⟩
    done
   ·have:q=p.2.length:=by omega
    subst this;simp(disch:=omega) only[evs,seval,ai,n32,g38,g37,hlt2];refine(aj _ _ _).2 ⟨Ls.length-(j+1),by omega,j+1,(by simp),(by simp[n31]),(by simp[n30]),(by simp[n0]),(by simp[g6',tk]),by omega,F,by rw[tk];exact fq,rfl⟩
    done
  ·have:j=Ls.length:=by omega
   subst this;rw[List.take_length,←hB]at fj;simp only[List.take_length,Nat.sub_self,List.replicate_zero,List.append_nil]at fj;simp only[evs,seval,g32,g31,hlt];exact⟨fj,F⟩
theorem Aq(n i:Nat)(v:Bool)(hi:i<n):((List.replicate i v).map V.bool++List.replicate (n-i) (V.bool false)).set i (V.bool v)=(List.replicate (i+1) v).map V.bool++List.replicate (n-(i+1)) (V.bool false):=by
 have hl:((List.replicate i v).map V.bool).length=i:=by simp
 rw[List.set_append,if_neg (by omega),hl,Nat.sub_self,show n-i=(n-(i+1))+1 by omega,List.replicate_succ,List.set_cons_zero,List.replicate_succ'];simp
theorem Vals.one{α:Type}{f:α→V}{h:Heap}{v:V}{l:List α}(a:Vals f h v l):v.one=true:=Sl.one a
theorem Dy{h:Heap}{b:Nat}{bs:List Bool}{a n:Nat}{v:Bool}(w:WF h)(f:Fl h b bs)(ha:a≤bs.length)(hn:n+bs.length≤4096):
 ao go 225 [.ptr b 0,.int .i64 (a:Int),.int .i64 (n:Int),.bool v] h fun u h'=>u=.int .i64 0∧Fl h' b (bs.take a++List.replicate n v++bs.drop a)∧Fr [b] h h':=by
 have f0:=f;obtain⟨ws,o,ok,hn0⟩:=f;have q:ag h b 0=some (.int .i64 (bs.length:Int)):=o.ld1 0;refine ah rfl rfl ?_;simp only[fn225,evs,seval];refine aa (lM f0 (by omega) (by omega)) ?_;rintro _ _ ⟨rfl,hh⟩;replace hh:=hh.symm;subst hh;have e:pG bs.length a 0=0:=by unfold pG;rw[if_neg (by omega)]
 rw[e];simp(disch:=omega) only[evs,seval,ai,show¬(n:Int)<0 by omega,q,show¬4096-(bs.length:Int)<n by omega];refine(gw _ _ _ _ _ _ _ _ (by omega) (by omega) (by omega) (by omega)).2 ?_;simp only[Int.toNat_natCast];rw[tV];obtain⟨h0,e0⟩:∃h0,h0=h:=⟨h,rfl⟩;subst e0;obtain⟨h1,e_h1⟩:∃h1,h1=halloc h0 (List.replicate n (V.bool false)):=⟨_,rfl⟩;have F_h1:Fr [] h0 h1:=e_h1▸Fr.halloc w _;have o_h1:Own h1 h0.next (List.replicate n (V.bool false)):=e_h1▸Own.new w _;rw[←e_h1];simp only[evs,seval];refine aC (fun k env hh=>∃i:Nat,env.get 34=some (.int .i64 i)∧env.get 33=some (.int .i64 n)∧env.get 10=some (.slice h0.next 0 n n)∧env.get 0=some (.ptr b 0)∧env.get 1=some (.int .i64 a)∧env.get 3=some (.bool v)∧i≤n∧Fr [] h0 hh∧
  Own hh h0.next ((List.replicate i v).map V.bool++List.replicate (n-i) (V.bool false))∧k=n-i) n (by omega) ?_ ?_
 ·exact⟨0,(by simp),(by simp),(by simp),(by simp),(by simp),(by simp),by omega,F_h1,by simpa using o_h1,rfl⟩
 ·rintro k env hh ⟨i,g34,g33,g10,g0,g1,g3,hi,F,oo,rfl⟩;by_cases hlt:(i:Int)<n
  ·have ix:=fC 1 h0.next 0 n n .i64 i (by omega) hlt;simp only[Int.toNat_natCast,Nat.mul_one,Nat.zero_add]at ix;simp only[evs,seval,g34,g33,g10,g3,hlt,ix];refine ab (c':=(List.replicate (i+1) v).map V.bool++List.replicate (n-(i+1)) (V.bool false)) F.wf oo rfl rfl ?_ ?_
   ·show aY _ i [.bool v]=_;rw[iU _ _ _ (by simp;omega),Aq _ _ _ (by omega)]
   rintro h2 o2 F2 n2;simp(disch:=omega) only[evs,seval,ai,g34];refine(aj _ _ _).2 ⟨n-(i+1),by omega,i+1,(by simp),(by simp[g33]),(by simp[g10]),(by simp[g0]),(by simp[g1]),(by simp[g3]),by omega,F.fresh F2 w (Nat.le_refl _),o2,rfl⟩
   done
  ·have:i=n:=by omega
   subst this;simp only[Nat.sub_self,List.replicate_zero,List.append_nil]at oo;have bm:Bools hh (.slice h0.next 0 i i) (List.replicate i v):=by
    have:=Sl.lit (esz:=1) (n:=i) oo (by simp);show Sl hh 1 _ _ _;simpa using this
   simp only[evs,seval,g34,g33,g0,hlt];refine aa (uH F.wf (f0.fr F)) ?_;rintro _ h2 ⟨bl,⟨c,rfl,hcnew⟩,F2⟩;obtain⟨v1,s1,b1⟩:=bl.upto (by simp) .i64 a (by omega) (by omega);obtain⟨v3,s3,b3⟩:=bl.from' (by simp) .i64 a (by omega) (by omega);simp only[Int.toNat_natCast]at b1 b3;have c1:=aB (Vals.one b1);have c3:=aB (Vals.one b3);obtain⟨h3,e_h3⟩:∃h3,h3=halloc h2 [v1,.slice h0.next 0 i i,v3]:=⟨_,rfl⟩;have F_h3:Fr [] h2 h3:=e_h3▸Fr.halloc F2.wf _;have o_h3:Own h3 h2.next [v1,.slice h0.next 0 i i,v3]:=e_h3▸Own.new F2.wf _;have e3:halloc h2 [v1,.slice h0.next 0 i i,v3]=h3:=e_h3.symm;simp only[evs,seval,eff,g10,g0,g1,s1,s3,c1,c3,e3];have F03:=(F.then F2).then F_h3;refine aa (qP (Ls:=[(v1,bs.take a),(.slice h0.next 0 i i,List.replicate i v),(v3,bs.drop a)]) F_h3.wf (f0.fr F03) (Sl.lit (n:=3) o_h3 rfl) ?_ ?_ (by simp)) ?_
   ·intro p hp;simp only[List.mem_cons,List.not_mem_nil,or_false]at hp;rcases hp with rfl|rfl|rfl
    ·exact b1.fr F_h3
    ·exact bm.fr (F2.then F_h3)
    ·exact b3.fr F_h3
   ·simp;omega
   rintro _ h4 ⟨rfl,f4,F4⟩;simp only[evs,seval,DF];refine⟨by simpa[List.flatMap_cons]using f4,F03.trans F4 w (by simp) (fun x hx=>.inl hx)⟩
def Glb(h:Heap):Prop:=Pl h 0 HL
theorem FE(n:Nat):bC .u64 (n:Int)=((n%18446744073709551616:Nat):Int):=by
 rw[dd];simp only[IntKind.wrap,IntKind.bits,IntKind.signed];simp
theorem GM(x y:Nat)(b:Int)(hb:b=y):aP (.ib .mul) [.int .u64 (x:Int),.int .u64 b]=some (.int .u64 ((x*y%18446744073709551616:Nat):Int)):=by
 subst hb;rw[wN,←Int.natCast_mul,FE]
theorem BZ(l:List V)(k:IntKind)(n i:Nat)(hi:i<n):aP (.ixarr n 1 false) [.agg l,.int k (i:Int)]=nth l i:=by
 have:iQ (.int k (i:Int)) n=some i:=by
  show(bif Nat.blt i n then some i else none)=_;rw[(Nat.blt_eq ..).mpr hi];rfl
 simp only[aP,this,Option.bind_some,cond_false,Nat.mul_one]
def Sel(bs:List Bool)(k p:Nat):Prop:=p<bs.length∧bs.getD p false=true∧(bs.take p).count true=k
def Mk(h:Heap)(pm:Option Nat)(bs:List Bool):Prop:=match pm with
 |none=>bs=[]
 |some c=>Fl h c bs
theorem Mk.fr{h h':Heap}{pm:Option Nat}{bs:List Bool}(a:Mk h pm bs)(f:Fr [] h h'):Mk h' pm bs:=by
 cases pm with
 |none=>exact a
 |some c=>exact Fl.fr a f
def Lo(h:Heap)(b:Nat)(l:List Int)(ks bs:List Bool):Prop:=∃p vk pm,Own h b [pv p,vk,pv pm]∧vk.one=true∧Ix h (.agg [pv p,vk]) l ks∧Mk h pm bs∧bs.length=l.length
theorem Lo.fr{h h':Heap}{b:Nat}{l:List Int}{ks bs:List Bool}(a:Lo h b l ks bs)(f:Fr [] h h'):Lo h' b l ks bs:=by
 obtain⟨p,vk,pm,o,v1,ix,mk,e⟩:=a;exact⟨p,vk,pm,f.get o,v1,ix.fr f,mk.fr f,e⟩
theorem Glb.fr{h h':Heap}(a:Glb h)(f:Fr [] h h'):Glb h':=f.pl _ _ (by simp) a
theorem D8{h:Heap}{b:Nat}{l:List Int}{ks bs:List Bool}(w:WF h)(a:Lo h b l ks bs):ao go 62 [.ptr b 0] h fun u h'=>u=.int .i64 l.length∧Fr [] h h':=by
 obtain⟨p,vk,pm,o,v1,ix,mk,e⟩:=a;refine ah rfl rfl ?_;simp only[fn62,evs,seval,o.ld];refine aa (gY w ix) ?_;rintro _ h2 ⟨rfl,F2⟩;simp only[evs,seval];exact F2
theorem Ix.rp{h:Heap}{p:Option Nat}{vk:V}{l:List Int}{ks:List Bool}(a:Ix h (.agg [pv p,vk]) l ks):Rp h (.agg [pv p]) l:=by
 obtain⟨p',vk',L,e,r,_⟩:=a;simp only[V.agg.injEq,List.cons.injEq,and_true]at e;rw[e.1];exact r
theorem zW{h:Heap}{b:Nat}{l:List Int}{ks bs:List Bool}(w:WF h)(a:Lo h b l ks bs):ao go 14 [.ptr b 0] h fun u h'=>u=.int .i64 l.sum∧Fr [] h h':=by
 obtain⟨p,vk,pm,o,v1,ix,mk,e⟩:=a;have r:=ix.rp;refine ah rfl rfl ?_;simp only[fn14,evs,seval,o.ld];refine aa (kX w r) ?_;rintro _ h2 ⟨rfl,F2⟩;simp only[evs,seval];exact F2
theorem CA{h:Heap}{b:Nat}{l:List Int}{ks bs:List Bool}{i:Int}(w:WF h)(a:Lo h b l ks bs):
 ao go 76 [.ptr b 0,.int .i64 i] h fun u h'=>(u=if 0≤i∧i<l.length then .tup [.int .i64 (l.getD i.toNat 0),.int .i64 0]else .tup [.int .i64 0,.int .i64 4])∧Fr [] h h':=by
 obtain⟨p,vk,pm,o,v1,ix,mk,e⟩:=a;refine ah rfl rfl ?_;simp only[fn76,evs,seval,o.ld];refine aa (Cb w ix) ?_;rintro _ h2 ⟨rfl,F2⟩;by_cases c:0≤i∧i<l.length
 ·simp only[if_pos c];simp only[evs,seval];exact F2
 ·simp only[if_neg c];simp only[evs,seval];exact F2
theorem zX{h:Heap}{b:Nat}{l:List Int}{ks bs:List Bool}{i:Int}(w:WF h)(a:Lo h b l ks bs):
 ao go 77 [.ptr b 0,.int .i64 i] h fun u h'=>(u=if 0≤i∧i<l.length then .tup [.bool (ks.getD i.toNat false),.int .i64 0]else .tup [.bool false,.int .i64 4])∧Fr [] h h':=by
 obtain⟨p,vk,pm,o,v1,ix,mk,e⟩:=a;refine ah rfl rfl ?_;simp only[fn77,evs,seval,o.ld];refine aa (zM w ix) ?_;rintro _ h2 ⟨rfl,F2⟩;by_cases c:0≤i∧i<l.length
 ·simp only[if_pos c];simp only[evs,seval];exact F2
 ·simp only[if_neg c];simp only[evs,seval];exact F2
def okF(view over:Int):Prop:=1≤view∧view≤2147483648∧0≤over∧over≤16
instance(view over:Int):Decidable (okF view over):=by unfold okF;infer_instance
def HeadS(l:List Int)(bs:List Bool)(s r e:Int):Prop:=
 if l=[]∧s=0 then r=0∧e=11 else if 0≤s∧s<l.sum then if(bs.take ((sd l s).1+1)).count true=0 then r=0∧e=11 else e=0∧∃p:Nat,r=p∧Sel bs ((bs.take ((sd l s).1+1)).count true-1) p else r=0∧e=4
theorem HeadS.zero{l:List Int}{bs:List Bool}{s r e:Int}(a:HeadS l bs s r e)(h:e=0):0≤s∧s<l.sum∧∃p:Nat,r=p∧p<bs.length:=by
 unfold HeadS at a;split at a
 ·omega
 ·split at a
  ·rename_i c;split at a
   ·omega
   ·obtain⟨_,p,e1,e2⟩:=a;exact⟨c.1,c.2,p,e1,e2.1⟩
  ·omega
structure FrF(b:Nat)(h h':Heap):Prop where
 next:h.next≤h'.next
 wf:WF h'
 own:∀x c,x≠b→(∀n m ws,ws.length=64→c≠flc n m ws)→Own h x c→Own h' x c
 pl:∀x c,x≠b→(∀n m ws,ws.length=64→c≠flc n m ws)→Pl h x c→Pl h' x c
 ro:∀x c,Rs h x c→Rs h' x c
theorem FrF.trans{b:Nat}{h h1 h2:Heap}(a:FrF b h h1)(c:FrF b h1 h2):FrF b h h2:=
 ⟨Nat.le_trans a.next c.next,c.wf,fun x d hx hd o=>c.own x d hx hd (a.own x d hx hd o),fun x d hx hd o=>c.pl x d hx hd (a.pl x d hx hd o),fun x d r=>c.ro x d (a.ro x d r)⟩
theorem D7{h:Heap}(w:WF h):ao go 43 [] h fun u h'=>∃b,u=.ptr b 0∧h.next≤b∧Lo h' b [] [] []∧Own h' b [.nilp,.nils,.nilp]∧Fr [] h h':=by
 refine ah rfl rfl ?_;simp only[fn43,evs,seval];refine⟨_,rfl,Nat.le_refl _,⟨none,.nils,none,Own.new w _,rfl,⟨none,.nils,[],rfl,⟨.nil,none,rfl,rfl,rfl,by simp,by simp,by simp⟩,.inl ⟨rfl,rfl⟩,⟨trivial,by simp,fun i=>by simp[inS]⟩,rfl,by simp⟩,rfl,rfl⟩,Own.new w _,Fr.halloc w _⟩
theorem Ix.frb{h h':Heap}{v:V}{l:List Int}{ks:List Bool}{b:Nat}{c:List V}(a:Ix h v l ks)(f:Fr [b] h h')(o:Own h b c)(h6:c.length≠6)(hc:∀L:List (Int×Int),0<L.length→c≠L.flatMap sp):Ix h' v l ks:=by
 obtain⟨p,vk,L,e,r,s,x⟩:=a;exact⟨p,vk,L,e,r.frb f o h6,s.frb f o hc,x⟩
theorem Ix.frf{h h':Heap}{v:V}{l:List Int}{ks:List Bool}{b:Nat}{bs:List Bool}(a:Ix h v l ks)(f:Fr [b] h h')(fl:Fl h b bs):Ix h' v l ks:=by
 obtain⟨ws,o,ok,_⟩:=fl;refine a.frb f o (by rw[cT,ok.len];omega) fun L p e=>?_;have hm:∀x∈flc (bs.length:Int) (bs.count true:Int) ws,∃n,x=.int .i64 n:=by
  rw[e];intro x hx;simp only[List.mem_flatMap,sp]at hx;obtain⟨s,_,hx⟩:=hx;simp at hx;rcases hx with rfl|rfl<;>exact⟨_,rfl⟩
 cases ws with
 |nil=>have:=ok.len;simp at this
 |cons y ws=>
  obtain⟨n,hn⟩:=hm (uw y) (by simp[flc]);simp[uw]at hn
theorem ud{p:Option Nat}{vk:V}{pm:Option Nat}(hvk:∀k n,vk≠.int k n):∀x∈[pv p,vk,pv pm],∀k n,x≠.int k n:=by
 intro x hx k n;simp only[List.mem_cons,List.not_mem_nil,or_false]at hx;rcases hx with rfl|rfl|rfl
 ·cases p<;>simp[pv]
 ·exact hvk k n
 ·cases pm<;>simp[pv]
theorem Ix.noint{h:Heap}{p:Option Nat}{vk:V}{l:List Int}{ks:List Bool}(a:Ix h (.agg [pv p,vk]) l ks):∀k n,vk≠.int k n:=by
 obtain⟨p',vk',L,e,r,s,_⟩:=a;simp only[V.agg.injEq,List.cons.injEq,and_true]at e;obtain⟨_,rfl⟩:=e;exact s.noint
theorem Ix.form{h:Heap}{c d:V}{l:List Int}{ks:List Bool}(a:Ix h (.agg [c,d]) l ks):∃p,c=pv p:=by
 obtain⟨p',vk',L,e,_⟩:=a;simp only[V.agg.injEq,List.cons.injEq,and_true]at e;exact⟨p',e.1⟩
theorem Mk.frb{h h':Heap}{pm:Option Nat}{bs:List Bool}{b:Nat}{c:List V}(a:Mk h pm bs)(f:Fr [b] h h')(o:Own h b c)(h3:c.length=3):Mk h' pm bs:=by
 cases pm with
 |none=>exact a
 |some q=>
  obtain⟨ws,oq,ok,hn⟩:=a;refine⟨ws,f.own _ _ ?_ oq,ok,hn⟩;simp only[List.mem_singleton];rintro rfl;have:=oq.uniq o;subst this;rw[cT,ok.len]at h3;omega
theorem Bools.frl{h h':Heap}{v:V}{bs:List Bool}{b:Nat}{c c':List V}(a:Bools h v bs)(f:Fr [b] h h')(o:Own h b c)(o':Own h' b c')(hc:∀x,V.bool x∉c)(hl:c'.length=c.length):Bools h' v bs:=by
 refine Sl.frb a f o o' hl fun hne=>?_;cases bs with
 |nil=>simp at hne
 |cons x bs=>exact⟨.bool x,by simp,hc x⟩
theorem nobool{p:Option Nat}{vk:V}{pm:Option Nat}(h:∀x,vk≠V.bool x):∀x,V.bool x∉[pv p,vk,pv pm]:=by
 intro x hx;simp only[List.mem_cons,List.not_mem_nil,or_false]at hx;rcases hx with e|e|e
 ·cases p<;>simp[pv]at e
 ·exact h x e.symm
 ·cases pm<;>simp[pv]at e
theorem SpF.nobool{h:Heap}{v:V}{L:List (Int×Int)}(a:SpF h v L):∀x,v≠V.bool x:=by
 rcases a with⟨rfl,_⟩|⟨b,rfl,_⟩<;>simp
theorem Ix.nobool{h:Heap}{p:Option Nat}{vk:V}{l:List Int}{ks:List Bool}(a:Ix h (.agg [pv p,vk]) l ks):∀x,vk≠V.bool x:=by
 obtain⟨p',vk',L,e,r,s,_⟩:=a;simp only[V.agg.injEq,List.cons.injEq,and_true]at e;obtain⟨_,rfl⟩:=e;exact s.nobool
theorem Dm{bs st:List Bool}{i j:Nat}(hi:i≤bs.length)(x:Bool)(hx:st[j]? =some x):
 (bs.take i++(st.take j++List.replicate (st.length-j) false)++bs.drop i).set (i+j) x=bs.take i++(st.take (j+1)++List.replicate (st.length-(j+1)) false)++bs.drop i:=by
 have hj:j<st.length:=by
  rcases Nat.lt_or_ge j st.length with y|y
  ·exact y
  ·rw[List.getElem?_eq_none y]at hx;cases hx
 have hl:(bs.take i).length=i:=by simp;omega
 rw[List.append_assoc,List.set_append,if_neg (by omega),hl,Nat.add_sub_cancel_left,List.set_append,if_pos (by simp;omega),wY st j x hx,List.append_assoc,List.append_assoc,List.append_assoc]
theorem yX{bs st:List Bool}{i j:Nat}(hx:st[j]? =some false):bs.take i++(st.take j++List.replicate (st.length-j) false)++bs.drop i=bs.take i++(st.take (j+1)++List.replicate (st.length-(j+1)) false)++bs.drop i:=by
 have hj:j<st.length:=by
  rcases Nat.lt_or_ge j st.length with y|y
  ·exact y
  ·rw[List.getElem?_eq_none y]at hx;cases hx
 rw[List.take_add_one,hx,show st.length-j=(st.length-(j+1))+1 by omega,List.replicate_succ];simp
end Go.Ev.Lay
namespace Go.Ev.St
abbrev aT:=Nat×Nat×Nat
def pth(a n j:Nat):Nat:=(a+j)%n
theorem rW{a n j:Nat}(h:0<n):pth a n j<n:=Nat.mod_lt _ h
theorem AC(a n j:Nat):(pth a n j+1)%n=pth a n (j+1):=by
 unfold pth;rw[Nat.mod_add_mod,Nat.add_assoc]
theorem AB(a n:Nat):pth a n 0=a%n:=by simp[pth]
theorem AD{a n i:Nat}(h:i<n):∃j,j<n∧pth a n j=i:=by
 refine⟨(i+(n-a%n))%n,Nat.mod_lt _ (by omega),?_⟩;unfold pth;have h1:a%n<n:=Nat.mod_lt _ (by omega);rw[Nat.add_mod_mod,←Nat.mod_add_mod,show a%n+(i+(n-a%n))=i+n by omega,Nat.add_mod_right,Nat.mod_eq_of_lt h]
structure Opn(mx:Nat→Nat)(sl:List aT):Prop where
 st:∀s∈sl,s.1=0∨s.1=1∨s.1=2
 uniq:∀i j k v w:Nat,sl[i]? =some (1,k,v)→sl[j]? =some (1,k,w)→i=j
 path:∀i k v:Nat,sl[i]? =some (1,k,v)→∃j,j<sl.length∧pth (mx k) sl.length j=i∧∀j',j'<j→∀s,sl[pth (mx k) sl.length j']? =some s→s.1≠0
 room:∃(i:Nat)(s:aT),sl[i]? =some s∧s.1=0
structure Looked(mx:Nat→Nat)(sl:List aT)(k at':Nat)(found:Bool):Prop where
 lt:at'<sl.length
 yes:found=true→∃v,sl[at']? =some (1,k,v)
 no:found=false→(∀i v:Nat,sl[i]? ≠some (1,k,v))∧(∃s:aT,sl[at']? =some s∧s.1≠1)∧∃j,j<sl.length∧pth (mx k) sl.length j=at'∧∀j',j'<j→∀s,sl[pth (mx k) sl.length j']? =some s→s.1≠0
structure Seek(mx:Nat→Nat)(sl:List aT)(k j:Nat)(g:Option Nat):Prop where
 jl:j<sl.length
 seen:∀j',j'<j→∀s,sl[pth (mx k) sl.length j']? =some s→s.1≠0∧¬(s.1=1∧s.2.1=k)
 grave:∀x,g=some x→x<sl.length∧∃j0,j0<j∧pth (mx k) sl.length j0=x∧∃s,sl[x]? =some s∧s.1=2
variable {mx : Nat → Nat} {sl : List aT} {k j : Nat} {g : Option Nat}
theorem Opn.pos(o:Opn mx sl):0<sl.length:=by
 obtain⟨i,s,h,_⟩:=o.room;have:=(List.getElem?_eq_some_iff.1 h).1;omega
theorem Seek.start(o:Opn mx sl)(k:Nat):Seek mx sl k 0 none:=⟨o.pos,fun _ h=>by omega,fun _ h=>by cases h⟩
theorem Seek.found(q:Seek mx sl k j g){v:Nat}(h:sl[pth (mx k) sl.length j]? =some (1,k,v)):Looked mx sl k (pth (mx k) sl.length j) true:=
 ⟨rW (by have:=q.jl;omega),fun _=>⟨v,h⟩,fun e=>by cases e⟩
theorem Seek.absent(o:Opn mx sl)(q:Seek mx sl k j g){s:aT}(h:sl[pth (mx k) sl.length j]? =some s)(h0:s.1=0)(i v:Nat):sl[i]? ≠some (1,k,v):=by
 intro hi;obtain⟨j1,l1,e1,p1⟩:=o.path i k v hi;rcases Nat.lt_trichotomy j1 j with c|c|c
 ·have:=(q.seen j1 c (1,k,v) (by rw[e1];exact hi)).2;exact this ⟨rfl,rfl⟩
 ·subst c;rw[e1,hi]at h;cases h;cases h0
 ·exact p1 j c s h h0
theorem Seek.free(o:Opn mx sl)(q:Seek mx sl k j g){s:aT}(h:sl[pth (mx k) sl.length j]? =some s)(h0:s.1=0):Looked mx sl k (g.getD (pth (mx k) sl.length j)) false:=by
 cases g with
 |none=>exact⟨rW o.pos,fun e=>(by cases e),fun _=>⟨q.absent o h h0,⟨s,h,by omega⟩,j,q.jl,rfl,fun j' hj s hs=>(q.seen j' hj s hs).1⟩⟩
 |some x=>
  obtain⟨l1,j0,l2,e,s',h1,h2⟩:=q.grave x rfl;have:=q.jl;exact⟨l1,fun e=>(by cases e),fun _=>⟨q.absent o h h0,⟨s',h1,by omega⟩,j0,by omega,e,fun j' hj s hs=>(q.seen j' (by omega) s hs).1⟩⟩
theorem Seek.next(o:Opn mx sl)(q:Seek mx sl k j g){s:aT}(h:sl[pth (mx k) sl.length j]? =some s)(h0:s.1≠0)(h1:¬(s.1=1∧s.2.1=k)):
 Seek mx sl k (j+1) (if s.1=2∧g=none then some (pth (mx k) sl.length j)else g):=by
 have jl:=q.jl;have seen:∀j',j'<j+1→∀s,sl[pth (mx k) sl.length j']? =some s→s.1≠0∧¬(s.1=1∧s.2.1=k):=by
  intro j' hj s' hs;by_cases c:j'=j
  ·subst c;rw[h]at hs;cases hs;exact⟨h0,h1⟩
  ·exact q.seen j' (by omega) s' hs
 refine⟨?_,seen,?_⟩
 ·rcases Nat.lt_or_ge (j+1) sl.length with c|c
  ·exact c
  ·exfalso;obtain⟨i,s',hi,h'⟩:=o.room;obtain⟨j',l',e⟩:=AD (a:=mx k) (List.getElem?_eq_some_iff.1 hi).1;exact(seen j' (by omega) s' (by rw[e];exact hi)).1 h'
 ·intro x hx;by_cases c:s.1=2∧g=none
  ·rw[if_pos c]at hx;cases hx;exact⟨rW o.pos,j,by omega,rfl,s,h,c.1⟩
  ·rw[if_neg c]at hx;obtain⟨l1,j0,l2,e⟩:=q.grave x hx;exact⟨l1,j0,by omega,e⟩
theorem di(sl:List aT)(a i:Nat)(x s:aT)(h:(sl.set a x)[i]? =some s):(i=a∧s=x∧a<sl.length)∨(i≠a∧sl[i]? =some s):=by
 by_cases c:i=a
 ·subst c;have hl:=(List.getElem?_eq_some_iff.1 h).1;rw[List.length_set]at hl;rw[List.getElem?_set_self hl]at h;cases h;exact .inl ⟨rfl,rfl,hl⟩
 ·rw[List.getElem?_set_ne (Ne.symm c)]at h;exact .inr ⟨c,h⟩
theorem gI{sl:List aT}{a:Nat}(x:aT)(h:a<sl.length):(sl.set a x)[a]? =some x:=List.getElem?_set_self h
theorem Opn.put(o:Opn mx sl){a:Nat}(q:Looked mx sl k a false)(v:Nat)(hr:∃(i:Nat)(s:aT),i≠a∧sl[i]? =some s∧s.1=0):Opn mx (sl.set a (1,k,v)):=by
 obtain⟨no,⟨s0,hs0,h0⟩,j,jl,je,jp⟩:=q.no rfl;refine⟨?_,?_,?_,?_⟩
 ·intro s hs;rcases List.mem_or_eq_of_mem_set hs with h|rfl
  ·exact o.st s h
  ·exact .inr (.inl rfl)
 ·intro i i' k' v' w' hi hi';rcases di _ _ _ _ _ hi with⟨e1,e,_⟩|⟨c,h1⟩<;>rcases di _ _ _ _ _ hi' with⟨e2,e',_⟩|⟨c',h2⟩
  ·rw[e1,e2]
  ·cases e;exact absurd h2 (no _ _)
  ·cases e';exact absurd h1 (no _ _)
  ·exact o.uniq _ _ _ _ _ h1 h2
 ·intro i k' v' hi;rw[List.length_set];rcases di _ _ _ _ _ hi with⟨rfl,e,_⟩|⟨c,hi⟩
  ·cases e;refine⟨j,jl,je,fun j' hj s hs=>?_⟩;rcases di _ _ _ _ _ hs with⟨_,rfl,_⟩|⟨_,hs⟩
   ·simp
   ·exact jp j' hj s hs
  ·obtain⟨j1,l1,e1,p1⟩:=o.path i k' v' hi;refine⟨j1,l1,e1,fun j' hj s hs=>?_⟩;rcases di _ _ _ _ _ hs with⟨_,rfl,_⟩|⟨_,hs⟩
   ·simp
   ·exact p1 j' hj s hs
 ·obtain⟨i,s,c,hi,hs⟩:=hr;exact⟨i,s,by rw[List.getElem?_set_ne (Ne.symm c)];exact hi,hs⟩
theorem Opn.change(o:Opn mx sl){a w:Nat}(h:sl[a]? =some (1,k,w))(v:Nat):Opn mx (sl.set a (1,k,v)):=by
 have key:∀i k' v':Nat,(sl.set a (1,k,v))[i]? =some (1,k',v')→∃w',sl[i]? =some (1,k',w'):=by
  intro i k' v' hi;rcases di _ _ _ _ _ hi with⟨rfl,e,_⟩|⟨c,hi⟩
  ·cases e;exact⟨w,h⟩
  ·exact⟨v',hi⟩
 have nz:∀(i:Nat)(s:aT),(sl.set a (1,k,v))[i]? =some s→(∀s',sl[i]? =some s'→s'.1≠0)→s.1≠0:=by
  intro i s hs hz;rcases di _ _ _ _ _ hs with⟨_,rfl,_⟩|⟨_,hs⟩
  ·simp
  ·exact hz s hs
 refine⟨?_,?_,?_,?_⟩
 ·intro s hs;rcases List.mem_or_eq_of_mem_set hs with h|rfl
  ·exact o.st s h
  ·exact .inr (.inl rfl)
 ·intro i i' k' v' w' hi hi';obtain⟨_,h1⟩:=key _ _ _ hi;obtain⟨_,h2⟩:=key _ _ _ hi';exact o.uniq _ _ _ _ _ h1 h2
 ·intro i k' v' hi;rw[List.length_set];obtain⟨_,h1⟩:=key _ _ _ hi;obtain⟨j1,l1,e1,p1⟩:=o.path _ _ _ h1;exact⟨j1,l1,e1,fun j' hj s hs=>nz _ _ hs (p1 j' hj)⟩
 ·obtain⟨i,s,hi,hs⟩:=o.room;refine⟨i,s,?_,hs⟩;rw[List.getElem?_set_ne]
  ·exact hi
  ·rintro rfl;rw[h]at hi;cases hi;cases hs
theorem Opn.drop(o:Opn mx sl){a w:Nat}(h:sl[a]? =some (1,k,w))(x y:Nat):Opn mx (sl.set a (2,x,y)):=by
 have key:∀i k' v':Nat,(sl.set a (2,x,y))[i]? =some (1,k',v')→sl[i]? =some (1,k',v'):=by
  intro i k' v' hi;rcases di _ _ _ _ _ hi with⟨rfl,e,_⟩|⟨c,hi⟩
  ·cases e
  ·exact hi
 refine⟨?_,?_,?_,?_⟩
 ·intro s hs;rcases List.mem_or_eq_of_mem_set hs with h|rfl
  ·exact o.st s h
  ·exact .inr (.inr rfl)
 ·intro i i' k' v' w' hi hi';exact o.uniq _ _ _ _ _ (key _ _ _ hi) (key _ _ _ hi')
 ·intro i k' v' hi;rw[List.length_set];obtain⟨j1,l1,e1,p1⟩:=o.path _ _ _ (key _ _ _ hi);refine⟨j1,l1,e1,fun j' hj s hs=>?_⟩;rcases di _ _ _ _ _ hs with⟨_,rfl,_⟩|⟨_,hs⟩
  ·simp
  ·exact p1 j' hj s hs
 ·obtain⟨i,s,hi,hs⟩:=o.room;refine⟨i,s,?_,hs⟩;rw[List.getElem?_set_ne]
  ·exact hi
  ·rintro rfl;rw[h]at hi;cases hi;cases hs
theorem Opn.zero(mx:Nat→Nat)(n:Nat)(h:0<n):Opn mx (List.replicate n (0,0,0)):=by
 have e:∀(i:Nat)(s:aT),(List.replicate n ((0,0,0):aT))[i]? =some s→s=(0,0,0):=fun i s hs=>List.eq_of_mem_replicate (List.mem_of_getElem? hs);refine⟨fun s hs=>.inl (by rw[List.eq_of_mem_replicate hs]),fun i j k v w hi=>?_,fun i k v hi=>?_,⟨0,(0,0,0),by rw[List.getElem?_replicate,if_pos h],rfl⟩⟩
 ·have:=e _ _ hi;cases this
 ·have:=e _ _ hi;cases this
def cnS(c:Nat)(sl:List aT):Nat:=sl.countP fun s=>s.1==c
theorem gU{a c:Nat}{s x:aT}(h:sl[a]? =some s):cnS c (sl.set a x)+(if s.1=c then 1 else 0)=cnS c sl+(if x.1=c then 1 else 0):=by
 unfold cnS;induction sl generalizing a with
 |nil=>simp at h
 |cons y l ih=>
  cases a with
  |zero=>
   simp at h;subst h;simp only[List.set_cons_zero,List.countP_cons,beq_iff_eq];split<;>split<;>omega
  |succ a=>
   simp only[List.set_cons_succ,List.countP_cons,beq_iff_eq];have:=ih (a:=a) (by simpa using h);omega
theorem uZ{n:Nat}(h:0<cnS 0 sl):∃(i:Nat)(s:aT),sl[i]? =some s∧s.1=0:=by
 unfold cnS at h;rw[List.countP_pos_iff]at h;obtain⟨s,hs,e⟩:=h;obtain⟨i,hi,e2⟩:=List.mem_iff_getElem.1 hs;exact⟨i,s,by rw[List.getElem?_eq_some_iff];exact⟨hi,e2⟩,by simpa using e⟩
theorem xF(h:∀s∈sl,s.1=0∨s.1=1∨s.1=2):cnS 0 sl+cnS 1 sl+cnS 2 sl=sl.length:=by
 unfold cnS;induction sl with
 |nil=>rfl
 |cons y l ih=>
  have:=ih fun s hs=>h s (List.mem_cons_of_mem _ hs);simp only[List.countP_cons,beq_iff_eq,List.length_cons];rcases h y (List.mem_cons_self ..)with e|e|e<;>simp only[e]<;>simp<;>omega
end Go.Ev.St
namespace Go.Ev.Lay
open Go.Ev.St
set_option maxRecDepth 4000
theorem E5(x n m:Nat)(b:Int)(hb:b=n)(hn:n≤64)(hm:m=2^n):aP (.sh false) [.int .u64 (x:Int),.int .u64 b]=some (.int .u64 ((x/m:Nat):Int)):=by
 subst hb;rw[wM _ _ _ _ (by omega)];simp only[Int.toNat_natCast,IntKind.bits,Nat.min_eq_left hn];rw[←hm];congr 2;exact Int.fdiv_eq_ediv_of_nonneg _ (Int.natCast_nonneg _)
def GO(x:Nat):Nat:=x^^^(x/2147483648)
def Da(x:Nat):Nat:=(x^^^(x/134217728)) *10723151780598845931%18446744073709551616
def Db(x:Nat):Nat:=(x^^^(x/1073741824)) *13787848793156543929%18446744073709551616
def mix(x:Nat):Nat:=GO (Da (Db x))
theorem Fu{h:Heap}{x:Nat}(hx:x<18446744073709551616):ao go 179 [.int .u64 (x:Int)] h fun u h'=>u=.int .u64 (mix x:Nat)∧h'=h:=by
 have s1:=E5 x 30 1073741824 30 rfl (by omega) (by decide);have x1:=mU x (x/1073741824) _ _ rfl rfl hx (by omega);have m1:=GM (x^^^x/1073741824) 13787848793156543929 13787848793156543929 rfl;have h1:Db x<18446744073709551616:=Nat.mod_lt _ (by omega);change _=some (V.int .u64 ((Db x:Nat):Int))at m1;unfold mix;generalize Db x=y at h1 m1;have s2:=E5 y 27 134217728 27 rfl (by omega) (by decide);have x2:=mU y (y/134217728) _ _ rfl rfl h1 (by omega);have m2:=GM (y^^^y/134217728) 10723151780598845931 10723151780598845931 rfl;have h2:Da y<18446744073709551616:=Nat.mod_lt _ (by omega);change _=some (V.int .u64 ((Da y:Nat):Int))at m2;generalize Da y=z at h2 m2;have s3:=E5 z 31 2147483648 31 rfl (by omega) (by decide);have x3:=mU z (z/2147483648) _ _ rfl rfl h2 (by omega);change _=some (V.int .u64 ((GO z:Nat):Int))at x3;refine ah rfl rfl ?_;simp only[fn179,evs,seval,s1,x1,m1,s2,x2,m2,s3,x3]
def sc(s:aT):List V:=[.int .u8 (s.1:Int),.int .u64 (s.2.1:Int),.int .i64 (s.2.2:Int)]
theorem ny(s:aT):(sc s).length=3:=rfl
def Tb(h:Heap)(v:V)(S:Nat)(sl:List aT):Prop:=(v=.slice S 0 sl.length sl.length∨v=.sliceU S 0 sl.length 3)∧Own h S (sl.flatMap sc)
theorem mg(sl:List aT):(sl.flatMap sc).length=sl.length*3:=aG ny sl
theorem Tb.recs{h:Heap}{v:V}{S:Nat}{sl:List aT}(t:Tb h v S sl):Recs sc 3 h v sl:=by
 obtain⟨rfl|rfl,o⟩:=t
 ·exact⟨mg sl,rfl,Nat.le_refl _,_,o,by rw[mg];omega,by rw[List.drop_zero,List.take_of_length_le (by rw[mg];omega)]⟩
 ·exact⟨mg sl,rfl,rfl,_,o,by rw[mg];omega,by rw[List.drop_zero,List.take_of_length_le (by rw[mg];omega)]⟩
theorem Tb.ix{h:Heap}{v:V}{S:Nat}{sl:List aT}(t:Tb h v S sl)(i:Nat)(hi:i<sl.length):aP (.ixs 3) [v,.int .i64 (i:Int)]=some (.ptr S (i*3)):=by
 obtain⟨rfl|rfl,o⟩:=t
 ·have:=fC 3 S 0 sl.length sl.length .i64 (i:Int) (by omega) (by omega);simpa using this
 ·have:=kg 3 S 0 sl.length 3 .i64 (i:Int) (by omega) (by omega);simpa using this
theorem Tb.fr{h h':Heap}{v:V}{S:Nat}{sl:List aT}(t:Tb h v S sl)(f:Fr [] h h'):Tb h' v S sl:=⟨t.1,f.get t.2⟩
def gi:Option Nat→Int
 |none=>-1
 |some x=>x
theorem Au(p n:Nat)(h:n≠0):aP (.ib .rem) [.int .i64 ((p:Int)+1),.int .i64 (n:Int)]=some (.int .i64 (((p+1)%n:Nat):Int)):=by
 rw[ke _ _ _ (by omega)];congr 2
theorem nV{mx:Nat→Nat}{h:Heap}{env:T V}{b S j key:Nat}{v M U:V}{sl:List aT}{g:Option Nat}{Q:Ex→T V→Heap→Prop}(w:WF h)(ob:Own h b [v,M,U])(tb:Tb h v S sl)(op:Opn mx sl)(q:Seek mx sl key j g)(hn:sl.length<1000000)
 (g0:env.get 0=some (.ptr b 0)) (g1:env.get 1=some (.int .u64 (key:Int))) (g4:env.get 4=some (.int .i64 (pth (mx key) sl.length j:Nat))) (g5:env.get 5=some (.bool false)) (g6:env.get 6=some (.int .i64 (gi g)))
 (Ky:∀env' h' at' found,env'.get 4=some (.int .i64 ((at':Nat):Int))→env'.get 5=some (.bool found)→Looked mx sl key at' found→Fr [] h h'→Q .ret env' h')
 (Kg:∀env' h' g',Seek mx sl key (j+1) g'→env'.get 0=some (.ptr b 0)→env'.get 1=some (.int .u64 (key:Int))→env'.get 4=some (.int .i64 (pth (mx key) sl.length (j+1):Nat))→env'.get 5=some (.bool false)→env'.get 6=some (.int .i64 (gi g'))→Fr [] h h'→Q (.goto 0) env' h'):
 W go r9 env h Q:=by
 have jl:=q.jl;have hp:pth (mx key) sl.length j<sl.length:=rW (by omega);have hx:=tb.ix _ hp;obtain⟨b1,o1,x,e1,_,e3,e4⟩:=Recs.ix ny tb.recs .i64 (pth (mx key) sl.length j:Nat) (by omega) (by omega);rw[hx]at e1;obtain⟨rfl,rfl⟩:S=b1∧pth (mx key) sl.length j*3=o1:=by simpa using e1
 simp only[Int.toNat_natCast]at e4;have l0:ag h b 0=some v:=ob.ld1 0;obtain⟨s,ky,vl⟩:=x;have hs:=op.st _ (List.mem_of_getElem? e4);simp only[evs,seval,r9,g0,g4,l0,hx,e3];refine ab (c':=sc (s,ky,vl)) (w.halloc _) (Own.new w _) rfl rfl rfl ?_;rintro h1 o1 F1 n1;have F:Fr [] h h1:=(Fr.halloc w _).trans F1 w (fun _ hx=>by simp at hx) (fun x hx=>.inr (by simp at hx;omega));have q0:ag h1 h.next 0=some (.int .u8 (s:Int)):=o1.ld1 0;have q1:ag h1 h.next 1=some (.int .u64 (ky:Int)):=o1.ld1 1;have l1:ag h1 b 0=some v:=(F.get ob).ld1 0;have len:=(tb.fr F).recs.len;have rm:=Au (pth (mx key) sl.length j) sl.length (by omega);rw[AC]at rm;have go':(hz:s≠0)→(hk:¬(s=1∧ky=key))→∀env':T V,env'.get 0=some (.ptr b 0)→env'.get 1=some (.int .u64 (key:Int))→env'.get 4=some (.int .i64 (pth (mx key) sl.length (j+1):Nat))→env'.get 5=some (.bool false)→
  env'.get 6=some (.int .i64 (gi (if s=2∧g=none then some (pth (mx key) sl.length j)else g)))→Q (.goto 0) env' h1:=fun hz hk env' a b c d e=>
  Kg env' h1 _ (q.next op e4 hz hk) a b c d e F
 rcases hs with hs|hs|hs
 ·have hs:s=0:=hs;subst hs;replace q0:ag h1 h.next 0=some (.int .u8 0):=q0;have fr:=q.free op e4 rfl;cases g with
  |none=>
   simp only[evs,seval,q0,g4,g6,show¬(0:Int)=1 by omega,gi,show¬(0:Int)≤-1 by omega];refine Ky _ _ _ _ ?_ ?_ fr F<;>simp
  |some x=>
   simp only[evs,seval,q0,g6,show¬(0:Int)=1 by omega,gi,eq_true (show(0:Int)≤(x:Int) by omega)];refine Ky _ _ _ _ ?_ ?_ fr F<;>simp
 ·have hs:s=1:=hs;subst hs;replace q0:ag h1 h.next 0=some (.int .u8 1):=q0;by_cases hk:ky=key
  ·subst hk;have fo:=q.found e4;simp only[evs,seval,q0,q1,g1,g4];refine Ky _ _ _ _ ?_ ?_ fo F<;>simp
  ·have hk':¬(ky:Int)=(key:Int):=by omega
   have G:=go' (by omega) (fun x=>hk x.2);rw[if_neg (by simp)]at G;simp(disch:=omega) only[evs,seval,ai,q0,q1,g0,g1,g4,eq_false hk',show¬(1:Int)=0 by omega,show¬(1:Int)=2 by omega,l1,len,rm];refine G _ ?_ ?_ ?_ ?_ ?_<;>simp[g0,g1,g5,g6,gi]
 ·have hs:s=2:=hs;subst hs;replace q0:ag h1 h.next 0=some (.int .u8 2):=q0;have G:=go' (by omega) (by omega);cases g with
  |none=>
   rw[if_pos ⟨rfl,rfl⟩]at G;simp(disch:=omega) only[evs,seval,ai,q0,g0,g4,g6,show¬(2:Int)=1 by omega,show¬(2:Int)=0 by omega,gi,show(-1:Int)<0 by omega,l1,len,rm];refine G _ ?_ ?_ ?_ ?_ ?_<;>simp[g0,g1,g5,gi]
  |some x=>
   rw[if_neg (by simp)]at G;simp(disch:=omega) only[evs,seval,ai,q0,g0,g4,g6,show¬(2:Int)=1 by omega,show¬(2:Int)=0 by omega,gi,eq_false (show¬(x:Int)<0 by omega),l1,len,rm];refine G _ ?_ ?_ ?_ ?_ ?_<;>simp[g0,g1,g5,g6,gi]
theorem CV(a n:Nat)(b:Int)(hb:b=n)(h:n≠0):aP (.ib .rem) [.int .u64 (a:Int),.int .u64 b]=some (.int .u64 ((a%n:Nat):Int)):=by
 subst hb;rw[ke _ _ _ (by omega)];congr 2
theorem mM{h:Heap}{b S key:Nat}{v M U:V}{sl:List aT}(w:WF h)(ob:Own h b [v,M,U])(tb:Tb h v S sl)(op:Opn mix sl)(hn:sl.length<1000000)(hk:key<18446744073709551616):
 ao go 108 [.ptr b 0,.int .u64 (key:Int)] h fun u h'=>∃at' found,u=.tup [.int .i64 ((at':Nat):Int),.bool found]∧Looked mix sl key at' found∧Fr [] h h':=by
 have l0:ag h b 0=some v:=ob.ld1 0;have len:=tb.recs.len;have pos:=op.pos;have mok:=Fu (h:=h) hk;generalize mix=mx at op mok;have rm:=CV (mx key) sl.length (sl.length:Nat) rfl (by omega);have rl:mx key%sl.length<sl.length:=Nat.mod_lt _ pos;refine ah rfl rfl ?_;simp only[fn108x,evs,seval];refine xZ (fun k env hh=>Fr [] h hh∧∃j g,Seek mx sl key j g∧env.get 0=some (.ptr b 0)∧env.get 1=some (.int .u64 (key:Int))∧env.get 4=some (.int .i64 (pth (mx key) sl.length j:Nat))∧env.get 5=some (.bool false)∧
  env.get 6=some (.int .i64 (gi g))∧k=sl.length-j) (sl.length-1) (by omega) ?_ ?_
 ·simp only[evs,seval,eff];refine aa mok ?_;rintro _ _ ⟨rfl,hh⟩;replace hh:=hh.symm;subst hh;have cv1:bC .u64 (sl.length:Int)=(sl.length:Int):=cP _ (by omega) (by omega);simp(disch:=omega) only[evs,seval,DF,eff,ai,l0,len,cv1,rm];refine nV w ob tb op (Seek.start op key) hn ?_ ?_ ?_ ?_ ?_ ?_ ?_
  ·simp
  ·simp
  ·rw[AB];simp
  ·simp
  ·simp[gi]
  ·intro env' h' at' found e4 e5 L F;show gA _ _ _ _ _;simp only[evs,e4,e5];exact⟨_,_,rfl,L,F⟩
  ·intro env' h' g' q1 a0 a1 a4 a5 a6 F;exact⟨rfl,F,1,g',q1,a0,a1,a4,a5,a6,rfl⟩
 ·rintro k env hh ⟨F,j,g,q,g0,g1,g4,g5,g6,rfl⟩;have jl:=q.jl;refine nV F.wf (F.get ob) (tb.fr F) op q hn g0 g1 g4 g5 g6 ?_ ?_
  ·intro env' h' at' found e4 e5 L F';show gA _ _ _ _ _;simp only[evs,e4,e5];exact⟨_,_,rfl,L,F.then F'⟩
  ·intro env' h' g' q1 a0 a1 a4 a5 a6 F';exact⟨rfl,sl.length-(j+1),by omega,F.then F',j+1,g',q1,a0,a1,a4,a5,a6,rfl⟩
structure KmT(h:Heap)(b S:Nat)(v:V)(sl:List aT)(m:Nat→Option Nat)(c t:Nat):Prop where
 ob:Own h b [v,.int .i64 (c:Int),.int .i64 (t:Int)]
 tb:Tb h v S sl
 op:Opn mix sl
 n8:8≤sl.length
 nb:sl.length≤20000
 c1:cnS 1 sl=c
 c2:cnS 2 sl=t
 mp:∀k x:Nat,m k=some x↔∃i:Nat,sl[i]? =some (1,k,x)
 kb:∀s∈sl,s.2.1<18446744073709551616∧s.2.2<4611686018427387904
def Km(h:Heap)(b S:Nat)(m:Nat→Option Nat)(c:Nat):Prop:=
 (Own h b [.nils,.int .i64 0,.int .i64 0]∧c=0∧∀k,m k=none)∨∃v sl t,KmT h b S v sl m c t∧4*(c+t)≤3*sl.length
theorem KmT.fr{h h':Heap}{b S:Nat}{v:V}{sl:List aT}{m:Nat→Option Nat}{c t:Nat}(k:KmT h b S v sl m c t)(f:Fr [] h h'):KmT h' b S v sl m c t:={k with ob:=f.get k.ob,tb:=k.tb.fr f}
theorem Km.fr{h h':Heap}{b S:Nat}{m:Nat→Option Nat}{c:Nat}(k:Km h b S m c)(f:Fr [] h h'):Km h' b S m c:=by
 rcases k with⟨o,x⟩|⟨v,sl,t,k,x⟩
 ·exact .inl ⟨f.get o,x⟩
 ·exact .inr ⟨v,sl,t,k.fr f,x⟩
theorem KmT.sum{h:Heap}{b S:Nat}{v:V}{sl:List aT}{m:Nat→Option Nat}{c t:Nat}(k:KmT h b S v sl m c t):cnS 0 sl+c+t=sl.length:=by
 have:=xF k.op.st;rw[k.c1,k.c2]at this;exact this
theorem KmT.ne{h:Heap}{b S:Nat}{v:V}{sl:List aT}{m:Nat→Option Nat}{c t:Nat}(k:KmT h b S v sl m c t):b≠S:=by
 rintro rfl;have e:=k.ob.uniq k.tb.2;have:=congrArg List.length e;rw[mg]at this;have:=k.n8;simp at *;omega
theorem KmT.some_c{h:Heap}{b S:Nat}{v:V}{sl:List aT}{m:Nat→Option Nat}{c t:Nat}(k:KmT h b S v sl m c t){key x:Nat}(e:m key=some x):0<c:=by
 obtain⟨i,hi⟩:=(k.mp key x).1 e;rw[←k.c1];unfold cnS;rw[List.countP_pos_iff];exact⟨_,List.mem_of_getElem? hi,by simp⟩
theorem Dh{h:Heap}(w:WF h):ao go 42 [] h fun u h'=>∃b,u=.ptr b 0∧h.next≤b∧Km h' b b (fun _=>none) 0∧Fr [] h h':=by
 refine ah rfl rfl ?_;simp only[fn42,evs,seval];exact⟨_,rfl,Nat.le_refl _,.inl ⟨Own.new w _,rfl,fun _=>rfl⟩,Fr.halloc w _⟩
theorem Di{h:Heap}{b S:Nat}{m:Nat→Option Nat}{c:Nat}(k:Km h b S m c):ao go 107 [.ptr b 0] h fun u h'=>u=.int .i64 (c:Int)∧h'=h:=by
 have q:ag h b 1=some (.int .i64 (c:Int)):=by
  rcases k with⟨o,rfl,_⟩|⟨v,sl,t,k,_⟩
  ·exact o.ld1 1
  ·exact k.ob.ld1 1
 refine ah rfl rfl ?_;simp only[fn107,evs,seval,q]
def eR(o:Option Nat):V:=match o with
 |some x=>.tup [.int .i64 (x:Int),.bool true]
 |none=>.tup [.int .i64 0,.bool false]
theorem sy{h:Heap}{b S key:Nat}{m:Nat→Option Nat}{c:Nat}(w:WF h)(k:Km h b S m c)(hk:key<18446744073709551616):ao go 51 [.ptr b 0,.int .u64 (key:Int)] h fun u h'=>u=eR (m key)∧Fr [] h h':=by
 have k0:=k;refine ah rfl rfl ?_;simp only[fn51,evs,seval];refine aa (Di k) ?_;rintro _ _ ⟨rfl,hh⟩;replace hh:=hh.symm;subst hh;by_cases hc:(c:Int)=0
 ·have e:m key=none:=by
   rcases k with⟨o,_,h1⟩|⟨v,sl,t,k,_⟩
   ·exact h1 key
   ·cases e:m key with
    |none=>rfl
    |some x=>have:=k.some_c e;omega
  rw[e];simp only[evs,seval,hc];exact⟨rfl,Fr.refl w⟩
 ·rcases k with⟨o,h0,h1⟩|⟨v,sl,t,k,_⟩
  ·exact absurd (by omega) hc
  ·simp only[evs,seval,eq_false hc];refine aa (mM w k.ob k.tb k.op (by have:=k.nb;omega) hk) ?_;rintro _ h2 ⟨at',found,rfl,L,F⟩;cases found
   ·have e:m key=none:=by
     cases e:m key with
     |none=>rfl
     |some x=>obtain⟨i,hi⟩:=(k.mp key x).1 e;exact absurd hi ((L.no rfl).1 i x)
    rw[e];simp only[evs,seval];exact⟨rfl,F⟩
   ·obtain⟨x,hx⟩:=L.yes rfl;have e:m key=some x:=(k.mp key x).2 ⟨_,hx⟩;have k2:=k.fr F;have ix:=k2.tb.ix _ L.lt;have l0:ag h2 b 0=some v:=k2.ob.ld1 0;have l2:ag h2 S (at'*3+2)=some (.int .i64 (x:Int)):=by
     obtain⟨b1,o1,y,e1,e2,_,e4⟩:=Recs.ix ny k2.tb.recs .i64 (at':Nat) (by omega) (by have:=L.lt;omega);rw[ix]at e1;obtain⟨rfl,rfl⟩:S=b1∧at'*3=o1:=by simpa using e1
     simp only[Int.toNat_natCast]at e4;rw[hx]at e4;cases e4;exact(e2 2 (by omega)).trans rfl
    rw[e];simp only[evs,seval,l0,ix,l2];exact⟨rfl,F⟩
theorem kJ(x:aT):∀(sl:List aT)(i:Nat),i<sl.length→aY (sl.flatMap sc) (i*3) (sc x)=some ((sl.set i x).flatMap sc)
 |[],i,h=>by simp at h
 |y::l,0,_=>by
  show aY (V.int .u8 (y.1:Int)::V.int .u64 (y.2.1:Int)::V.int .i64 (y.2.2:Int)::l.flatMap sc) 0 [V.int .u8 (x.1:Int),V.int .u64 (x.2.1:Int),V.int .i64 (x.2.2:Int)]=_;rw[aQ,aQ,aQ,iV];rfl
 |y::l,i+1,h=>by
  have ih:=kJ x l i (by simpa using h);rw[show(i+1) *3=i*3+1+1+1 by omega];show aY (V.int .u8 (y.1:Int)::V.int .u64 (y.2.1:Int)::V.int .i64 (y.2.2:Int)::l.flatMap sc) (i*3+1+1+1) (sc x)=_;rw[aX,aX,aX,ih];rfl
theorem qz(k v v':Nat):∀(sl:List aT)(i:Nat),sl[i]? =some (1,k,v)→aY (sl.flatMap sc) (i*3+2) [V.int .i64 (v':Int)]=some ((sl.set i (1,k,v')).flatMap sc)
 |[],i,h=>by simp at h
 |y::l,0,h=>by
  simp at h;subst h;show aY (V.int .u8 ((1:Nat):Int)::V.int .u64 (k:Int)::V.int .i64 (v:Int)::l.flatMap sc) (0+1+1) [V.int .i64 (v':Int)]=_;rw[aX,aX,aQ,iV];rfl
 |y::l,i+1,h=>by
  have ih:=qz k v v' l i (by simpa using h);rw[show(i+1) *3+2=i*3+2+1+1+1 by omega];show aY (V.int .u8 (y.1:Int)::V.int .u64 (y.2.1:Int)::V.int .i64 (y.2.2:Int)::l.flatMap sc) (i*3+2+1+1+1) [V.int .i64 (v':Int)]=_;rw[aX,aX,aX,ih];rfl
theorem Tb.put{h h1:Heap}{v:V}{S i:Nat}{sl:List aT}{x:aT}(t:Tb h v S sl)(o:Own h1 S ((sl.set i x).flatMap sc)):Tb h1 v S (sl.set i x):=⟨by rw[List.length_set];exact t.1,o⟩
theorem jX{sl:List aT}{i:Nat}{x:aT}(kb:∀s∈sl,s.2.1<18446744073709551616∧s.2.2<4611686018427387904)(hx:x.2.1<18446744073709551616∧x.2.2<4611686018427387904):∀s∈sl.set i x,s.2.1<18446744073709551616∧s.2.2<4611686018427387904:=by
 intro s hs;rcases List.mem_or_eq_of_mem_set hs with h|rfl
 ·exact kb s h
 ·exact hx
theorem Eh{sl:List aT}(h:2≤cnS 0 sl)(a:Nat):∃(i:Nat)(s:aT),i≠a∧sl[i]? =some s∧s.1=0:=by
 by_cases ha:a<sl.length
 ·have e:=gU (c:=0) (x:=((1,0,0):aT)) (List.getElem?_eq_getElem ha);have h2:0<cnS 0 (sl.set a (1,0,0)):=by
   simp only[Nat.one_ne_zero,if_false]at e;split at e<;>omega
  obtain⟨i,s,hi,hs⟩:=uZ (n:=0) h2;rcases di _ _ _ _ _ hi with⟨_,rfl,_⟩|⟨ci,hi⟩
  ·cases hs
  ·exact⟨i,s,ci,hi,hs⟩
 ·obtain⟨i,s,hi,hs⟩:=uZ (n:=0) (sl:=sl) (by omega);have:=(List.getElem?_eq_some_iff.1 hi).1;exact⟨i,s,by omega,hi,hs⟩
theorem oS{c i:Nat}{sl:List aT}{s:aT}(h:sl[i]? =some s):cnS c (sl.take (i+1))=cnS c (sl.take i)+(if s.1=c then 1 else 0):=by
 unfold cnS;rw[List.take_add_one,h,List.countP_append];simp[List.countP_cons]
theorem uY(c i:Nat)(sl:List aT):cnS c (sl.take i)≤cnS c sl:=by
 unfold cnS;exact List.Sublist.countP_le (List.take_sublist i sl)
def Old(h:Heap)(b S:Nat)(v:V)(ol:List aT):Prop:=(v=.nils∧ol=[])∨(Tb h v S ol∧b≠S∧S<h.next)
theorem Old.recs{h:Heap}{b S:Nat}{v:V}{ol:List aT}(o:Old h b S v ol):Recs sc 3 h v ol:=by
 rcases o with⟨rfl,rfl⟩|⟨t,_⟩
 ·exact Recs.nil
 ·exact t.recs
theorem Old.fr{h h':Heap}{b S:Nat}{v:V}{ol:List aT}(o:Old h b S v ol)(f:Fr [b] h h'):Old h' b S v ol:=by
 rcases o with o|⟨t,ne,lt⟩
 ·exact .inl o
 ·exact .inr ⟨⟨t.1,f.own S _ (by simp;exact fun e=>ne e.symm) t.2⟩,ne,Nat.lt_of_lt_of_le lt f.next⟩
structure Moved(sl ol:List aT)(i:Nat):Prop where
 op:Opn mix sl
 c1:cnS 1 sl=cnS 1 (ol.take i)
 c2:cnS 2 sl=0
 mp:∀k x:Nat,(∃j:Nat,sl[j]? =some (1,k,x))↔∃j:Nat,j<i∧ol[j]? =some (1,k,x)
 kb:∀s∈sl,s.2.1<18446744073709551616∧s.2.2<4611686018427387904
theorem Moved.skip{sl ol:List aT}{i:Nat}{s:aT}(m:Moved sl ol i)(h:ol[i]? =some s)(hs:s.1≠1):Moved sl ol (i+1):=by
 refine{m with c1:=by rw[oS h,if_neg hs];exact m.c1,mp:=fun k x=>(m.mp k x).trans ⟨fun⟨j,a,b⟩=>⟨j,by omega,b⟩,fun⟨j,a,b⟩=>?_⟩};refine⟨j,?_,b⟩;rcases Nat.lt_or_ge j i with q|q
 ·exact q
 ·have:j=i:=by omega
  subst this;rw[h]at b;cases b;exact absurd rfl hs
theorem Moved.put{sl ol:List aT}{i k x a:Nat}(m:Moved sl ol i)(h:ol[i]? =some (1,k,x))(L:Looked mix sl k a false)(hk:k<18446744073709551616)(hx:x<4611686018427387904)(rm:2≤cnS 0 sl):Moved (sl.set a (1,k,x)) ol (i+1):=by
 obtain⟨no,⟨s0,hs0,h0⟩,_⟩:=L.no rfl;have z2:s0.1≠2:=by
  intro e;have:=m.c2;unfold cnS at this;rw[List.countP_eq_zero]at this;exact this s0 (List.mem_of_getElem? hs0) (by simp[e])
 have e1:=gU (c:=1) (x:=((1,k,x):aT)) hs0;have e2:=gU (c:=2) (x:=((1,k,x):aT)) hs0;simp only[if_neg h0,if_neg z2,if_true]at e1 e2;refine⟨m.op.put L x (Eh rm a),?_,?_,fun k' x'=>⟨?_,?_⟩,jX m.kb ⟨hk,hx⟩⟩
 ·rw[oS h,if_pos rfl,←m.c1];omega
 ·have:=m.c2;simp at e2;omega
 ·rintro⟨j,hj⟩;rcases di _ _ _ _ _ hj with⟨_,e,_⟩|⟨cj,hj⟩
  ·cases e;exact⟨i,by omega,h⟩
  ·obtain⟨j',l',e'⟩:=(m.mp k' x').1 ⟨j,hj⟩;exact⟨j',by omega,e'⟩
 ·rintro⟨j,lj,hj⟩;by_cases c:j=i
  ·subst c;rw[h]at hj;cases hj;exact⟨a,gI _ L.lt⟩
  ·obtain⟨j',hj'⟩:=(m.mp k' x').2 ⟨j,by omega,hj⟩;refine⟨j',?_⟩;rw[List.getElem?_set_ne]
   ·exact hj'
   ·rintro rfl;rw[hs0]at hj';cases hj';exact h0 rfl
theorem yH(n:Nat):bu [V.int .u8 0,V.int .u64 0,V.int .i64 0] n=(List.replicate n ((0,0,0):aT)).flatMap sc:=by
 induction n with
 |zero=>rfl
 |succ n ih=>show[V.int .u8 0,V.int .u64 0,V.int .i64 0]++bu _ n=_;rw[ih,List.replicate_succ];rfl
theorem uX(c n:Nat)(hc:c≠0):cnS c (List.replicate n (0,0,0))=0:=by
 unfold cnS;rw[List.countP_eq_zero];intro s hs;rw[List.eq_of_mem_replicate hs];simp;omega
theorem tu{h:Heap}{b S q c:Nat}{ov T0:V}{ol:List aT}(w:WF h)(ob:Own h b [ov,.int .i64 (c:Int),T0])(old:Old h b S ov ol)(o1:ov.one=true)(t1:T0.one=true)(hl:ol.length≤20000)
 (uq:∀i j k v w:Nat,ol[i]? =some (1,k,v)→ol[j]? =some (1,k,w)→i=j) (oc:cnS 1 ol=c) (kb:∀s∈ol,s.2.1<18446744073709551616∧s.2.2<4611686018427387904) (hc:c≤q) (q1:1≤q) (q2:q≤4097):
 ao go 226 [.ptr b 0,.int .i64 (q:Int)] h fun u h'=>u=.tup []∧∃n S' sl,h.next≤S'∧sl.length=n∧8≤n∧n≤20000∧2*q≤n∧Own h' b [.slice S' 0 n n,.int .i64 (c:Int),.int .i64 0]∧Tb h' (.slice S' 0 n n) S' sl∧Moved sl ol ol.length∧Fr [b] h h':=by
 have bl:=ob.lt w;refine ah rfl rfl ?_;simp only[fn226,evs,seval];refine aC (fun k env hh=>h=hh∧∃n:Nat,env.get 0=some (.ptr b 0)∧env.get 1=some (.int .i64 (q:Int))∧env.get 4=some (.int .i64 (n:Int))∧8≤n∧n≤16388∧k=2*q-n) (2*q-8) (by omega) ?_ ?_
 ·exact⟨rfl,8,(by simp),(by simp),(by simp),by omega,by omega,rfl⟩
 rintro k env hh ⟨rfl,n,g0,g1,g4,n8,nb,rfl⟩;by_cases hn:(n:Int)<2*(q:Int)
 ·simp(disch:=omega) only[evs,seval,ai,g1,g4,eq_true hn];refine(aj _ _ _).2 ⟨2*q-n*2,by omega,rfl,n*2,(by simp[g0]),(by simp[g1]),(by simp),by omega,by omega,rfl⟩
  done
 have l0:ag h b 0=some ov:=ob.ld1 0;have ms:=yH n;have mk:qR h [V.int .u8 0,V.int .u64 0,V.int .i64 0] 24 (.int .i64 (n:Int)) (.int .i64 (n:Int))=some (.slice h.next 0 n n,halloc h ((List.replicate n ((0,0,0):aT)).flatMap sc)):=by
  rw[←ms];show(bif Nat.ble n n&&Nat.blt n 9223372036854775808&&Nat.ble (24*n) 281474976710656 then some (V.slice h.next 0 n n,halloc h (bu [V.int .u8 0,V.int .u64 0,V.int .i64 0] n))else none)=_;rw[show Nat.ble n n=true by rw[Nat.ble_eq];omega,show Nat.blt n 9223372036854775808=true by rw[Nat.blt_eq];omega,show Nat.ble (24*n) 281474976710656=true by rw[Nat.ble_eq];omega];rfl
 simp(disch:=omega) only[evs,seval,ai,g0,g1,g4,eq_false hn,l0,mk];have w0:=w.halloc ((List.replicate n ((0,0,0):aT)).flatMap sc);refine ab (c':=[.slice h.next 0 n n,.int .i64 (c:Int),T0]) w0 (ob.halloc w _) rfl rfl rfl ?_;rintro h1 ob1 F1 n1;simp only[evs,seval,g0];refine ab (c':=[.slice h.next 0 n n,.int .i64 (c:Int),.int .i64 0]) F1.wf ob1 rfl rfl rfl ?_;rintro h2 ob2 F2 n2;have bn:h.next≠b:=by omega
 have ot2:Own h2 h.next ((List.replicate n ((0,0,0):aT)).flatMap sc):=F2.own _ _ (by simpa using bn) (F1.own _ _ (by simpa using bn) (Own.new w _));have Fa:Fr [b] h h2:=((Fr.halloc w _).trans (F1.trans F2 w0 (T:=[b]) (fun x hx=>.inl hx) (fun x hx=>.inl hx)) w (fun x hx=>by simp at hx) (fun x hx=>.inl hx));have len:=old.recs.len;simp only[evs,seval,len];refine aC (fun k env hh=>∃(i:Nat)(sl:List aT),Fr [b] h hh∧Own hh b [.slice h.next 0 n n,.int .i64 (c:Int),.int .i64 0]∧Tb hh (.slice h.next 0 n n) h.next sl∧sl.length=n∧Moved sl ol i∧env.get 0=some (.ptr b 0)∧env.get 28=some ov∧
  env.get 29=some (.int .i64 (ol.length:Int))∧env.get 30=some (.int .i64 (i:Int))∧i≤ol.length∧k=ol.length-i) ol.length (by omega) ?_ ?_
 ·refine⟨0,List.replicate n (0,0,0),Fa,ob2,⟨.inl (by simp),ot2⟩,by simp,⟨Opn.zero _ _ (by omega),?_,uX 2 n (by omega),fun k x=>⟨?_,?_⟩,?_⟩,(by simp[g0]),(by simp),(by simp),(by simp),by omega,rfl⟩
  ·rw[uX 1 n (by omega)];simp[cnS]
  ·rintro⟨j,hj⟩;have:=List.eq_of_mem_replicate (List.mem_of_getElem? hj);cases this
  ·rintro⟨j,hj,_⟩;omega
  ·intro s hs;rw[List.eq_of_mem_replicate hs];simp
 clear ob1 F1 n1 ob2 F2 n2 ot2 Fa w0 g0 g1 g4 l0 mk ms;rintro k env hh ⟨i,sl,F,oB,tB,sn,mv,g0,g28,g29,g30,hi,rfl⟩;by_cases hlt:(i:Int)<(ol.length:Int)
 ·have wh:=F.wf;obtain⟨b1,p1,⟨s,ky,vl⟩,e1,_,e3,e4⟩:=Recs.ix ny (old.fr F).recs .i64 (i:Int) (by omega) hlt;simp only[Int.toNat_natCast]at e4;have hk:=kb _ (List.mem_of_getElem? e4);simp only[evs,seval,g28,g29,g30,eq_true hlt,e1,e3];refine ab (c':=sc (s,ky,vl)) (wh.halloc _) (Own.new wh _) rfl rfl rfl ?_;rintro h3 o3 F3 n3;have Fx:Fr [] hh h3:=(Fr.halloc wh _).trans F3 wh (fun _ hx=>by simp at hx) (fun x hx=>.inr (by simp at hx;omega));by_cases hs:(s:Int)=1
  ·have hs1:s=1:=by omega
   subst hs1;have q0:ag h3 hh.next 0=some (.int .u8 1):=o3.ld1 0;have q1':ag h3 hh.next 1=some (.int .u64 (ky:Int)):=o3.ld1 1;simp only[evs,seval,q0,q1',g0];refine aa (mM Fx.wf (Fx.get oB) (tB.fr Fx) mv.op (by omega) hk.1) ?_;rintro _ h4 ⟨at',found,rfl,L,F4⟩;cases found;case true=>
    obtain⟨x,hx⟩:=L.yes rfl;obtain⟨j,lj,hj⟩:=(mv.mp ky x).1 ⟨_,hx⟩;have:=uq _ _ _ _ _ hj e4;omega
   have Fy:=Fx.then F4;have l0:ag h4 b 0=some (.slice h.next 0 n n):=(Fy.get oB).ld1 0;have q3:ak h4 hh.next 0 3=some (sc (1,ky,vl)):=by rw[(F4.get o3).ld];rfl
   have ix:=(tB.fr Fy).ix at' L.lt;simp only[evs,seval,eff,g0,l0,q3,ix];refine ab (c':=(sl.set at' (1,ky,vl)).flatMap sc) Fy.wf (tB.fr Fy).2 rfl rfl (kJ (1,ky,vl) sl at' L.lt) ?_;rintro h5 o5 F5 n5;have room:2≤cnS 0 sl:=by
    have e:=xF mv.op.st;have:=mv.c2;have a1:=mv.c1;have a2:=oS (c:=1) e4;have a3:=uY 1 (i+1) ol;simp only[if_true]at a2;omega
   simp(disch:=omega) only[evs,seval,DF,ai,g30,l0,q3];refine(aj _ _ _).2 ⟨ol.length-(i+1),by omega,i+1,sl.set at' (1,ky,vl),(F.trans Fy w (fun x hx=>.inl hx) (fun x hx=>by simp at hx)).trans F5 w (fun x hx=>.inl hx) (fun x hx=>.inr (by simp at hx;omega)),F5.own b _ (by simpa using Ne.symm bn) (Fy.get oB),⟨by rw[List.length_set];exact tB.1,o5⟩,by rw[List.length_set];exact sn,
    mv.put e4 L hk.1 hk.2 room,(by simp[g0]),(by simp[g28]),(by simp[g29]),(by simp),by omega,rfl⟩
   done
  ·have q0:ag h3 hh.next 0=some (.int .u8 (s:Int)):=o3.ld1 0;simp(disch:=omega) only[evs,seval,ai,q0,eq_false hs,g30];refine(aj _ _ _).2 ⟨ol.length-(i+1),by omega,i+1,sl,F.trans Fx w (fun x hx=>.inl hx) (fun x hx=>by simp at hx),Fx.get oB,tB.fr Fx,sn,mv.skip e4 (by simp only[];omega),(by simp[g0]),(by simp[g28]),(by simp[g29]),(by simp),by omega,rfl⟩
   done
 ·have:i=ol.length:=by omega
  subst this;simp only[evs,seval,g29,g30,eq_false hlt];exact⟨n,h.next,sl,Nat.le_refl _,sn,n8,by omega,by omega,oB,tB,mv,F⟩
def jH(m:Nat→Option Nat)(key x:Nat):Nat→Option Nat:=fun k=>if k=key then some x else m k
theorem KmT.put{h h':Heap}{b S key x a t':Nat}{v:V}{sl:List aT}{m:Nat→Option Nat}{c t:Nat}(k:KmT h b S v sl m c t)(L:Looked mix sl key a false)(hk:key<18446744073709551616)(hx:x<4611686018427387904)(fill:4*(c+t+1)≤3*sl.length)
 (ob:Own h' b [v,.int .i64 ((c+1:Nat):Int),.int .i64 (t':Int)]) (o:Own h' S ((sl.set a (1,key,x)).flatMap sc)) (ht:∀s:aT,sl[a]? =some s→t'+(if s.1=2 then 1 else 0)=t):KmT h' b S v (sl.set a (1,key,x)) (jH m key x) (c+1) t':=by
 obtain⟨no,⟨s0,hs0,h0⟩,_⟩:=L.no rfl;have e1:=gU (c:=1) (x:=((1,key,x):aT)) hs0;have e2:=gU (c:=2) (x:=((1,key,x):aT)) hs0;simp only[if_neg h0,if_true]at e1;have ht:=ht s0 hs0;have c1:=k.c1;have c2:=k.c2;have rm:2≤cnS 0 sl:=by have:=k.sum;have:=k.n8;omega
 refine⟨ob,⟨by rw[List.length_set];exact k.tb.1,o⟩,k.op.put L x (Eh rm a),by rw[List.length_set];exact k.n8,by rw[List.length_set];exact k.nb,by omega,?_,fun k' x'=>⟨?_,?_⟩,jX k.kb ⟨hk,hx⟩⟩
 ·simp at e2;split at e2<;>split at ht<;>omega
 ·intro e;unfold jH at e;by_cases ck:k'=key
  ·rw[if_pos ck]at e;cases e;subst ck;exact⟨a,gI _ L.lt⟩
  ·rw[if_neg ck]at e;obtain⟨i,hi⟩:=(k.mp k' x').1 e;refine⟨i,?_⟩;rw[List.getElem?_set_ne]
   ·exact hi
   ·rintro rfl;rw[hs0]at hi;cases hi;exact h0 rfl
 ·rintro⟨i,hi⟩;unfold jH;rcases di _ _ _ _ _ hi with⟨_,e,_⟩|⟨ci,hj⟩
  ·cases e;rw[if_pos rfl]
  ·by_cases ck:k'=key
   ·subst ck;exact absurd hj (no _ _)
   ·rw[if_neg ck];exact(k.mp k' x').2 ⟨i,hj⟩
theorem wZ{h:Heap}{env:T V}{b S key x:Nat}{v:V}{sl:List aT}{m:Nat→Option Nat}{c t:Nat}{R:V→Heap→Prop}(w:WF h)(k:KmT h b S v sl m c t)(hk:key<18446744073709551616)(hx:x<4611686018427387904)(hm:m key=none)(fill:4*(c+t+1)≤3*sl.length)
 (g0:env.get 0=some (.ptr b 0)) (g1:env.get 1=some (.int .u64 (key:Int))) (g2:env.get 2=some (.int .i64 (x:Int)))
 (K:∀h' sl' t',KmT h' b S v sl' (jH m key x) (c+1) t'→sl'.length=sl.length→t'≤t→Fr [b,S] h h'→R (.int .i64 0) h'):W go CX env h (gA [.t 6] R):=by
 have cb:=k.sum;have nb:=k.nb;have ne:=k.ne;simp only[evs,CX,g0,g1];refine aa (mM w k.ob k.tb k.op (by omega) hk) ?_;rintro _ h2 ⟨at',found,rfl,L,F⟩;cases found;case true=>
  obtain⟨y,hy⟩:=L.yes rfl;have:=(k.mp key y).2 ⟨_,hy⟩;rw[hm]at this;cases this
 have k2:=k.fr F;have ix:=k2.tb.ix _ L.lt;have l0:ag h2 b 0=some v:=k2.ob.ld1 0;obtain⟨no,⟨s0,hs0,h0⟩,_⟩:=L.no rfl;have l3:ag h2 S (at'*3)=some (.int .u8 (s0.1:Int)):=by
  obtain⟨b1,o1,y,e1,e2,_,e4⟩:=Recs.ix ny k2.tb.recs .i64 (at':Nat) (by omega) (by have:=L.lt;omega);rw[ix]at e1;obtain⟨rfl,rfl⟩:S=b1∧at'*3=o1:=by simpa using e1
  simp only[Int.toNat_natCast]at e4;rw[hs0]at e4;cases e4;exact(e2 0 (by omega)).trans rfl
 by_cases ht:(s0.1:Int)=2
 ·have t1:1≤t:=by
   rw[←k.c2];have:0<cnS 2 sl:=by
    unfold cnS;rw[List.countP_pos_iff];exact⟨s0,List.mem_of_getElem? hs0,by simp;omega⟩
   exact this
  have l2:ag h2 b 2=some (.int .i64 (t:Int)):=k2.ob.ld1 2;simp(disch:=omega) only[evs,seval,ai,l0,ix,l3,eq_true ht,g0,l2];refine ab (c':=[v,.int .i64 (c:Int),.int .i64 ((t:Int)-1)]) F.wf k2.ob rfl rfl rfl ?_;rintro h3 o3 F3 n3;have tb3:Tb h3 v S sl:=⟨k2.tb.1,F3.own S _ (by simpa using Ne.symm ne) k2.tb.2⟩;have l0':ag h3 b 0=some v:=o3.ld1 0;have ix':=tb3.ix _ L.lt;simp only[evs,seval,g0,g1,g2,l0',ix'];refine ab (c':=(sl.set at' (1,key,x)).flatMap sc) F3.wf tb3.2 rfl rfl (kJ (1,key,x) sl at' L.lt) ?_;rintro h4 o4 F4 n4;have ob4:=F4.own b _ (by simpa using ne) o3;have l1:ag h4 b 1=some (.int .i64 (c:Int)):=ob4.ld1 1;simp(disch:=omega) only[evs,seval,ai,g0,l1];refine ab (c':=[v,.int .i64 ((c:Int)+1),.int .i64 ((t:Int)-1)]) F4.wf ob4 rfl rfl rfl ?_;rintro h5 o5 F5 n5;simp only[evs,seval];refine K h5 (sl.set at' (1,key,x)) (t-1) (k.put L hk hx fill ?_ (F5.own S _ (by simpa using Ne.symm ne) o4) ?_) (List.length_set ..) (by omega) ?_
  ·rw[show((t-1:Nat):Int)=(t:Int)-1 by omega];exact o5
  ·intro s hs;rw[hs0]at hs;cases hs;rw[if_pos (by omega)];omega
  ·have A:Fr [b,S] h2 h4:=F3.trans F4 F.wf (fun x hx=>.inl (by simp at hx;simp[hx])) (fun x hx=>.inl (by simp at hx;simp[hx]));have B:Fr [b,S] h2 h5:=A.trans F5 F.wf (fun x hx=>.inl hx) (fun x hx=>.inl (by simp at hx;simp[hx]));exact F.trans B w (fun x hx=>by simp at hx) (fun x hx=>.inl hx)
 ·simp only[evs,seval,l0,ix,l3,eq_false ht,g0,g1,g2];refine ab (c':=(sl.set at' (1,key,x)).flatMap sc) F.wf k2.tb.2 rfl rfl (kJ (1,key,x) sl at' L.lt) ?_;rintro h4 o4 F4 n4;have ob4:=F4.own b _ (by simpa using ne) k2.ob;have l1:ag h4 b 1=some (.int .i64 (c:Int)):=ob4.ld1 1;simp(disch:=omega) only[evs,seval,ai,g0,l1];refine ab (c':=[v,.int .i64 ((c:Int)+1),.int .i64 (t:Int)]) F4.wf ob4 rfl rfl rfl ?_;rintro h5 o5 F5 n5;simp only[evs,seval];refine K h5 (sl.set at' (1,key,x)) t (k.put L hk hx fill o5 (F5.own S _ (by simpa using Ne.symm ne) o4) ?_) (List.length_set ..) (by omega) ?_
  ·intro s hs;rw[hs0]at hs;cases hs;rw[if_neg (by omega)];omega
  ·have B:Fr [b,S] h2 h5:=F4.trans F5 F.wf (fun x hx=>.inl (by simp at hx;simp[hx])) (fun x hx=>.inl (by simp at hx;simp[hx]));exact F.trans B w (fun x hx=>by simp at hx) (fun x hx=>.inl hx)
theorem Moved.kmt{h':Heap}{b S' n:Nat}{sl ol:List aT}{m:Nat→Option Nat}{c:Nat}(M:Moved sl ol ol.length)(sn:sl.length=n)(n8:8≤n)(nb:n≤20000)(ob:Own h' b [.slice S' 0 n n,.int .i64 (c:Int),.int .i64 0])(tb:Tb h' (.slice S' 0 n n) S' sl)
 (oc:cnS 1 ol=c) (mp:∀k x:Nat,m k=some x↔∃i:Nat,ol[i]? =some (1,k,x)):KmT h' b S' (.slice S' 0 n n) sl m c 0:=by
 refine⟨ob,tb,M.op,by omega,by omega,by rw[M.c1,List.take_length];exact oc,M.c2,fun k x=>(mp k x).trans ⟨fun⟨i,hi⟩=>(M.mp k x).2 ⟨i,(List.getElem?_eq_some_iff.1 hi).1,hi⟩,fun q=>?_⟩,M.kb⟩;obtain⟨j,_,hj⟩:=(M.mp k x).1 q;exact⟨j,hj⟩
theorem w4{h:Heap}{env:T V}{b S key x:Nat}{m:Nat→Option Nat}{c:Nat}{R:V→Heap→Prop}(w:WF h)(k:Km h b S m c)(hc:c<4096)(hk:key<18446744073709551616)(hx:x<4611686018427387904)(hm:m key=none)
 (g0:env.get 0=some (.ptr b 0)) (g1:env.get 1=some (.int .u64 (key:Int))) (g2:env.get 2=some (.int .i64 (x:Int)))
 (K:∀h' S',(S'=S∨h.next≤S')→Km h' b S' (jH m key x) (c+1)→Fr [b,S] h h'→R (.int .i64 0) h'):W go Az env h (gA [.t 6] R):=by
 have fin:∀{h2:Heap}{env2:T V}{S':Nat}{v:V}{sl:List aT}{t:Nat},Fr [b] h h2→h.next≤S'→KmT h2 b S' v sl m c t→4*(c+t+1)≤3*sl.length→env2.get 0=some (.ptr b 0)→env2.get 1=some (.int .u64 (key:Int))→env2.get 2=some (.int .i64 (x:Int))→W go CX env2 h2 (gA [.t 6] R):=by
  intro h2 env2 S' v sl t F hS k2 fill a0 a1 a2;refine wZ F.wf k2 hk hx hm fill a0 a1 a2 fun h' sl' t' k' e1 e2 F'=>K h' S' (.inr hS) (.inr ⟨v,sl',t',k',by omega⟩) ?_;exact F.trans F' w (fun x hx=>.inl (by simp at hx;simp[hx])) (fun x hx=>by
   simp at hx;rcases hx with rfl|rfl
   ·exact .inl (by simp)
   ·exact .inr hS)
 rcases k with⟨o,rfl,h1⟩|⟨v,sl,t,k,_⟩
 ·have l0:ag h b 0=some .nils:=o.ld1 0;have l1:ag h b 1=some (.int .i64 0):=o.ld1 1;have l2:ag h b 2=some (.int .i64 0):=o.ld1 2;simp(disch:=omega) only[evs,seval,DF,eff,ai,Az,g0,l0,l1,l2,show¬(0:Int)=4096 by omega];refine aa (tu (S:=b) (q:=1) (c:=0) (ol:=[]) w o (.inl ⟨rfl,rfl⟩) rfl rfl (by simp) (by simp) rfl (by simp) (by omega) (by omega) (by omega)) ?_;rintro _ h2 ⟨rfl,n,S',sl,hS,sn,n8,nb,q2,ob,tb,M,F⟩;simp only[evs];exact fin F hS (M.kmt sn n8 nb ob tb rfl (fun k x=>by rw[h1];simp)) (by omega) (by simp[g0]) (by simp[g1]) (by simp[g2])
 ·have cb:=k.sum;have nb:=k.nb;have l0:ag h b 0=some v:=k.ob.ld1 0;have l1:ag h b 1=some (.int .i64 (c:Int)):=k.ob.ld1 1;have l2:ag h b 2=some (.int .i64 (t:Int)):=k.ob.ld1 2;have len:=k.tb.recs.len;have c0:¬(c:Int)=4096:=by omega
  by_cases hf:3*(sl.length:Int)<4*((c:Int)+(t:Int)+1)
  ·simp(disch:=omega) only[evs,seval,DF,eff,ai,Az,g0,l0,l1,l2,len,c0,eq_true hf];have o1:v.one=true:=by rcases k.tb.1 with rfl|rfl<;>rfl
   refine aa (tu (S:=S) (q:=c+1) w k.ob (.inr ⟨k.tb,k.ne,k.tb.2.lt w⟩) o1 rfl nb k.op.uniq k.c1 k.kb (by omega) (by omega) (by omega)) ?_;rintro _ h2 ⟨rfl,n,S',sl',hS,sn,n8,nb',q2,ob,tb,M,F⟩;simp only[evs];exact fin F hS (M.kmt sn n8 nb' ob tb k.c1 k.mp) (by omega) (by simp[g0]) (by simp[g1]) (by simp[g2])
  ·simp(disch:=omega) only[evs,seval,DF,eff,ai,Az,g0,l0,l1,l2,len,c0,eq_false hf];refine wZ w k hk hx hm (by omega) ?_ ?_ ?_ fun h' sl' t' k' e1 e2 F'=>K h' S (.inl rfl) (.inr ⟨v,sl',t',k',by omega⟩) F'
   ·simp[g0]
   ·simp[g1]
   ·simp[g2]
theorem Dg{h:Heap}{b S key x:Nat}{m:Nat→Option Nat}{c:Nat}(w:WF h)(k:Km h b S m c)(hc:c<4096∨(m key).isSome=true)(k0:0<key)(hk:key<18446744073709551616)(hx:x<4611686018427387904):
 ao go 168 [.ptr b 0,.int .u64 (key:Int),.int .i64 (x:Int)] h fun u h'=>u=.int .i64 0∧∃S',(S'=S∨h.next≤S')∧Km h' b S' (jH m key x) (if(m key).isSome=true then c else c+1)∧Fr [b,S] h h':=by
 have kz:¬(key:Int)=0:=by omega
 have k00:=k;refine ah rfl rfl ?_;rcases k with⟨o,rfl,h1⟩|⟨v,sl,t,k,fill⟩
 ·have l0:ag h b 0=some .nils:=o.ld1 0;simp only[evs,seval,fn168x,kz,l0,show¬(0:Int)<0 by omega];refine w4 w k00 (by omega) hk hx (h1 key) ?_ ?_ ?_ fun h' S' a b c=>?_
  ·simp
  ·simp
  ·simp
  ·rw[h1];exact⟨rfl,S',a,b,c⟩
 ·have l0:ag h b 0=some v:=k.ob.ld1 0;have len:=k.tb.recs.len;have n8:=k.n8;have nb:=k.nb;simp only[evs,seval,fn168x,kz,l0,len,eq_true (show(0:Int)<(sl.length:Int) by omega)];refine aa (mM w k.ob k.tb k.op (by omega) hk) ?_;rintro _ h2 ⟨at',found,rfl,L,F⟩;cases found
  ·have hm:m key=none:=by
    cases e:m key with
    |none=>rfl
    |some y=>obtain⟨i,hi⟩:=(k.mp key y).1 e;exact absurd hi ((L.no rfl).1 i y)
   rw[hm]at hc⊢;simp only[evs,seval];refine w4 F.wf (k00.fr F) (by simpa using hc) hk hx hm ?_ ?_ ?_ fun h' S' a b' c'=>⟨rfl,S',a.imp id (fun q=>Nat.le_trans F.next q),by simpa using b',F.trans c' w (fun x hx=>by simp at hx) (fun x hx=>.inl hx)⟩
   ·simp
   ·simp
   ·simp
  ·obtain⟨y,hy⟩:=L.yes rfl;have hm:=(k.mp key y).2 ⟨_,hy⟩;have k2:=k.fr F;have ix:=k2.tb.ix _ L.lt;have ne:=k2.ne;have l0':ag h2 b 0=some v:=k2.ob.ld1 0;rw[hm];simp only[evs,seval,l0',ix];refine ab (c':=(sl.set at' (1,key,x)).flatMap sc) F.wf k2.tb.2 rfl rfl (qz key y x sl at' hy) ?_;rintro h3 o3 F3 n3;simp only[evs,seval];have e1:=gU (c:=1) (x:=((1,key,x):aT)) hy;have e2:=gU (c:=2) (x:=((1,key,x):aT)) hy;simp at e1 e2;refine⟨S,.inl rfl,.inr ⟨v,sl.set at' (1,key,x),t,⟨F3.own b _ (by simpa using ne) k2.ob,⟨by rw[List.length_set];exact k.tb.1,o3⟩,k.op.change hy x,by rw[List.length_set];exact n8,by rw[List.length_set];exact nb,by have:=k.c1;first|omega|(simp;omega),by have:=k.c2;omega,?_,jX k.kb ⟨hk,hx⟩⟩,by rw[List.length_set];first|exact fill|simpa using fill⟩,?_⟩
   ·intro k' x';unfold jH;constructor
    ·intro e;by_cases ck:k'=key
     ·rw[if_pos ck]at e;cases e;subst ck;exact⟨at',gI _ L.lt⟩
     ·rw[if_neg ck]at e;obtain⟨i,hi⟩:=(k.mp k' x').1 e;refine⟨i,?_⟩;rw[List.getElem?_set_ne]
      ·exact hi
      ·rintro rfl;rw[hy]at hi;cases hi;exact ck rfl
    ·rintro⟨i,hi⟩;rcases di _ _ _ _ _ hi with⟨_,e,_⟩|⟨ci,hj⟩
     ·cases e;rw[if_pos rfl]
     ·have ck:k'≠key:=by rintro rfl;exact ci (k.op.uniq _ _ _ _ _ hj hy)
      rw[if_neg ck];exact(k.mp k' x').2 ⟨i,hj⟩
   ·exact F.trans F3 w (fun x hx=>by simp at hx) (fun x hx=>.inl (by simp at hx;simp[hx]))
set_option maxRecDepth 4000
def TbC(e:Nat)(h:Heap)(v:V)(B:Nat)(C:List V)(N:Nat):Prop:=C.length=N*e∧((v=.nils∧N=0)∨(v=.slice B 0 N N∧Own h B C))
def Dst(e:Nat)(h:Heap)(B:Nat)(C:List V)(u:V)(o n:Nat):Prop:=o+n*e≤C.length∧((n=0∧(u=.nils∨∃b o c,u=.slice b o 0 c))∨∃cap,u=.slice B o n cap∧Own h B C)
variable {e : Nat} {h : Heap} {v u su : V} {B N : Nat} {C vs : List V}
theorem TbC.sl(a:TbC e h v B C N):Sl h e v N C:=by
 obtain⟨hl,⟨rfl,rfl⟩|⟨rfl,o⟩⟩:=a
 ·exact⟨hl,rfl⟩
 ·exact Sl.lit o hl
theorem TbC.one(a:TbC e h v B C N):v.one=true:=a.sl.one
theorem TbC.len(a:TbC e h v B C N):aP .lenS [v]=some (.int .i64 N):=a.sl.len
theorem TbC.fr{S:List Nat}{h':Heap}(a:TbC e h v B C N)(f:Fr S h h')(hB:B∉S):TbC e h' v B C N:=by
 obtain⟨hl,⟨rfl,rfl⟩|⟨rfl,o⟩⟩:=a
 ·exact⟨hl,.inl ⟨rfl,rfl⟩⟩
 ·exact⟨hl,.inr ⟨rfl,f.own _ _ hB o⟩⟩
theorem Sl.ones{h:Heap}{e:Nat}{v:V}{n:Nat}{cs:List V}(a:Sl h e v n cs)(b:Sl h e v n vs):cs=vs:=by
 have:=a.srcCells.symm.trans b.srcCells;exact Option.some.inj this
theorem TbC.part(a:TbC e h v B C N)(lo hi:Bool)(bs:List V)(l r:Nat)(hr:r≤N)(hl:l≤r)
 (hb:aR N N lo hi false bs=some (l,r,none)) (he:0<e):
 ∃v',aP (.sl none e lo hi false) (v::bs)=some v'∧Sl h e v' (r-l) ((C.drop (l*e)).take ((r-l) *e))∧Dst e h B C v' (l*e) (r-l):=by
 have hm:l*e+(r-l) *e≤C.length:=by
  rw[a.1,←Nat.add_mul];exact Nat.mul_le_mul_right _ (by omega)
 obtain⟨hlen,⟨rfl,rfl⟩|⟨rfl,o⟩⟩:=a
 ·have h0:l=0:=by omega
  have h1:r=0:=by omega
  subst h0 h1;refine⟨.nils,by simp only[aP,dt,hb,Option.map_some],⟨by simp,rfl⟩,⟨hm,.inl ⟨by omega,.inl rfl⟩⟩⟩
 ·refine⟨.slice B (bif Nat.beq N l then 0 else 0+l*e) (r-l) (N-l),by simp only[aP,dt,hb,Option.map_some,Option.getD_none],⟨by simp;omega,rfl,by omega,C,o,?_⟩,hm,?_⟩
  ·by_cases c:N=l
   ·have h0:r-l=0:=by omega
    rw[fT c,h0];simp
   ·rw[ef c];simp only[cond_false,Nat.zero_add];exact⟨hm,trivial⟩
  ·by_cases c:N=l
   ·have h0:r-l=0:=by omega
    rw[fT c,h0];exact .inl ⟨rfl,.inr ⟨_,_,_,rfl⟩⟩
   ·rw[ef c];simp only[cond_false,Nat.zero_add];exact .inr ⟨_,rfl,o⟩
theorem TbC.from(a:TbC e h v B C N)(he:0<e)(k:IntKind)(i:Int)(l:Nat)(hi:i=l)(hl:l≤N):
 ∃v',aP (.sl none e true false false) [v,.int k i]=some v'∧Sl h e v' (N-l) ((C.drop (l*e)).take ((N-l) *e))∧Dst e h B C v' (l*e) (N-l):=by
 subst hi;exact a.part true false [.int k l] l N (Nat.le_refl _) hl (by simp only[aR,bG k l N (by omega) (by omega),Option.map_some,Int.toNat_natCast]) he
theorem TbC.upto(a:TbC e h v B C N)(he:0<e)(k:IntKind)(i:Int)(r:Nat)(hi:i=r)(hr:r≤N):
 ∃v',aP (.sl none e false true false) [v,.int k i]=some v'∧Sl h e v' r (C.take (r*e)):=by
 subst hi;obtain⟨v',a1,a2,_⟩:=a.part false true [.int k r] 0 r hr (Nat.zero_le _) (by simp only[aR,bG k r N (by omega) (by omega),Option.map_some,Int.toNat_natCast]) he;exact⟨v',a1,by simpa using a2⟩
theorem TbC.range(a:TbC e h v B C N)(he:0<e)(k k':IntKind)(i j:Int)(l r:Nat)(hi:i=l)(hj:j=r)(hr:r≤N)(hl:l≤r):
 ∃v',aP (.sl none e true true false) [v,.int k i,.int k' j]=some v'∧Sl h e v' (r-l) ((C.drop (l*e)).take ((r-l) *e))∧Dst e h B C v' (l*e) (r-l):=by
 subst hi hj;exact a.part true true [.int k l,.int k' r] l r hr hl (by
  simp only[aR,bG k' r N (by omega) (by omega),Option.bind_some,Int.toNat_natCast,bG k l r (by omega) (by omega),Option.map_some]) he
theorem gR{o n m:Nat}{K:V→Heap→Prop}(he:0<e)(w:WF h)(d:Dst e h B C u o n)(s:Sl h e su m vs)(h1:aq vs=true)(hm:m≤n)
 (t:TbC e h v B C N)
 (k:∀h1,TbC e h1 v B (C.take o++vs++C.drop (o+m*e)) N→Fr [B] h h1→h1.next=h.next→K (.int .i64 (m:Int)) h1):OQ (qT h e u su) K:=by
 have hl:=s.1;have hd:gQ u=some n:=by
  rcases d.2 with⟨rfl,rfl|⟨_,_,_,rfl⟩⟩|⟨_,rfl,_⟩<;>rfl
 have ht:(C.take o++vs++C.drop (o+m*e)).length=N*e:=by
  have:=d.1;have:=Nat.mul_le_mul_right e hm;rw[←t.1];simp;omega
 unfold qT OQ;simp only[hd,s.srcLen,Nat.min_def];rw[if_pos hm];by_cases c:m=0
 ·subst c;have:vs=[]:=List.length_eq_zero_iff.1 (by omega);subst this;refine⟨_,_,rfl,k h ?_ (Fr.refl w) rfl⟩;simpa using t
 ·rw[ef c];rcases d.2 with⟨h0,_⟩|⟨cap,rfl,ow⟩
  ·omega
  ·obtain⟨_,⟨rfl,rfl⟩|⟨rfl,_⟩⟩:=t
   ·exfalso;have:=d.1;have:C.length=0:=by omega
    have:n*e=0:=by omega
    rcases Nat.mul_eq_zero.1 this with z|z<;>omega
   ·obtain⟨h',e1,o1,f1,n1⟩:=lG w ow h1 (bE C o vs (by have:=d.1;have:=Nat.mul_le_mul_right e hm;omega));refine⟨_,h',?_,k h' ⟨ht,.inr ⟨rfl,?_⟩⟩ f1 n1⟩
    ·simp only[cond_false,s.srcCells,e1,Option.map_some]
    ·rw[hl]at o1;exact o1
theorem eJ(z:List V)(n:Nat):(bu z n).length=n*z.length:=by
 induction n with
 |zero=>simp[eW]
 |succ n ih=>rw[dX,List.length_append,ih];rw[Nat.succ_mul];omega
theorem aM(a b:List V):aq (a++b)=(aq a&&aq b):=by
 induction a with
 |nil=>simp[aq]
 |cons x l ih=>rw[List.cons_append,aA,aA,ih,Bool.and_assoc]
theorem dZ{a:List V}(n:Nat)(x:aq a=true):aq (a.take n)=true:=by
 rw[←List.take_append_drop n a,aM]at x;exact(Bool.and_eq_true _ _▸x).1
theorem dI{a:List V}(n:Nat)(x:aq a=true):aq (a.drop n)=true:=by
 rw[←List.take_append_drop n a,aM]at x;exact(Bool.and_eq_true _ _▸x).2
theorem vW{z:List V}(n:Nat)(x:aq z=true):aq (bu z n)=true:=by
 induction n with
 |zero=>rfl
 |succ n ih=>rw[dX,aM,x,ih];rfl
theorem Bz{o n:Nat}{z:List V}{K:V→Heap→Prop}(w:WF h)(d:Dst e h B C u o n)(hz:z.length=e)(h1:aq z=true)(t:TbC e h v B C N)
 (k:∀h1,TbC e h1 v B (C.take o++bu z n++C.drop (o+n*e)) N→Fr [B] h h1→h1.next=h.next→K (.tup []) h1):OQ (wI h z u) K:=by
 have ht:(C.take o++bu z n++C.drop (o+n*e)).length=N*e:=by
  have:=d.1;rw[←t.1];simp[eJ,hz];omega
 unfold wI OQ;rcases d.2 with⟨rfl,q⟩|⟨cap,rfl,ow⟩
 ·have:K (.tup []) h:=k h (by simpa[eW]using t) (Fr.refl w) rfl;rcases q with rfl|⟨_,_,_,rfl⟩
  ·exact⟨_,_,rfl,this⟩
  ·exact⟨_,_,rfl,this⟩
 ·by_cases c:n=0
  ·subst c;exact⟨_,_,rfl,k h (by simpa[eW]using t) (Fr.refl w) rfl⟩
  ·obtain⟨h',e1,o1,f1,n1⟩:=lG w ow (vW n h1) (bE C o (bu z n) (by rw[eJ,hz];exact d.1));refine⟨_,h',?_,k h' ⟨ht,?_⟩ f1 n1⟩
   ·simp only[ef c,cond_false,e1,Option.map_some]
   ·obtain⟨hl,⟨rfl,rfl⟩|⟨rfl,_⟩⟩:=t
    ·exact .inl ⟨rfl,rfl⟩
    ·rw[eJ,hz]at o1;exact .inr ⟨rfl,o1⟩
abbrev Z4:List V:=[.int .u64 0,.int .u8 0,.str [],.nils]
def NoI(l:List V):Prop:=∀x∈l,∀n:Int,x≠.int .i64 n
theorem NoI.sub{a b:List V}(h:NoI b)(s:∀x∈a,x∈b):NoI a:=fun x m=>h x (s x m)
theorem NoI.app{a b:List V}(h:NoI a)(g:NoI b):NoI (a++b):=fun x m=>(List.mem_append.1 m).elim (h x) (g x)
structure GpT(h:Heap)(b B:Nat)(v:V)(c1 G c2:List V)(a g m:Nat):Prop where
 ob:Own h b [v,.int .i64 (a:Int),.int .i64 (g:Int)]
 tb:TbC 4 h v B (c1++G++c2) (a+g+m)
 l1:c1.length=a*4
 lg:G.length=g*4
 l2:c2.length=m*4
 o1:aq c1=true
 o2:aq c2=true
 ne:B≠b
 nb:a+g+m≤8208
 am:a+m≤4096
 n6:NoI (c1++G++c2)
def Gp(h:Heap)(b B:Nat)(n:Nat)(l:List V):Prop:=∃v c1 G c2 a g m,GpT h b B v c1 G c2 a g m∧l=c1++c2∧n=a+m
variable {h : Heap} {b B : Nat} {v : V} {c1 G c2 : List V} {a g m : Nat}
theorem GpT.fr{h':Heap}(k:GpT h b B v c1 G c2 a g m){S:List Nat}(f:Fr S h h')(hb:b∉S)(hB:B∉S):GpT h' b B v c1 G c2 a g m:=
 ⟨f.own _ _ hb k.ob,k.tb.fr f hB,k.l1,k.lg,k.l2,k.o1,k.o2,k.ne,k.nb,k.am,k.n6⟩
theorem Gp.fr{h':Heap}{n:Nat}{l:List V}(k:Gp h b B n l){S:List Nat}(f:Fr S h h')(hb:b∉S)(hB:B∉S):Gp h' b B n l:=by
 obtain⟨v,c1,G,c2,a,g,m,k,e⟩:=k;exact⟨v,c1,G,c2,a,g,m,k.fr f hb hB,e⟩
theorem Gp.len{n:Nat}{l:List V}(k:Gp h b B n l):l.length=n*4∧n≤4096∧aq l=true:=by
 obtain⟨v,c1,G,c2,a,g,m,k,rfl,rfl⟩:=k;have:=k.l1;have:=k.l2;have:=k.am;exact⟨by simp;omega,by omega,by rw[aM,k.o1,k.o2];rfl⟩
theorem dk(k:GpT h b B v c1 G c2 a g m):ao go 52 [.ptr b 0] h fun u h'=>u=.int .i64 ((a+m:Nat):Int)∧h=h':=by
 have l0:=k.ob.ld1 0;have l2:=k.ob.ld1 2;have nb:=k.nb;simp only[bv,bT]at l0 l2;refine ah rfl rfl ?_;simp(disch:=omega) only[fn52,evs,seval,DF,eff,ai,l0,l2,k.tb.len];congr 1;omega
def sA(n:Nat)(at' k:Int):Int:=if at'<0∨k<0∨(n:Int)<at'∨(n:Int)-at'<k then 4 else 0
theorem ga(k:GpT h b B v c1 G c2 a g m)(i n:Int):ao go 137 [.ptr b 0,.int .i64 i,.int .i64 n] h fun u h'=>u=.int .i64 (sA (a+m) i n)∧h=h':=by
 unfold sA;by_cases x1:i<0
 ·refine ah rfl rfl ?_;simp only[fn137,evs,seval,x1];simp
 by_cases x2:n<0
 ·refine ah rfl rfl ?_;simp only[fn137,evs,seval,x1,x2];simp
 have am:=k.am;by_cases x3:((a+m:Nat):Int)<i
 ·refine ah rfl rfl ?_;simp only[fn137,evs,seval,x1,x2];refine aa (dk k) ?_;rintro _ _ ⟨rfl,rfl⟩;simp only[evs,seval,x3];simp
 by_cases x4:((a+m:Nat):Int)-i<n
 ·refine ah rfl rfl ?_;simp only[fn137,evs,seval,x1,x2];refine aa (dk k) ?_;rintro _ _ ⟨rfl,rfl⟩;simp only[evs,seval,x3];refine aa (dk k) ?_;rintro _ _ ⟨rfl,rfl⟩;simp(disch:=omega) only[evs,seval,ai,x4];simp
 ·refine ah rfl rfl ?_;simp only[fn137,evs,seval,x1,x2];refine aa (dk k) ?_;rintro _ _ ⟨rfl,rfl⟩;simp only[evs,seval,x3];refine aa (dk k) ?_;rintro _ _ ⟨rfl,rfl⟩;simp(disch:=omega) only[evs,seval,ai,x4];simp
theorem AE(k:GpT h b B v c1 G c2 a g m)(i:Nat)(hi:i≤4096):ao go 138 [.ptr b 0,.int .i64 (i:Int)] h fun u h'=>u=.int .i64 ((if a≤i then i+g else i:Nat):Int)∧h=h':=by
 have l1:=k.ob.ld1 1;have l2:=k.ob.ld1 2;have nb:=k.nb;simp only[bv,bT]at l1 l2;by_cases c:a≤i
 ·refine ah rfl rfl ?_;simp(disch:=omega) only[fn138,evs,seval,ai,l1,l2,show(a:Int)≤(i:Int) by omega];rw[if_pos c];simp
 ·refine ah rfl rfl ?_;simp only[fn138,evs,seval,l1,show¬(a:Int)≤(i:Int) by omega];rw[if_neg c]
theorem Do{n i:Nat}(h:i<n):sA n i 1=0:=by unfold sA;rw[if_neg];omega
theorem A8{n:Nat}{i:Int}(h:¬(0≤i∧i<n)):sA n i 1=4:=by unfold sA;rw[if_pos];omega
theorem E4{α:Type}(c1 G c2:List α)(a g i k:Nat)(l1:c1.length=a*k)(lg:G.length=g*k):
 ((c1++G++c2).drop ((if a≤i then i+g else i) *k)).take k=((c1++c2).drop (i*k)).take k:=by
 by_cases c:a≤i
 ·rw[if_pos c];obtain⟨j,rfl⟩:∃j,i=a+j:=⟨i-a,by omega⟩;have e1:(a+j+g) *k=(c1++G).length+j*k:=by rw[List.length_append,l1,lg,Nat.add_mul,Nat.add_mul];omega
  have e2:(a+j) *k=c1.length+j*k:=by rw[l1,Nat.add_mul]
  rw[e1,e2,List.drop_length_add_append,List.drop_length_add_append]
 ·rw[if_neg c];have e:i*k+k≤c1.length:=by rw[l1,←Nat.succ_mul];exact Nat.mul_le_mul_right _ (by omega)
  rw[List.append_assoc,List.drop_append_of_le_length (by omega),List.take_append_of_le_length (by simp;omega),List.drop_append_of_le_length (by omega),List.take_append_of_le_length (by simp;omega)]
theorem GpT.at'(k:GpT h b B v c1 G c2 a g m){i:Nat}(hi:i<a+m):
 aP (.ixs 4) [v,.int .i64 ((if a≤i then i+g else i:Nat):Int)]=some (.ptr B ((if a≤i then i+g else i) *4))∧ak h B ((if a≤i then i+g else i) *4) 4=some (((c1++c2).drop (i*4)).take 4):=by
 have hp:(if a≤i then i+g else i)<a+g+m:=by split<;>omega
 obtain⟨hl,⟨rfl,z⟩|⟨rfl,o⟩⟩:=k.tb
 ·omega
 ·refine⟨?_,?_⟩
  ·rw[fC _ _ _ _ _ _ _ (by omega) (by omega)];simp
  ·rw[o.ld,bq,aU,E4 c1 G c2 a g i 4 k.l1 k.lg];simp only[List.length_drop,hl];omega
theorem Hp{l:List V}{n i:Nat}(hl:l.length=n*4)(hi:i<n)(ho:aq l=true):∃x y z u,(l.drop (i*4)).take 4=[x,y,z,u]∧aq [x,y,z,u]=true:=by
 have e:((l.drop (i*4)).take 4).length=4:=by simp;omega
 have ho':=dZ 4 (dI (i*4) ho);match q:(l.drop (i*4)).take 4,e with
 |[x,y,z,u],_=>exact⟨x,y,z,u,rfl,by rw[q]at ho';exact ho'⟩
theorem GpT.tot(k:GpT h b B v c1 G c2 a g m):(c1++c2).length=(a+m) *4∧aq (c1++c2)=true:=by
 have:=k.l1;have:=k.l2;exact⟨by simp;omega,by rw[aM,k.o1,k.o2];rfl⟩
theorem Bc(w:WF h)(k:GpT h b B v c1 G c2 a g m){i:Nat}(hi:i<a+m):ao go 70 [.ptr b 0,.int .i64 (i:Int)] h fun u h'=>Fr [] h h'∧u=.tup [.agg (((c1++c2).drop (i*4)).take 4),.int .i64 0]:=by
 have am:=k.am;obtain⟨x,y,z,u,ec,eo⟩:=Hp k.tot.1 hi k.tot.2;obtain⟨h1,e_h1⟩:∃h1,h1=halloc h [.int .u64 0,.int .u8 0,.str [],.nils]:=⟨_,rfl⟩;have F_h1:Fr [] h h1:=e_h1▸Fr.halloc w _;have o_h1:Own h1 h.next [.int .u64 0,.int .u8 0,.str [],.nils]:=e_h1▸Own.new w _;have k1:=k.fr F_h1 (by simp) (by simp);refine ah rfl rfl ?_;simp only[fn70,evs,seval,←e_h1];refine aa (ga k1 i 1) ?_;rintro _ _ ⟨rfl,rfl⟩;simp only[evs,seval,eff,Do hi];have l0:=k1.ob.ld1 0;simp only[bv]at l0;have nh:h.next≠b:=by have:=k.ob.lt w;omega
 simp only[evs,seval,eff,l0];refine aa (AE k1 i (by omega)) ?_;rintro _ _ ⟨rfl,rfl⟩;have⟨a1,a2⟩:=k1.at' hi;rw[ec]at a2;simp only[evs,seval,eff,a1,a2];refine ab F_h1.wf o_h1 rfl eo rfl ?_;rintro h2 o2 F2 n2;have l0':ag h2 b 0=some v:=(F2.own b _ (by simp;omega) k1.ob).ld1 0;have a2':ak h2 B ((if a≤i then i+g else i) *4) 4=some [x,y,z,u]:=by
  obtain⟨hl,⟨rfl,z⟩|⟨rfl,o⟩⟩:=k1.tb
  ·omega
  ·have ne:B≠h.next:=by
    obtain⟨_,⟨q,_⟩|⟨_,q⟩⟩:=k.tb
    ·cases q
    ·have:=q.lt w;omega
   have o':=F2.own B _ (by simpa using ne) o;rw[o.ld]at a2;rw[o'.ld];exact a2
 simp only[evs,seval,DF,eff,l0,a2,o2.ld];exact⟨F_h1.fresh F2 w (Nat.le_refl _),by rw[ec]⟩
end Go.Ev.Lay
