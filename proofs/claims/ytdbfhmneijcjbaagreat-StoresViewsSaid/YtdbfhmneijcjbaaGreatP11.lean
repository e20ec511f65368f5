/- An evaluator of the program, and contracts over it: StbA to StbP. -/
import Derived.Test.YtdbfhmneijcjbaaGreatP10
set_option linter.unusedSimpArgs false
set_option linter.unusedVariables false
set_option linter.constructorNameAsVariable false
set_option linter.unnecessarySimpa false
namespace Go.Ev.Lay
open Go.Ev.St
set_option maxRecDepth 4000
theorem kV{z:Str}{i:Nat}(hi:i<z.length)(p:Int→Bool):dK p (z.drop i)=(p ((z[i]).toNat:Int)||dK p (z.drop (i+1))):=by
 unfold dK;rw[List.drop_eq_getElem_cons hi,List.any_cons]
theorem mT{z:Str}{i:Nat}(hi:z.length≤i)(p:Int→Bool):dK p (z.drop i)=false:=by
 rw[List.drop_of_length_le hi];rfl
def iu(b:Bool):Int:=if b then 1 else 0
theorem iS{h:Heap}{z:Str}:ao go 183 [.str z] h fun u h'=>u=.int .i64 (iu (okT z))∧h=h':=by
 by_cases c1:(64:Int)<(z.length:Nat)
 ·refine ah rfl rfl ?_;simp only[fn183,evs,seval,aE,eq_true c1];have:okT z=false:=by unfold okT;rw[decide_eq_false (by omega)];rfl
  rw[this];rfl
 refine ah rfl rfl ?_;simp only[fn183,evs,seval,aE,eq_false c1];refine aC (fun k env hh=>hh=h∧∃(i:Nat),env.get 3=some (.int .i64 i)∧env.get 0=some (.str z)∧i≤z.length∧dK fF (z.drop i)=dK fF z∧k=z.length-i) z.length (by omega) ?_ ?_
 ·exact⟨rfl,0,(by simp),(by simp),by omega,rfl,rfl⟩
 ·rintro k env hh ⟨rfl,i,g3,g0,hi,e,rfl⟩;by_cases hlt:i<z.length
  ·have hlt':(i:Int)<z.length:=by omega
   rw[kV hlt]at e;by_cases c2:((z[i]).toNat:Int)<32
   ·simp only[evs,seval,g3,g0,aE,hlt',bD hlt,eq_true c2];have:okT z=false:=by unfold okT;rw[←e];simp[fF,c2]
    rw[this];rfl
   by_cases c3:(126:Int)<((z[i]).toNat:Int)
   ·simp only[evs,seval,g3,g0,aE,hlt',bD hlt,eq_false c2,eq_true c3];have:okT z=false:=by unfold okT;rw[←e];simp[fF,c3]
    rw[this];rfl
   simp(disch:=omega) only[evs,seval,ai,g3,g0,aE,hlt',bD hlt,eq_false c2,eq_false c3];have b0:fF ((z[i]).toNat:Int)=false:=by simp only[fF,Bool.or_eq_false_iff,decide_eq_false_iff_not];exact⟨c2,c3⟩
   rw[b0,Bool.false_or]at e;refine(aj _ _ _).2 ⟨z.length-(i+1),by omega,rfl,i+1,(by simp),(by simp[g0]),by omega,e,rfl⟩
  ·simp only[evs,seval,g3,g0,aE,show¬(i:Int)<z.length by omega];rw[mT (by omega)]at e;have:okT z=true:=by unfold okT;rw[←e,decide_eq_true (by omega)];rfl
   rw[this];rfl
theorem io{h:Heap}{z:Str}:ao go 238 [.str z] h fun u h'=>u=.bool (okT z)∧h=h':=by
 by_cases c1:(64:Int)<(z.length:Nat)
 ·refine ah rfl rfl ?_;simp only[fn238,evs,seval,aE,eq_true c1];have:okT z=false:=by unfold okT;rw[decide_eq_false (by omega)];rfl
  rw[this]
 refine ah rfl rfl ?_;simp only[fn238,evs,seval,aE,eq_false c1];refine aC (fun k env hh=>hh=h∧∃(i:Nat),env.get 3=some (.int .i64 i)∧env.get 0=some (.str z)∧i≤z.length∧dK fF (z.drop i)=dK fF z∧k=z.length-i) z.length (by omega) ?_ ?_
 ·exact⟨rfl,0,(by simp),(by simp),by omega,rfl,rfl⟩
 ·rintro k env hh ⟨rfl,i,g3,g0,hi,e,rfl⟩;by_cases hlt:i<z.length
  ·have hlt':(i:Int)<z.length:=by omega
   rw[kV hlt]at e;by_cases c2:((z[i]).toNat:Int)<32
   ·simp only[evs,seval,g3,g0,aE,hlt',bD hlt,eq_true c2];have:okT z=false:=by unfold okT;rw[←e];simp[fF,c2]
    rw[this]
   by_cases c3:(126:Int)<((z[i]).toNat:Int)
   ·simp only[evs,seval,g3,g0,aE,hlt',bD hlt,eq_false c2,eq_true c3];have:okT z=false:=by unfold okT;rw[←e];simp[fF,c3]
    rw[this]
   simp(disch:=omega) only[evs,seval,ai,g3,g0,aE,hlt',bD hlt,eq_false c2,eq_false c3];have b0:fF ((z[i]).toNat:Int)=false:=by simp only[fF,Bool.or_eq_false_iff,decide_eq_false_iff_not];exact⟨c2,c3⟩
   rw[b0,Bool.false_or]at e;refine(aj _ _ _).2 ⟨z.length-(i+1),by omega,rfl,i+1,(by simp),(by simp[g0]),by omega,e,rfl⟩
  ·simp only[evs,seval,g3,g0,aE,show¬(i:Int)<z.length by omega];rw[mT (by omega)]at e;have:okT z=true:=by unfold okT;rw[←e,decide_eq_true (by omega)];rfl
   rw[this]
theorem AN{h:Heap}{z:Str}:ao go 184 [.str z] h fun u h'=>u=.int .i64 (iu (okN z))∧h=h':=by
 by_cases c0:(z.length:Int)<1
 ·refine ah rfl rfl ?_;simp only[fn184,evs,seval,aE,eq_true c0];have:okN z=false:=by unfold okN;rw[decide_eq_false (by omega)];rfl
  rw[this];rfl
 by_cases c1:(16:Int)<(z.length:Nat)
 ·refine ah rfl rfl ?_;simp only[fn184,evs,seval,aE,eq_false c0,eq_true c1];have:okN z=false:=by unfold okN;rw[decide_eq_false (show¬z.length≤16 by omega)];simp
  rw[this];rfl
 refine ah rfl rfl ?_;simp only[fn184,evs,seval,aE,eq_false c0,eq_false c1];refine aC (fun k env hh=>hh=h∧∃(i:Nat),env.get 3=some (.int .i64 i)∧env.get 0=some (.str z)∧i≤z.length∧dK cD (z.drop i)=dK cD z∧k=z.length-i) z.length (by omega) ?_ ?_
 ·exact⟨rfl,0,(by simp),(by simp),by omega,rfl,rfl⟩
 ·rintro k env hh ⟨rfl,i,g3,g0,hi,e,rfl⟩;by_cases hlt:i<z.length
  ·have hlt':(i:Int)<z.length:=by omega
   rw[kV hlt]at e;have bad:cD ((z[i]).toNat:Int)=true→okN z=false:=fun q=>by unfold okN;rw[←e,q];simp
   have good:cD ((z[i]).toNat:Int)=false→dK cD (z.drop (i+1))=dK cD z:=fun q=>by rw[←e,q];rfl
   by_cases c1:(97:Int)≤((z[i]).toNat:Int)
   ·by_cases c2:((z[i]).toNat:Int)≤122
    ·simp(disch:=omega) only[evs,seval,ai,g3,g0,aE,hlt',bD hlt,eq_true c1,eq_true c2];refine(aj _ _ _).2 ⟨z.length-(i+1),by omega,rfl,i+1,(by simp),(by simp[g0]),by omega,good (by simp[cD];omega),rfl⟩
    ·by_cases c3:(48:Int)≤((z[i]).toNat:Int)
     ·have c4:¬((z[i]).toNat:Int)≤57:=by omega
      simp only[evs,seval,g3,g0,aE,hlt',bD hlt,eq_true c1,eq_false c2,eq_true c3,eq_false c4];rw[bad (by simp[cD];omega)];rfl
     ·omega
   ·by_cases c3:(48:Int)≤((z[i]).toNat:Int)
    ·by_cases c4:((z[i]).toNat:Int)≤57
     ·simp(disch:=omega) only[evs,seval,ai,g3,g0,aE,hlt',bD hlt,eq_false c1,eq_true c3,eq_true c4];refine(aj _ _ _).2 ⟨z.length-(i+1),by omega,rfl,i+1,(by simp),(by simp[g0]),by omega,good (by simp[cD];omega),rfl⟩
     ·simp only[evs,seval,g3,g0,aE,hlt',bD hlt,eq_false c1,eq_true c3,eq_false c4];rw[bad (by simp[cD];omega)];rfl
    ·simp only[evs,seval,g3,g0,aE,hlt',bD hlt,eq_false c1,eq_false c3];rw[bad (by simp[cD];omega)];rfl
  ·simp only[evs,seval,g3,g0,aE,show¬(i:Int)<z.length by omega];rw[mT (by omega)]at e;have:okN z=true:=by unfold okN;rw[←e,decide_eq_true (by omega),decide_eq_true (show z.length≤16 by omega)];rfl
   rw[this];rfl
theorem dL{h:Heap}{z:Str}:ao go 239 [.str z] h fun u h'=>u=.bool (okN z)∧h=h':=by
 refine ah rfl rfl ?_;simp only[fn239,evs];refine aC (fun k env hh=>hh=h∧∃(i:Nat),env.get 3=some (.int .i64 i)∧env.get 0=some (.str z)∧i≤z.length∧i≤17∧dK cD (z.drop i)=dK cD z∧k=17-i) 17 (by omega) ?_ ?_
 ·exact⟨rfl,0,(by simp),(by simp),by omega,by omega,rfl,rfl⟩
 ·rintro k env hh ⟨rfl,i,g3,g0,hi,h17,e,rfl⟩;by_cases hlt:i<z.length
  ·have hlt':(i:Int)<z.length:=by omega
   by_cases c17:(i:Int)<17
   ·rw[kV hlt]at e;have bad:cD ((z[i]).toNat:Int)=true→okN z=false:=fun q=>by unfold okN;rw[←e,q];simp
    have good:cD ((z[i]).toNat:Int)=false→dK cD (z.drop (i+1))=dK cD z:=fun q=>by rw[←e,q];rfl
    by_cases c1:((z[i]).toNat:Int)<97
    ·by_cases c3:((z[i]).toNat:Int)<48
     ·simp only[evs,seval,g3,g0,aE,hlt',bD hlt,eq_true c1,eq_true c3,eq_true c17];rw[bad (by simp[cD];omega)]
     ·by_cases c4:(57:Int)<((z[i]).toNat:Int)
      ·simp only[evs,seval,g3,g0,aE,hlt',bD hlt,eq_true c1,eq_false c3,eq_true c4,eq_true c17];rw[bad (by simp[cD];omega)]
      ·simp(disch:=omega) only[evs,seval,ai,g3,g0,aE,hlt',bD hlt,eq_true c1,eq_false c3,eq_false c4,eq_true c17];refine(aj _ _ _).2 ⟨17-(i+1),by omega,rfl,i+1,(by simp),(by simp[g0]),by omega,by omega,good (by simp[cD];omega),rfl⟩
    ·by_cases c2:(122:Int)<((z[i]).toNat:Int)
     ·have c3:¬((z[i]).toNat:Int)<48:=by omega
      have c4:(57:Int)<((z[i]).toNat:Int):=by omega
      simp only[evs,seval,g3,g0,aE,hlt',bD hlt,eq_false c1,eq_true c2,eq_false c3,eq_true c4,eq_true c17];rw[bad (by simp[cD];omega)]
     ·simp(disch:=omega) only[evs,seval,ai,g3,g0,aE,hlt',bD hlt,eq_false c1,eq_false c2,eq_true c17];refine(aj _ _ _).2 ⟨17-(i+1),by omega,rfl,i+1,(by simp),(by simp[g0]),by omega,by omega,good (by simp[cD];omega),rfl⟩
   ·simp only[evs,seval,g3,g0,aE,hlt',eq_false c17,show(1:Int)≤(z.length:Nat) by omega,show¬((z.length:Nat):Int)≤16 by omega];have:okN z=false:=by unfold okN;rw[decide_eq_false (show¬z.length≤16 by omega)];simp
    rw[this]
  ·rw[mT (by omega)]at e;by_cases c0:(1:Int)≤(z.length:Nat)
   ·have e2:okN z=decide (((z.length:Nat):Int)≤16):=by
     unfold okN;rw[←e,decide_eq_true (by omega)];have:decide (z.length≤16)=decide (((z.length:Nat):Int)≤16):=by rw[decide_eq_decide];omega
     rw[this];simp
    by_cases c1:((z.length:Nat):Int)≤16
    ·simp only[evs,seval,g3,g0,aE,show¬(i:Int)<z.length by omega,eq_true c0,eq_true c1];rw[e2,decide_eq_true c1]
    ·simp only[evs,seval,g3,g0,aE,show¬(i:Int)<z.length by omega,eq_true c0,eq_false c1];rw[e2,decide_eq_false c1]
   ·simp only[evs,seval,g3,g0,aE,show¬(i:Int)<z.length by omega,eq_false c0];have:okN z=false:=by unfold okN;rw[decide_eq_false (by omega)];rfl
    rw[this]
theorem Bv:∀d,d<10→aP (.slstr true true) [.str [48,49,50,51,52,53,54,55,56,57],.int .u64 (d:Nat),.int .u64 ((d:Nat)+1)]=some (.str [UInt8.ofNat (48+d)]):=by
 intro d hd;match d,hd with
 |0,_=>rfl
 |1,_=>rfl
 |2,_=>rfl
 |3,_=>rfl
 |4,_=>rfl
 |5,_=>rfl
 |6,_=>rfl
 |7,_=>rfl
 |8,_=>rfl
 |9,_=>rfl
theorem BS(a b:Str)(h:a.length+b.length<9223372036854775808):aP (.sb .add) [.str a,.str b]=some (.str (a++b)):=by
 simp only[aP,lh,(Nat.blt_eq ..).mpr h,cond_true]
theorem xD:∀(k n:Nat),n<10^(k+1)→(dec n).length≤k+1
 |k,n,h=>by
  by_cases c:n<10
  ·rw[sI c];simp
  ·match k,h with
   |0,h=>omega
   |k+1,h=>
    rw[ww c,List.length_append];have:=xD k (n/10) (by rw[Nat.pow_succ]at h;omega);simp only[List.length_cons,List.length_nil];omega
theorem qG{n:Nat}(h:n<18446744073709551616):(dec n).length≤20:=xD 19 n (by omega)
theorem kN{h:Heap}:∀(k n:Nat),n<k→n<18446744073709551616→ao go 240 [.int .u64 (n:Int)] h fun u h'=>u=.str (dec n)∧h=h'
 |0,_,hk,_=>by omega
 |k+1,n,hk,hn=>by
  by_cases c:n<10
  ·have c':(n:Int)<10:=by omega
   have f1:bC .u64 ((n:Int)+1)=(n:Int)+1:=cP _ (by omega) (by omega);refine ah rfl rfl ?_;simp only[fn240,evs,seval,eq_true c',f1,Bv n c];rw[sI c]
  ·have c':¬(n:Int)<10:=by omega
   have r1:aP (.ib .rem) [.int .u64 (n:Int),.int .u64 10]=some (.int .u64 ((n%10:Nat):Int)):=by rw[ke _ _ _ (by decide)];rfl
   have r2:aP (.ib .quo) [.int .u64 (n:Int),.int .u64 10]=some (.int .u64 ((n/10:Nat):Int)):=by
    rw[lT _ _ _ (by decide),show((n:Int)).tdiv 10=((n/10:Nat):Int)from rfl,cP _ (by omega) (by omega)]
   refine ah rfl rfl ?_;simp only[fn240,evs,seval,eq_false c',r2];refine aa (kN k (n/10) (by omega) (by omega)) ?_;rintro _ _ ⟨rfl,rfl⟩;simp only[evs,seval,r1];refine aa (kN k (n%10) (by omega) (by omega)) ?_;rintro _ _ ⟨rfl,rfl⟩;have q1:=qG (n:=n/10) (by omega);have q2:=qG (n:=n%10) (by omega);simp only[evs,seval,BS _ _ (show(dec (n/10)).length+(dec (n%10)).length<9223372036854775808 by omega)];rw[ww c,sI (Nat.mod_lt n (by decide))]
theorem my{h:Heap}{x:Itm}(w:WF h)(a:ItmH h x):ao go 186 [.agg x.cells] h fun u h'=>u=.int .i64 (if fM x then 0 else 6)∧Fr [] h h':=by
 obtain⟨h1,e_h1⟩:∃h1,h1=halloc h x.cells:=⟨_,rfl⟩;have F_h1:Fr [] h h1:=e_h1▸Fr.halloc w _;have o_h1:Own h1 h.next x.cells:=e_h1▸Own.new w _;have l0:ag h1 h.next 0=some (.int .u64 (x.key:Int)):=o_h1.ld1 0;have l2:ag h1 h.next 2=some (.str x.text):=o_h1.ld1 2;have l3:ag h1 h.next 3=some x.vm:=o_h1.ld1 3;have am:=a.m.fr F_h1;by_cases c0:(x.key:Int)=0
 ·refine ah rfl rfl ?_;simp only[fn186,evs,seval,←e_h1,l0,eq_true c0];exact⟨by simp[fM,show x.key=0 by omega],F_h1⟩
 refine ah rfl rfl ?_;simp only[fn186,evs,seval,←e_h1,l0,eq_false c0,l2];refine aa io ?_;rintro _ _ ⟨rfl,rfl⟩;cases c2:okT x.text
 ·simp only[evs,seval];exact⟨by simp[fM,c2],F_h1⟩
 by_cases c3:(8:Int)<(x.marks.length:Nat)
 ·simp only[evs,seval,l3,am.len,eq_true c3];exact⟨by simp[fM,okM,show¬x.marks.length≤8 by omega],F_h1⟩
 simp only[evs,seval,l3,am.len,eq_false c3];refine aC (fun k env hh=>hh=h1∧∃(i:Nat),env.get 3=some (.int .i64 i)∧env.get 1=some (.ptr h.next 0)∧i≤x.marks.length∧(x.marks.drop i).all okN=x.marks.all okN∧k=x.marks.length-i) x.marks.length (by omega) ?_ ?_
 ·exact⟨rfl,0,(by simp),(by simp),by omega,rfl,rfl⟩
 ·rintro k env hh ⟨rfl,i,g3,g1,hi,e,rfl⟩;by_cases hlt:i<x.marks.length
  ·have hlt':(i:Int)<x.marks.length:=by omega
   obtain⟨b,o,s,e1,e2,_,e5⟩:=am.ix dW .i64 i (by omega) hlt';have e4:ag hh b o=some (.str s):=e2 0 (by omega);rw[Int.toNat_natCast]at e5;rw[aJ e5,List.all_cons]at e;simp only[evs,seval,g3,g1,l3,am.len,hlt',e1,e4];refine aa dL ?_;rintro _ _ ⟨rfl,rfl⟩;cases c:okN s
   ·simp only[evs,seval];rw[c]at e;have e':x.marks.all okN=false:=by rw[←e];rfl
    exact⟨by simp[fM,okM,e'],F_h1⟩
   ·simp(disch:=omega) only[evs,seval,ai,g3];rw[c]at e;refine(aj _ _ _).2 ⟨x.marks.length-(i+1),by omega,rfl,i+1,(by simp),(by simp[g1]),by omega,by simpa using e,rfl⟩
  ·simp only[evs,seval,g3,g1,l3,am.len,show¬(i:Int)<x.marks.length by omega];rw[List.drop_of_length_le (by omega)]at e;have e':x.marks.all okN=true:=by rw[←e];rfl
   exact⟨by simp[fM,okM,e',c2,show x.key≠0 by omega,show x.marks.length≤8 by omega],F_h1⟩
theorem Bi{h:Heap}{v:V}{X:List Itm}{key:Nat}(a:Recs Itm.cells 4 h v X)(hn:X.length≤4096):
 ao go 113 [v,.int .u64 (key:Int)] h fun u h'=>h=h'∧∃r:Int,u=.int .i64 r∧(0≤r↔∃x∈X,x.key=key):=by
 refine ah rfl rfl ?_;simp only[fn113,evs,seval];refine aC (fun k env hh=>hh=h∧∃(i:Nat),env.get 5=some (.int .i64 i)∧env.get 0=some v∧env.get 1=some (.int .u64 (key:Int))∧i≤X.length∧(∀x∈X.take i,x.key≠key)∧k=X.length-i) X.length (by omega) ?_ ?_
 ·exact⟨rfl,0,(by simp),(by simp),(by simp),by omega,by simp,rfl⟩
 ·rintro k env hh ⟨rfl,i,g5,g0,g1,hi,e,rfl⟩;by_cases hlt:i<X.length
  ·have hlt':(i:Int)<X.length:=by omega
   obtain⟨b,o,x,e1,e2,_,e5⟩:=Recs.ix (f:=Itm.cells) (k:=4) (fun _=>rfl) a .i64 i (by omega) hlt';have e4:ag hh b o=some (.int .u64 (x.key:Int)):=e2 0 (by omega);rw[Int.toNat_natCast]at e5;by_cases c:x.key=key
   ·simp only[evs,seval,g5,g0,g1,a.len,hlt',e1,e4,c];exact⟨(i:Int),rfl,fun _=>⟨x,List.mem_of_getElem? e5,c⟩,fun _=>by omega⟩
   ·have c':¬(x.key:Int)=(key:Int):=by omega
    simp(disch:=omega) only[evs,seval,ai,g5,g0,g1,a.len,hlt',e1,e4,eq_false c'];refine(aj _ _ _).2 ⟨X.length-(i+1),by omega,rfl,i+1,(by simp),(by simp[g0]),(by simp[g1]),by omega,?_,rfl⟩;rw[List.take_add_one,e5];intro y m;rcases List.mem_append.1 m with m|m
    ·exact e y m
    ·simp at m;subst m;exact c
  ·simp only[evs,seval,g5,g0,a.len,show¬(i:Int)<X.length by omega];rw[List.take_of_length_le (by omega)]at e;exact⟨-1,rfl,fun q=>by omega,fun⟨x,m,q⟩=>absurd q (e x m)⟩
theorem AK(a b:Bool):iu a*iu b=iu (a&&b):=by cases a<;>cases b<;>rfl
theorem fJ{h:Heap}{x:Itm}{env:T V}{b0:Bool}{bb:Nat}{R:V→Heap→Prop}(w:WF h)(o:Own h bb x.cells)(a:ItmH h x)(g2:env.get 2=some (.ptr bb 0))(g5:env.get 5=some (.int .i64 (iu b0)))
 (k:∀h',h=h'→R (.int .i64 (if(b0&&x.marks.all okN)then 0 else 6)) h'):
 W go ckR env h (gA [.t 4] R):=by
 have l3:ag h bb 3=some x.vm:=o.ld1 3;have am:=a.m;have an:=a.n;simp only[evs,ckR];refine aC (fun k env hh=>hh=h∧∃(i:Nat)(c:Bool),env.get 6=some (.int .i64 i)∧env.get 2=some (.ptr bb 0)∧env.get 5=some (.int .i64 (iu c))∧i≤x.marks.length∧(c&&(x.marks.drop i).all okN)=(b0&&x.marks.all okN)∧k=x.marks.length-i) x.marks.length (by omega) ?_ ?_
 ·exact⟨rfl,0,b0,(by simp),(by simp[g2]),(by simp[g5]),by omega,rfl,rfl⟩
 ·rintro k' env hh ⟨rfl,i,c,g6,g2,g5,hi,e,rfl⟩;by_cases hlt:i<x.marks.length
  ·have hlt':(i:Int)<x.marks.length:=by omega
   obtain⟨b,o,s,e1,e2,_,e5⟩:=am.ix dW .i64 i (by omega) hlt';have e4:ag hh b o=some (.str s):=e2 0 (by omega);rw[Int.toNat_natCast]at e5;rw[aJ e5,List.all_cons]at e;simp only[evs,seval,g6,g2,g5,l3,am.len,hlt',e1,e4];refine aa AN ?_;rintro _ _ ⟨rfl,rfl⟩;have m1:bC .i64 (iu c*iu (okN s))=iu (c&&okN s):=by
    rw[AK,ai _ (by unfold iu;split<;>omega) (by unfold iu;split<;>omega)]
   simp(disch:=omega) only[evs,seval,ai,g6,m1];refine(aj _ _ _).2 ⟨x.marks.length-(i+1),by omega,rfl,i+1,c&&okN s,(by simp),(by simp[g2]),(by simp),by omega,by rw[←e,Bool.and_assoc],rfl⟩
  ·rw[List.drop_of_length_le (by omega)]at e;have e':c=(b0&&x.marks.all okN):=by rw[←e];simp
   cases c
   ·simp only[evs,seval,g6,g2,g5,l3,am.len,show¬(i:Int)<x.marks.length by omega,iu];rw[←e']at k;exact k _ rfl
   ·simp only[evs,seval,g6,g2,g5,l3,am.len,show¬(i:Int)<x.marks.length by omega,iu];rw[←e']at k;exact k _ rfl
theorem zw{h:Heap}{x:Itm}{types:Nat}(w:WF h)(a:ItmH h x)(ht:types<256):ao go 114 [.agg x.cells,.int .i64 (types:Int)] h fun u h'=>u=.int .i64 (if okI x types then 0 else 6)∧Fr [] h h':=by
 obtain⟨h1,e_h1⟩:∃h1,h1=halloc h x.cells:=⟨_,rfl⟩;have F_h1:Fr [] h h1:=e_h1▸Fr.halloc w _;have o_h1:Own h1 h.next x.cells:=e_h1▸Own.new w _;have l0:ag h1 h.next 0=some (.int .u64 (x.key:Int)):=o_h1.ld1 0;have l1:ag h1 h.next 1=some (.int .u8 (x.type:Int)):=o_h1.ld1 1;have l2:ag h1 h.next 2=some (.str x.text):=o_h1.ld1 2;have l3:ag h1 h.next 3=some x.vm:=o_h1.ld1 3;have a1:=a.fr F_h1;have at':=a.t;have bad:okI x types=false→∀h',h1=h'→(V.int .i64 (if(false&&x.marks.all okN)then 0 else 6)=V.int .i64 (if okI x types then 0 else 6)∧Fr [] h h'):=by
  rintro q _ rfl;rw[q];exact⟨rfl,F_h1⟩
 have cv:bC .i64 (x.type:Int)=(x.type:Int):=ai _ (by omega) (by omega);by_cases c0:(x.key:Int)=0
 ·refine ah rfl rfl ?_;simp only[evs,seval,fn114x,←e_h1,l2];refine aa iS ?_;rintro _ _ ⟨rfl,rfl⟩;simp only[evs,seval,l0,eq_true c0];exact fJ (b0:=false) F_h1.wf o_h1 a1 (by simp) (by simp[iu]) (bad (by simp[okI,show x.key=0 by omega]))
 by_cases c1:(types:Int)≤(x.type:Int)
 ·refine ah rfl rfl ?_;simp only[evs,seval,fn114x,←e_h1,l2];refine aa iS ?_;rintro _ _ ⟨rfl,rfl⟩;simp only[evs,seval,l0,l1,eq_false c0,cv,eq_true c1];exact fJ (b0:=false) F_h1.wf o_h1 a1 (by simp) (by simp[iu]) (bad (by simp[okI,show¬x.type<types by omega]))
 by_cases c2:(8:Int)<(x.marks.length:Nat)
 ·refine ah rfl rfl ?_;simp only[evs,seval,fn114x,←e_h1,l2];refine aa iS ?_;rintro _ _ ⟨rfl,rfl⟩;simp only[evs,seval,l0,l1,l3,a1.m.len,eq_false c0,cv,eq_false c1,eq_true c2];exact fJ (b0:=false) F_h1.wf o_h1 a1 (by simp) (by simp[iu]) (bad (by simp[okI,okM,show¬x.marks.length≤8 by omega]))
 refine ah rfl rfl ?_;simp only[evs,seval,fn114x,←e_h1,l2];refine aa iS ?_;rintro _ _ ⟨rfl,rfl⟩;simp only[evs,seval,l0,l1,l3,a1.m.len,eq_false c0,cv,eq_false c1,eq_false c2];refine fJ (b0:=okT x.text) F_h1.wf o_h1 a1 (by simp) (by simp) ?_;rintro _ rfl;have:(okT x.text&&x.marks.all okN)=okI x types:=by
  simp[okI,okM,show x.key≠0 by omega,show x.type<types by omega,show x.marks.length≤8 by omega]
 rw[this];exact⟨rfl,F_h1⟩
theorem ui:∀(a b:Str),(!Op.bytesLess b a)=leS a b
 |[],[]=>by simp[leS,Op.bytesLess]
 |[],y::b=>by simp[leS,Op.bytesLess]
 |x::a,[]=>by simp[leS,Op.bytesLess]
 |x::a,y::b=>by
  have ih:=ui a b;simp only[leS,Op.bytesLess]at ih⊢;have d1:decide (x<y)=decide (x.toNat<y.toNat):=rfl;have d2:decide (y<x)=decide (y.toNat<x.toNat):=rfl;rw[d1,d2];have e0:(x::a==y::b)=(x==y&&a==b):=rfl;rw[e0];rcases Nat.lt_trichotomy x.toNat y.toNat with q|q|q
  ·have n1:(y==x)=false:=by rw[beq_eq_false_iff_ne];rintro rfl;omega
   rw[decide_eq_true q,decide_eq_false (show¬y.toNat<x.toNat by omega),n1];rfl
  ·have:x=y:=UInt8.toNat_inj.1 q;subst this;simp only[Nat.lt_irrefl,decide_false,Bool.false_or,beq_self_eq_true,Bool.true_and];exact ih
  ·have n1:(x==y)=false:=by rw[beq_eq_false_iff_ne];rintro rfl;omega
   rw[decide_eq_true q,decide_eq_false (show¬x.toNat<y.toNat by omega),n1];rfl
theorem jv(a b:Str):aP (.sb .geq) [.str a,.str b]=some (.bool (leS b a)):=by
 rw[←ui];rfl
theorem li{h:Heap}{v:V}{l:List Slo}(w:WF h)(ra:Recs pC 3 h v l)(na:l.length≤4096):ao go 297 [v] h fun u h'=>u=.bool (bN l)∧Fr [] h h':=by
 by_cases c8:l.length≤8
 ·refine ah rfl rfl ?_;simp only[fn297,evs,seval,ra.len,show¬(8:Int)<(l.length:Nat) by omega];refine aC (fun n env hh=>Fr [] h hh∧∃(i:Nat),env.get 3=some (.int .i64 i)∧env.get 0=some v∧
   i≤l.length∧dG (cK l i) (l.drop i)=dG none l∧n=l.length-i) l.length (by omega) ?_ ?_
  ·exact⟨Fr.refl w,0,(by simp),(by simp),by omega,rfl,rfl⟩
  ·rintro n env hh ⟨F,i,g3,g0,hi,e,rfl⟩;by_cases hlt:i<l.length
   ·have hlt':(i:Int)<l.length:=by omega
    obtain⟨b',o',a,p1,p2,p3,p4⟩:=(ra.fr F).ix eG .i64 (i:Int) (by omega) hlt';rw[Int.toNat_natCast]at p4;rw[aJ p4,ip]at e;have en:=nM p4;have bad:∀{h'},Fr [] h h'→fD (cK l i) a=false→V.bool false=.bool (bN l)∧Fr [] h h':=fun f c=>by
     rw[c]at e;exact⟨by simp[bN,←e],f⟩
    have rl:=(ra.fr F).len;obtain⟨h1,e_h1⟩:∃h1,h1=halloc hh [.str [],.int .u8 0,.str []]:=⟨_,rfl⟩;have F_h1:Fr [] hh h1:=e_h1▸Fr.halloc F.wf _;have o_h1:Own h1 hh.next [.str [],.int .u8 0,.str []]:=e_h1▸Own.new F.wf _;simp only[evs,seval,g3,g0,rl,hlt',p1,p3,←e_h1];refine ab (c':=[.str a.1,.int .u8 (a.2.1:Int),.str a.2.2]) F_h1.wf o_h1 rfl rfl rfl ?_;rintro h2 o2 F2 n2;have F02:Fr [] hh h2:=F_h1.fresh F2 F.wf (Nat.le_refl _);have Fa:=F.then F02;have q0:ag h2 hh.next 0=some (.str a.1):=o2.ld1 0;have q1:ag h2 hh.next 1=some (.int .u8 (a.2.1:Int)):=o2.ld1 1;have q2:ag h2 hh.next 2=some (.str a.2.2):=o2.ld1 2;simp only[evs,seval,eff,q0];refine aa dL ?_;rintro _ _ ⟨rfl,rfl⟩;cases c1:okN a.1
    ·simp only[evs,seval,DF,eff,q0];exact bad Fa (by simp[fD,c1])
    by_cases c2:(3:Int)<(a.2.1:Nat)
    ·simp only[evs,seval,DF,eff,q0,q1,eq_true c2];exact bad Fa (by simp[fD];omega)
    simp only[evs,seval,eff,q1,eq_false c2,q2];refine aa io ?_;rintro _ _ ⟨rfl,rfl⟩;cases c3:okT a.2.2
    ·simp only[evs,seval,DF,eff,q0,q1,q2];exact bad Fa (by simp[fD,c3])
    have fin:(decide (a.2.1=0)||a.2.2==[])=true→bR (cK l i) a.1=true→dG (cK l (i+1)) (l.drop (i+1))=dG none l:=fun x y=>by
     have z:fD (cK l i) a=true:=by
      unfold fD;rw[c1,c3,x,y,show decide (a.2.1≤3)=true by simp;omega];rfl
     rw[z,Bool.true_and]at e;rw[en];exact e
    have step:(decide (a.2.1=0)||a.2.2==[])=false→fD (cK l i) a=false:=fun x=>by unfold fD;rw[x];simp
    have go1:(decide ((a.2.1:Int)=0)=true∨(a.2.2==[])=true)→(decide (a.2.1=0)||a.2.2==[])=true:=by
     intro q;rcases q with q|q
     ·simp at q;simp[q]
     ·simp[q]
    by_cases cf:(a.2.1:Int)=0
    ·by_cases c4:i=0
     ·simp(disch:=omega) only[evs,seval,DF,eff,ai,g3,q0,q1,q2,eq_true cf,show¬(0:Int)<(i:Int) by omega];refine(aj _ _ _).2 ⟨l.length-(i+1),by omega,Fa,i+1,(by simp),(by simp[g0]),by omega,fin (go1 (.inl (decide_eq_true cf))) (by simp[cK,c4,bR]),rfl⟩
     ·obtain⟨b2,o2',a2,t1,t2,t3,t4⟩:=(ra.fr Fa).ix eG .i64 ((i:Int)-1) (by omega) (by omega);have t4':l[i-1]? =some a2:=by rw[←t4];congr 1;omega
      have t2':ag h2 b2 o2'=some (.str a2.1):=t2 0 (by omega);have pe:cK l i=some a2.1:=by simp[cK,c4,t4']
      cases c5:leS a.1 a2.1
      ·simp(disch:=omega) only[evs,seval,DF,eff,ai,g3,g0,q0,q1,q2,eq_true cf,c5,t1,t2',jv,show(0:Int)<(i:Int) by omega];refine(aj _ _ _).2 ⟨l.length-(i+1),by omega,Fa,i+1,(by simp),(by simp[g0]),by omega,fin (go1 (.inl (decide_eq_true cf))) (by rw[pe];simp[bR,c5]),rfl⟩
      ·simp(disch:=omega) only[evs,seval,DF,eff,ai,g3,g0,q0,q1,q2,eq_true cf,c5,t1,t2',jv,show(0:Int)<(i:Int) by omega];exact bad Fa (by simp[fD,pe,bR,c5])
    ·have cf':¬a.2.1=0:=by omega
     cases cv:a.2.2==[]
     ·simp only[evs,seval,DF,eff,q0,q1,q2,eq_false cf,aS,cv];exact bad Fa (step (by simp[cf',cv]))
     ·by_cases c4:i=0
      ·simp(disch:=omega) only[evs,seval,DF,eff,ai,g3,q0,q1,q2,eq_false cf,aS,cv,show¬(0:Int)<(i:Int) by omega];refine(aj _ _ _).2 ⟨l.length-(i+1),by omega,Fa,i+1,(by simp),(by simp[g0]),by omega,fin (go1 (.inr cv)) (by simp[cK,c4,bR]),rfl⟩
      ·obtain⟨b2,o2',a2,t1,t2,t3,t4⟩:=(ra.fr Fa).ix eG .i64 ((i:Int)-1) (by omega) (by omega);have t4':l[i-1]? =some a2:=by rw[←t4];congr 1;omega
       have t2':ag h2 b2 o2'=some (.str a2.1):=t2 0 (by omega);have pe:cK l i=some a2.1:=by simp[cK,c4,t4']
       cases c5:leS a.1 a2.1
       ·simp(disch:=omega) only[evs,seval,DF,eff,ai,g3,g0,q0,q1,q2,eq_false cf,aS,cv,c5,t1,t2',jv,show(0:Int)<(i:Int) by omega];refine(aj _ _ _).2 ⟨l.length-(i+1),by omega,Fa,i+1,(by simp),(by simp[g0]),by omega,fin (go1 (.inr cv)) (by rw[pe];simp[bR,c5]),rfl⟩
       ·simp(disch:=omega) only[evs,seval,DF,eff,ai,g3,g0,q0,q1,q2,eq_false cf,aS,cv,c5,t1,t2',jv,show(0:Int)<(i:Int) by omega];exact bad Fa (by simp[fD,pe,bR,c5])
   ·simp only[evs,seval,g3,g0,(ra.fr F).len,show¬(i:Int)<l.length by omega];rw[List.drop_of_length_le (by omega)]at e;exact⟨by simp[bN,c8,←e,dG],F⟩
 ·refine ah rfl rfl ?_;simp only[fn297,evs,seval,ra.len,show(8:Int)<(l.length:Nat) by omega];exact⟨by simp[bN,c8],Fr.refl w⟩
theorem AS(n m:Nat):decide ((n:Int)≤(m:Int))=decide (n≤m):=by rw[decide_eq_decide];omega
theorem sG(a b:Nat):decide ((a:Int)+(b:Int)=0)=decide (a+b=0):=by rw[decide_eq_decide];omega
theorem C4{h:Heap}{k:Nat}{tg ky tx:Str}{sl:List Slo}{va vc:V}{sub:PT}(w:WF h)(n:PH h (.cons k tg ky sl tx va vc sub .nil)):
 ao go 292 [.agg [.int .u8 (k:Int),.str tg,.str ky,va,.str tx,vc]] h fun u h'=>u=.bool (cR k tg ky sl tx sub.len)∧Fr [] h h':=by
 obtain⟨n1,ra,na,rc,nc,n6,_⟩:=n;obtain⟨h1,e_h1⟩:∃h1,h1=halloc h [.int .u8 (k:Int),.str tg,.str ky,va,.str tx,vc]:=⟨_,rfl⟩;have F_h1:Fr [] h h1:=e_h1▸Fr.halloc w _;have o_h1:Own h1 h.next [.int .u8 (k:Int),.str tg,.str ky,va,.str tx,vc]:=e_h1▸Own.new w _;have l0:ag h1 h.next 0=some (.int .u8 (k:Int)):=o_h1.ld1 0;have l1:ag h1 h.next 1=some (.str tg):=o_h1.ld1 1;have l2:ag h1 h.next 2=some (.str ky):=o_h1.ld1 2;have l3:ag h1 h.next 3=some va:=o_h1.ld1 3;have l4:ag h1 h.next 4=some (.str tx):=o_h1.ld1 4;have l5:ag h1 h.next 5=some vc:=o_h1.ld1 5;have la:=(ra.fr F_h1).len;have lc:=(rc.fr F_h1).len;by_cases k1:k=1
 ·have q1:(k:Int)=1:=by omega
  have spec:cR k tg ky sl tx sub.len=(okN tg&&((ky==[]||okN ky)&&(bN sl&&(tx==[]&&decide (sub.len≤16))))):=by
   unfold cR;rw[if_pos k1];cases okN tg<;>cases(ky==[]||okN ky)<;>cases bN sl<;>cases(tx==[])<;>cases decide (sub.len≤16)<;>rfl
  rw[spec];refine ah rfl rfl ?_;simp only[fn292,evs,seval,←e_h1,l0,l1,eq_true q1];refine aa dL ?_;rintro _ _ ⟨rfl,rfl⟩;cases c1:okN tg
  ·simp only[evs,seval];exact⟨rfl,F_h1⟩
  cases c2:ky==[]
  ·simp only[evs,seval,l2,aI,c2];refine aa dL ?_;rintro _ _ ⟨rfl,rfl⟩;cases c3:okN ky
   ·simp only[evs,seval];exact⟨rfl,F_h1⟩
   simp only[evs,seval,l3];refine aa (li F_h1.wf (ra.fr F_h1) na) ?_;rintro _ h2 ⟨rfl,F2⟩;have m4:ag h2 h.next 4=some (.str tx):=(F2.get o_h1).ld1 4;have m5:ag h2 h.next 5=some vc:=(F2.get o_h1).ld1 5;have lc2:=(rc.fr (F_h1.then F2)).len;cases c4:bN sl
   ·simp only[evs,seval];exact⟨rfl,F_h1.then F2⟩
   cases c5:tx==[]
   ·simp only[evs,seval,m4,aI,c5];exact⟨rfl,F_h1.then F2⟩
   simp only[evs,seval,m4,m5,aI,c5,lc2];exact⟨by simp[show((16:Nat):Int)=16 from rfl,←AS],F_h1.then F2⟩
  ·simp only[evs,seval,l2,l3,aI,c2];refine aa (li F_h1.wf (ra.fr F_h1) na) ?_;rintro _ h2 ⟨rfl,F2⟩;have m4:ag h2 h.next 4=some (.str tx):=(F2.get o_h1).ld1 4;have m5:ag h2 h.next 5=some vc:=(F2.get o_h1).ld1 5;have lc2:=(rc.fr (F_h1.then F2)).len;cases c4:bN sl
   ·simp only[evs,seval];exact⟨rfl,F_h1.then F2⟩
   cases c5:tx==[]
   ·simp only[evs,seval,m4,aI,c5];exact⟨rfl,F_h1.then F2⟩
   simp only[evs,seval,m4,m5,aI,c5,lc2];exact⟨by simp[show((16:Nat):Int)=16 from rfl,←AS],F_h1.then F2⟩
 have q1:¬(k:Int)=1:=by omega
 by_cases k2:k=2
 ·have q2:(k:Int)=2:=by omega
  have spec:cR k tg ky sl tx sub.len=(okT tx&&(tg==[]&&(ky==[]&&decide (sl.length+sub.len=0)))):=by
   unfold cR;rw[if_neg k1,if_neg (by omega),if_pos k2];have:decide (sl.length+sub.len=0)=(decide (sl.length=0)&&decide (sub.len=0)):=by rw[←Bool.decide_and,decide_eq_decide];omega
   rw[this]
  rw[spec];refine ah rfl rfl ?_;simp only[fn292,evs,seval,←e_h1,l0,eq_false q1,eq_true q2,l4];refine aa io ?_;rintro _ _ ⟨rfl,rfl⟩;cases c1:okT tx
  ·simp only[evs,seval];exact⟨rfl,F_h1⟩
  cases c2:tg==[]
  ·simp only[evs,seval,l1,aI,c2];exact⟨rfl,F_h1⟩
  cases c3:ky==[]
  ·simp only[evs,seval,l1,l2,aI,c2,c3];exact⟨rfl,F_h1⟩
  simp(disch:=omega) only[evs,seval,ai,l1,l2,l3,l5,aI,c2,c3,la,lc];exact⟨by rw[sG];rfl,F_h1⟩
 have q2:¬(k:Int)=2:=by omega
 by_cases k34:k=3∨k=4
 ·have spec:cR k tg ky sl tx sub.len=(tx==[]&&(tg==[]&&(ky==[]&&decide (sl.length+sub.len=0)))):=by
   unfold cR;rw[if_neg k1,if_neg (by omega),if_neg k2,if_pos k34];have:decide (sl.length+sub.len=0)=(decide (sl.length=0)&&decide (sub.len=0)):=by rw[←Bool.decide_and,decide_eq_decide];omega
   rw[this];cases(tg==[])<;>cases(ky==[])<;>cases(tx==[])<;>rfl
  rw[spec];by_cases q:(k:Int)=3
  ·cases c1:tx==[]<;>cases c2:tg==[]<;>cases c3:ky==[];all_goals
    refine ah rfl rfl ?_;simp(disch:=omega) only[fn292,evs,seval,ai,←e_h1,l0,l1,l2,l3,l4,l5,eq_false q1,eq_false q2,eq_true q,aI,c1,c2,c3,la,lc];exact⟨by first|rfl|(rw[sG];rfl),F_h1⟩
  ·have q':(k:Int)=4:=by omega
   cases c1:tx==[]<;>cases c2:tg==[]<;>cases c3:ky==[];all_goals
    refine ah rfl rfl ?_;simp(disch:=omega) only[fn292,evs,seval,ai,←e_h1,l0,l1,l2,l3,l4,l5,eq_false q1,eq_false q2,eq_false q,eq_true q',aI,c1,c2,c3,la,lc];exact⟨by first|rfl|(rw[sG];rfl),F_h1⟩
 have q3:¬(k:Int)=3:=by omega
 have q4:¬(k:Int)=4:=by omega
 by_cases k5:k=5
 ·have q5:(k:Int)=5:=by omega
  have spec:cR k tg ky sl tx sub.len=(okN tg&&(bN sl&&(ky==[]&&(tx==[]&&decide (sub.len=0))))):=by
   unfold cR;rw[if_neg k1,if_pos k5]
  rw[spec];refine ah rfl rfl ?_;simp only[fn292,evs,seval,←e_h1,l0,l1,eq_false q1,eq_false q2,eq_false q3,eq_false q4,eq_true q5];refine aa dL ?_;rintro _ _ ⟨rfl,rfl⟩;cases c1:okN tg
  ·simp only[evs,seval];exact⟨rfl,F_h1⟩
  simp only[evs,seval,l3];refine aa (li F_h1.wf (ra.fr F_h1) na) ?_;rintro _ h2 ⟨rfl,F2⟩;have m2:ag h2 h.next 2=some (.str ky):=(F2.get o_h1).ld1 2;have m4:ag h2 h.next 4=some (.str tx):=(F2.get o_h1).ld1 4;have m5:ag h2 h.next 5=some vc:=(F2.get o_h1).ld1 5;have lc2:=(rc.fr (F_h1.then F2)).len;cases c4:bN sl
  ·simp only[evs,seval];exact⟨rfl,F_h1.then F2⟩
  cases c3:ky==[]
  ·simp only[evs,seval,m2,aI,c3];exact⟨rfl,F_h1.then F2⟩
  cases c5:tx==[]
  ·simp only[evs,seval,m2,m4,aI,c3,c5];exact⟨rfl,F_h1.then F2⟩
  simp only[evs,seval,m2,m4,m5,aI,c3,c5,lc2];exact⟨by simp,F_h1.then F2⟩
 ·have q5:¬(k:Int)=5:=by omega
  have spec:cR k tg ky sl tx sub.len=false:=by
   unfold cR;rw[if_neg k1,if_neg k5,if_neg k2,if_neg k34]
  rw[spec];refine ah rfl rfl ?_;simp only[fn292,evs,seval,←e_h1,l0,eq_false q1,eq_false q2,eq_false q3,eq_false q4,eq_false q5];exact F_h1
def PT.rs:PT→Nat→Nat→Nat
 |.nil,_,c=>c
 |.cons k tg ky sl tx _ _ sub nx,lv,c=>if 64<c then c else nx.rs lv (c+(if lv=0∨cR k tg ky sl tx sub.len=false then 1000 else sub.rs (lv-1) 1))
def PT.rn(k:Nat)(tg ky:Str)(sl:List Slo)(tx:Str)(sub:PT)(lv:Nat):Nat:=if lv=0∨cR k tg ky sl tx sub.len=false then 1000 else sub.rs (lv-1) 1
theorem PT.rs_le:∀(t:PT)(lv c:Nat),t.rs lv c≤max c (1064+64*lv)
 |.nil,lv,c=>by simp only[PT.rs];omega
 |.cons k tg ky sl tx _ _ sub nx,lv,c=>by
  simp only[PT.rs];split
  ·omega
  ·have h1:=PT.rs_le sub (lv-1) 1;have h2:=PT.rs_le nx lv (c+(if lv=0∨cR k tg ky sl tx sub.len=false then 1000 else sub.rs (lv-1) 1));split at h2<;>rename_i q
   ·rw[if_pos q];omega
   ·rw[if_neg q];omega
theorem PT.rn_le(k:Nat)(tg ky:Str)(sl:List Slo)(tx:Str)(sub:PT)(lv:Nat):PT.rn k tg ky sl tx sub lv≤1064+64*lv:=by
 unfold PT.rn;split
 ·omega
 ·have:=PT.rs_le sub (lv-1) 1;omega
theorem PT.rs_stop:∀(t:PT)(lv c:Nat),64<c→t.rs lv c=c
 |.nil,_,_,_=>rfl
 |.cons _ _ _ _ _ _ _ _ _,_,_,h=>by simp only[PT.rs,if_pos h]
def CR(k:Nat)(tg ky:Str)(sl:List Slo)(tx:Str)(va vc:V)(sub:PT):Prop:=∀(lv:Nat)(h:Heap),lv≤6→WF h→PH h (.cons k tg ky sl tx va vc sub .nil)→
 ao go 272 [.agg [.int .u8 (k:Int),.str tg,.str ky,va,.str tx,vc],.int .i64 (lv:Int)] h fun u h'=>u=.int .i64 (PT.rn k tg ky sl tx sub lv:Nat)∧Fr [] h h'
def CRs:PT→Prop
 |.nil=>True
 |.cons k tg ky sl tx va vc sub nx=>CR k tg ky sl tx va vc sub∧CRs nx
theorem CRs.at':∀{t:PT}(i:Nat),CRs t→CRs (t.at' i)
 |.nil,0,_=>trivial
 |.nil,_+1,_=>trivial
 |.cons _ _ _ _ _ _ _ _ _,0,a=>a
 |.cons _ _ _ _ _ _ _ _ _,i+1,⟨_,b⟩=>CRs.at' i b
theorem zo{k:Nat}{tg ky tx:Str}{sl:List Slo}{va vc:V}{sub:PT}(M:CRs sub):CR k tg ky sl tx va vc sub:=by
 intro lv h hlv w n;have n0:=n;obtain⟨n1,ra,na,rc,nc,n6,_⟩:=n;obtain⟨h1,e_h1⟩:∃h1,h1=halloc h [.int .u8 (k:Int),.str tg,.str ky,va,.str tx,vc]:=⟨_,rfl⟩;have F_h1:Fr [] h h1:=e_h1▸Fr.halloc w _;have o_h1:Own h1 h.next [.int .u8 (k:Int),.str tg,.str ky,va,.str tx,vc]:=e_h1▸Own.new w _;by_cases c1:(lv:Int)<1
 ·refine ah rfl rfl ?_;simp only[fn272,evs,seval,←e_h1,eq_true c1];exact⟨by rw[PT.rn,if_pos (.inl (by omega))];rfl,F_h1⟩
 have l6:ak h1 h.next 0 6=some [.int .u8 (k:Int),.str tg,.str ky,va,.str tx,vc]:=by rw[o_h1.ld];rfl
 refine ah rfl rfl ?_;simp only[fn272,evs,seval,←e_h1,eq_false c1,l6];refine aa (C4 F_h1.wf (n0.fr F_h1)) ?_;rintro _ h2 ⟨rfl,F2⟩;have F02:=F_h1.then F2;cases c2:cR k tg ky sl tx sub.len
 ·simp only[evs,seval];exact⟨by rw[PT.rn,if_pos (.inr c2)];rfl,F02⟩
 have o2:=F2.get o_h1;simp only[evs,seval];refine aC (fun n env hh=>Fr [] h2 hh∧∃(i c:Nat),env.get 6=some (.int .i64 (i:Int))∧env.get 5=some (.int .i64 (c:Int))∧env.get 2=some (.ptr h.next 0)∧env.get 1=some (.int .i64 (lv:Int))∧i≤sub.len∧c≤2000∧(sub.at' i).rs (lv-1) c=sub.rs (lv-1) 1∧n=sub.len-i) sub.len (by omega) ?_ ?_
 ·exact⟨Fr.refl F2.wf,0,1,(by simp),(by simp),(by simp),(by simp),by omega,by omega,by cases sub<;>rfl,rfl⟩
 ·rintro n' env hh ⟨F,i,c,g6,g5,g2,g1,hi,hc,e,rfl⟩;have F0:=F02.then F;have l5:ag hh h.next 5=some vc:=(F.get o2).ld1 5;have rch:=rc.fr F0;by_cases hlt:i<sub.len
  ·have hlt':(i:Int)<sub.len:=by omega
   by_cases c3:(c:Int)≤64
   ·obtain⟨kd,tg2,ky2,at2,tx2,va2,vc2,sub2,nx,e1,e2,e3,e4,e5,_⟩:=sub.split i hlt;obtain⟨bi,oi,p1,p2⟩:=Sl.ix6 rch hlt e2;have ph:=PH.at' i (n6.fr F0);rw[e1]at ph e;obtain⟨z1,z2,z3,z4,z5,z6,z7⟩:=ph;have cr:=CRs.at' i M;rw[e1]at cr;obtain⟨q0,q1,q2,q3,q4,q5,q6⟩:=p2;simp(disch:=omega) only[evs,seval,ai,g6,g5,g2,g1,l5,rch.len,hlt',eq_true c3,p1,q6];have lv1:(lv:Int)-1=((lv-1:Nat):Int):=by omega
    rw[lv1];refine aa (cr.1 (lv-1) hh (by omega) F.wf ⟨z1,z2,z3,z4,z5,z6,trivial⟩) ?_;rintro _ h3 ⟨rfl,F3⟩;have le:=PT.rn_le kd tg2 ky2 at2 tx2 sub2 (lv-1);simp only[PT.rs,if_neg (show¬64<c by omega)]at e;simp(disch:=omega) only[evs,seval,ai,g6];refine(aj _ _ _).2 ⟨sub.len-(i+1),by omega,F.then F3,i+1,c+PT.rn kd tg2 ky2 at2 tx2 sub2 (lv-1),(by simp),(by simp),(by simp[g2]),(by simp[g1]),by omega,by omega,by rw[e3];exact e,rfl⟩
   ·rw[PT.rs_stop _ _ _ (by omega)]at e;simp only[evs,seval,g6,g5,g2,l5,rch.len,hlt',eq_false c3];exact⟨by rw[PT.rn,if_neg (by rw[c2];simp;omega),←e],F0⟩
  ·rw[PT.at_end _ _ (by omega)]at e;have hlt':¬(i:Int)<sub.len:=by omega
   simp only[evs,seval,g6,g5,g2,l5,rch.len,eq_false hlt'];have e':c=sub.rs (lv-1) 1:=e;exact⟨by rw[PT.rn,if_neg (by rw[c2];simp;omega),←e'],F0⟩
theorem crs:∀t:PT,CRs t
 |.nil=>trivial
 |.cons _ _ _ _ _ _ _ sub nx=>⟨zo (crs sub),crs nx⟩
def PT.rC(k:Nat)(tg ky:Str)(sl:List Slo)(tx:Str)(sub:PT):Nat:=if k≠1∨64<PT.rn k tg ky sl tx sub 6 then 0 else PT.rn k tg ky sl tx sub 6
theorem zZ{h:Heap}{k:Nat}{tg ky tx:Str}{sl:List Slo}{va vc:V}{sub:PT}(w:WF h)(n:PH h (.cons k tg ky sl tx va vc sub .nil)):
 ao go 237 [.agg [.int .u8 (k:Int),.str tg,.str ky,va,.str tx,vc]] h fun u h'=>u=.int .i64 (PT.rC k tg ky sl tx sub:Nat)∧Fr [] h h':=by
 obtain⟨h1,e_h1⟩:∃h1,h1=halloc h [.int .u8 (k:Int),.str tg,.str ky,va,.str tx,vc]:=⟨_,rfl⟩;have F_h1:Fr [] h h1:=e_h1▸Fr.halloc w _;have o_h1:Own h1 h.next [.int .u8 (k:Int),.str tg,.str ky,va,.str tx,vc]:=e_h1▸Own.new w _;have l6:ak h1 h.next 0 6=some [.int .u8 (k:Int),.str tg,.str ky,va,.str tx,vc]:=by rw[o_h1.ld];rfl
 refine ah rfl rfl ?_;simp only[fn237,evs,seval,←e_h1,l6];refine aa ((crs (.cons k tg ky sl tx va vc sub .nil)).1 6 h1 (by omega) F_h1.wf (n.fr F_h1)) ?_;rintro _ h2 ⟨rfl,F2⟩;have l0:ag h2 h.next 0=some (.int .u8 (k:Int)):=(F2.get o_h1).ld1 0;unfold PT.rC;by_cases c1:(k:Int)=1
 ·by_cases c2:(64:Int)<(PT.rn k tg ky sl tx sub 6:Nat)
  ·simp only[evs,seval,l0,eq_true c1,eq_true c2];exact⟨by rw[if_pos (.inr (by omega))];rfl,F_h1.then F2⟩
  ·simp only[evs,seval,l0,eq_true c1,eq_false c2];exact⟨by rw[if_neg (by omega)],F_h1.then F2⟩
 ·simp only[evs,seval,l0,eq_false c1];exact⟨by rw[if_pos (.inl (by omega))];rfl,F_h1.then F2⟩
theorem rE{h:Heap}{k:Nat}{tg ky tx:Str}{sl:List Slo}{va vc:V}{sub:PT}(w:WF h)(n:PH h (.cons k tg ky sl tx va vc sub .nil)):
 ao go 185 [.agg [.int .u8 (k:Int),.str tg,.str ky,va,.str tx,vc]] h fun u h'=>u=.int .i64 (if PT.rC k tg ky sl tx sub=0 then 14 else 0)∧Fr [] h h':=by
 obtain⟨h1,e_h1⟩:∃h1,h1=halloc h [.int .u8 (k:Int),.str tg,.str ky,va,.str tx,vc]:=⟨_,rfl⟩;have F_h1:Fr [] h h1:=e_h1▸Fr.halloc w _;have o_h1:Own h1 h.next [.int .u8 (k:Int),.str tg,.str ky,va,.str tx,vc]:=e_h1▸Own.new w _;have l6:ak h1 h.next 0 6=some [.int .u8 (k:Int),.str tg,.str ky,va,.str tx,vc]:=by rw[o_h1.ld];rfl
 refine ah rfl rfl ?_;simp only[fn185,evs,seval,←e_h1,l6];refine aa (zZ F_h1.wf (n.fr F_h1)) ?_;rintro _ h2 ⟨rfl,F2⟩;by_cases c:(PT.rC k tg ky sl tx sub:Int)=0
 ·simp only[evs,seval,eq_true c];exact⟨by rw[if_pos (by omega)],F_h1.then F2⟩
 ·simp only[evs,seval,eq_false c];exact⟨by rw[if_neg (by omega)],F_h1.then F2⟩
theorem HT{h:Heap}{B B' e:Nat}{v:V}{cs:List V}(g:Gs h B e v cs)(hb:B'≤B):Gs h B' e v cs:=by
 rcases g with z|⟨b,n,z1,z2,z3,z4,o⟩
 ·exact .inl z
 ·exact .inr ⟨b,n,z1,z2,z3,by omega,o⟩
theorem qQ{h:Heap}{x:Itm}{v:V}{l:List Slo}(w:WF h)(a:ItmH h x)(r:Recs pC 3 h v l)(nl:l.length≤4096)(h3:∀s∈l,s.2.1≤3):
 ao go 241 [v,.agg x.cells] h fun u h'=>Gs h' h.next 2 u ((l.map (att x)).flatMap dU)∧Fr [] h h':=by
 have kx:=a.k;have nx:=a.n;obtain⟨h1,e_h1⟩:∃h1,h1=halloc h x.cells:=⟨_,rfl⟩;have F_h1:Fr [] h h1:=e_h1▸Fr.halloc w _;have o_h1:Own h1 h.next x.cells:=e_h1▸Own.new w _;have x0:∀{h'},Fr [] h1 h'→ag h' h.next 0=some (.int .u64 (x.key:Int)):=fun f=>(f.get o_h1).ld1 0;have x2:∀{h'},Fr [] h1 h'→ag h' h.next 2=some (.str x.text):=fun f=>(f.get o_h1).ld1 2;have x3:∀{h'},Fr [] h1 h'→ag h' h.next 3=some x.vm:=fun f=>(f.get o_h1).ld1 3;refine ah rfl rfl ?_;simp only[fn241,evs,seval,←e_h1];refine aC (fun n env hh=>Fr [] h1 hh∧∃(i:Nat)(vo:V),env.get 6=some (.int .i64 (i:Int))∧env.get 5=some vo∧env.get 3=some (.ptr h.next 0)∧env.get 0=some v∧i≤l.length∧Gs hh h1.next 2 vo (((l.take i).map (att x)).flatMap dU)∧n=l.length-i) l.length (by omega) ?_ ?_
 ·exact⟨Fr.refl F_h1.wf,0,.nils,(by simp),(by simp),(by simp),(by simp),by omega,.inl ⟨rfl,by simp⟩,rfl⟩
 ·rintro n env hh ⟨F,i,vo,g6,g5,g3,g0,hi,G,rfl⟩;have F0:=F_h1.then F;have rh:=r.fr F0;by_cases hlt:i<l.length
  ·have hlt':(i:Int)<l.length:=by omega
   obtain⟨b',o',s,p1,p2,p3,p4⟩:=rh.ix eG .i64 (i:Int) (by omega) hlt';rw[Int.toNat_natCast]at p4;have s3:=h3 s (List.mem_of_getElem? p4);have u0:ag hh b' o'=some (.str s.1):=p2 0 (by omega);have u1:ag hh b' (o'+1)=some (.int .u8 (s.2.1:Int)):=p2 1 (by omega);have u2:ag hh b' (o'+2)=some (.str s.2.2):=p2 2 (by omega);have cv:bC .u64 (x.marks.length:Int)=(x.marks.length:Int):=cP _ (by omega) (by omega);have fin:∀vo' h9,Gs h9 h1.next 2 vo' (((l.take i).map (att x)).flatMap dU++dU (att x s))→Gs h9 h1.next 2 vo' (((l.take (i+1)).map (att x)).flatMap dU):=by
    intro vo' h9 g;rw[List.take_add_one,p4];simpa using g
   have glen:(((l.take i).map (att x)).flatMap dU).length=i*2:=by rw[aG cM];simp;omega
   have lit:∀z,Own (halloc hh [.str s.1,.str z]) hh.next [.str s.1,.str z]:=fun z=>Own.new F.wf _;have h1n:=F.next;have am:=a.m.fr F0;have ev:s.2.1=0∨s.2.1=1∨s.2.1=2∨s.2.1=3:=by omega
   have rest:∀(z:Str)(hh':Heap){K:V→Heap→Prop},Fr [] hh hh'→vn x s=z→(∀v' h',Gs h' h1.next 2 v' (((l.take (i+1)).map (att x)).flatMap dU)→Fr [] h1 h'→K v' h')→OQ (jD (halloc hh' [.str s.1,.str z]) 2 32 vo (.slice hh'.next 0 1 1)) K:=by
    intro z hh' K f e k;have nn:=f.next;have F1:=Fr.halloc f.wf [.str s.1,.str z];have G':=Gs.fr (Gs.fr G f) F1;refine Gs.append1 (n:=1) F1.wf G' (Sl.lit (Own.new f.wf _) rfl) (by omega) (by omega) rfl (by have:=F1.next;omega) (by rw[glen];omega) ?_;intro v' h' g _ f';refine k v' h' (fin v' h' (by unfold dU att;rw[e];exact g)) (Fr.new F_h1.wf ((F.then f).then F1) f' (fun y hy=>?_));rcases G with⟨rfl,_⟩|⟨b,n,rfl,_,_,hb,o⟩
    ·simp[vb]at hy
    ·simp[vb]at hy;omega
   rcases ev with e|e|e|e
   ·have e':(s.2.1:Int)=0:=by omega
    simp only[evs,seval,g6,g5,g0,rh.len,hlt',p1,u0,u1,u2,show¬(s.2.1:Int)=1 by omega,show¬(s.2.1:Int)=2 by omega,show¬(s.2.1:Int)=3 by omega];refine rest _ _ (Fr.refl F.wf) (by simp[vn,e]) fun v' h' g f=>?_;simp(disch:=omega) only[evs,seval,ai,g6];refine(aj _ _ _).2 ⟨l.length-(i+1),by omega,f,i+1,v',(by simp),(by simp),(by simp[g3]),(by simp[g0]),by omega,g,rfl⟩
   ·simp only[evs,seval,g6,g5,g3,g0,rh.len,hlt',p1,u0,u1,u2,show(s.2.1:Int)=1 by omega,x2 F];refine rest _ _ (Fr.refl F.wf) (by simp[vn,e]) fun v' h' g f=>?_;simp(disch:=omega) only[evs,seval,ai,g6];refine(aj _ _ _).2 ⟨l.length-(i+1),by omega,f,i+1,v',(by simp),(by simp),(by simp[g3]),(by simp[g0]),by omega,g,rfl⟩
   ·have q1:¬(s.2.1:Int)=1:=by omega
    have q2:(s.2.1:Int)=2:=by omega
    simp only[evs,seval,g6,g3,g0,rh.len,hlt',p1,u1,u2,eq_false q1,eq_true q2,x0 F];refine aa (kN (x.key+1) x.key (by omega) kx) ?_;rintro _ _ ⟨rfl,rfl⟩;simp only[evs,seval,g6,g5,g0,p1,u0];refine rest _ _ (Fr.refl F.wf) (by simp[vn,e]) fun v' h' g f=>?_;simp(disch:=omega) only[evs,seval,ai,g6];refine(aj _ _ _).2 ⟨l.length-(i+1),by omega,f,i+1,v',(by simp),(by simp),(by simp[g3]),(by simp[g0]),by omega,g,rfl⟩
   ·have q1:¬(s.2.1:Int)=1:=by omega
    have q2:¬(s.2.1:Int)=2:=by omega
    have q3:(s.2.1:Int)=3:=by omega
    simp only[evs,seval,g6,g3,g0,rh.len,hlt',p1,u1,u2,eq_false q1,eq_false q2,eq_true q3,x3 F,am.len,cv];refine aa (kN (x.marks.length+1) x.marks.length (by omega) (by omega)) ?_;rintro _ _ ⟨rfl,rfl⟩;simp only[evs,seval,g6,g5,g0,p1,u0];refine rest _ _ (Fr.refl F.wf) (by simp[vn,e]) fun v' h' g f=>?_;simp(disch:=omega) only[evs,seval,ai,g6];refine(aj _ _ _).2 ⟨l.length-(i+1),by omega,f,i+1,v',(by simp),(by simp),(by simp[g3]),(by simp[g0]),by omega,g,rfl⟩
  ·have hlt':¬(i:Int)<l.length:=by omega
   rw[List.take_of_length_le (by omega)]at G;simp only[evs,seval,g6,g5,g0,rh.len,eq_false hlt'];exact⟨HT G (by have:=F_h1.next;omega),F0⟩
theorem Hk{X:List Nat}{h h':Heap}(f:Fr [] h h'):Fr X h h':=⟨f.next,f.wf,fun _ _ _ o=>f.get o,fun _ _ _ o=>f.pl _ _ (by simp) o,f.lp,f.ro⟩
theorem AA{h:Heap}{n0 B:Nat}{vo u:V}{s s5:NT}{K:V→Heap→Prop}(w:WF h)(g:Gs h B 6 vo s.cells)(hB:B≤h.next)(h0:n0≤h.next)(I:Inv vo n0 h s)(sl:Sl h 6 u s5.len s5.cells)
 (N:∀(X:List Nat)(h':Heap),(∀x∈X,x<n0∨x∈vb vo)→Fr X h h'→NH h' s5) (hl:s.len≤1000) (hl5:s5.len≤1000) (hz:s5.len=0→u=.nils)
 (hk:∀v' h',Gs h' B 6 v' (s.app s5).cells→Inv v' n0 h' (s.app s5)→Fr (vb vo) h h'→(∀y∈vb v',y∈vb vo∨h.next≤y)→K v' h'):
 OQ (jD h 6 104 vo u) K:=by
 have on:=NH.ones (N [] h (by simp) (Fr.refl w));have cl:=s.cells_len;have cl5:=s5.cells_len;by_cases z:s5.len=0
 ·have hu:=hz z;subst hu;have e5:s5=.nil:=by cases s5 with
   |nil=>rfl
   |cons _ _ _ _ _ _ _ _ _=>simp[NT.len]at z
  subst e5;have ea:s.app .nil=s:=by
   have:∀t:NT,t.app .nil=t:=by
    intro t;induction t with
    |nil=>rfl
    |cons _ _ _ _ _ _ _ _ _ _ ih=>simp only[NT.app,ih]
   exact this s
  rw[ea]at hk;have ez:jD h 6 104 vo .nils=some (vo,h):=by
   unfold jD;rw[sl.srcLen];simp only[];rw[fT z,cond_true];rcases g with⟨rfl,_⟩|⟨b,n,rfl,_⟩<;>rfl
  rw[ez];refine(bZ vo h K).2 (hk vo h g I (Hk (Fr.refl w)) fun y m=>.inl m)
 have vlt:∀x∈vb vo,x<h.next:=by
  rcases g with⟨rfl,_⟩|⟨b,n,rfl,_,_,_,o⟩
  ·simp[vb]
  ·have:=o.lt w;simp only[vb,List.mem_singleton];rintro x rfl;exact this
 refine Gs.append1 (n:=s5.len) w g sl (by omega) z on hB (by rw[cl];omega) ?_;intro v' h' g' e' F;refine hk v' h' ?_ ?_ F (by rw[e'];simp)
 ·rw[NT.app_cells];exact g'
 ·intro X h2 hX f2;have f3:Fr (vb vo++X.filter (fun x=>decide (x<n0))) h h2:=by
   refine Fr.trans F f2 w (fun x hx=>.inl (by simp[hx])) (fun x hx=>?_);rcases hX x hx with q|q
   ·exact .inl (by simp[hx,q])
   ·rw[e']at q;simp at q;exact .inr (by subst q;exact Nat.le_refl _)
  have hX':∀x∈vb vo++X.filter (fun x=>decide (x<n0)),x<n0∨x∈vb vo:=by
   intro x hx;simp at hx;rcases hx with q|q
   ·exact .inr q
   ·exact .inl q.2
  exact NH.app (I _ h2 hX' f3) (N _ h2 hX' f3)
def PG:PT→Prop
 |.nil=>True
 |.cons k _ _ sl _ _ _ sub nx=>1≤k∧k≤5∧(∀s∈sl,s.2.1≤3)∧sub.len≤16∧PG sub∧PG nx
theorem PG.at':∀{t:PT}(i:Nat),PG t→PG (t.at' i)
 |.nil,0,_=>trivial
 |.nil,_+1,_=>trivial
 |.cons _ _ _ _ _ _ _ _ _,0,a=>a
 |.cons _ _ _ _ _ _ _ _ _,i+1,⟨_,_,_,_,_,b⟩=>PG.at' i b
def MDp(h:Heap)(x:Itm)(k:Nat)(tg ky:Str)(sl:List Slo)(tx:Str)(sub:PT)(u:V)(h':Heap):Prop:=
 ∃s:NT,s.sh=jU x k tg ky sl tx (bK x sub)∧Fr [] h h'∧s.len≤8∧(s.len=0→u=.nils)∧∀(X:List Nat)(h2:Heap),(∀y∈X,y<h.next)→Fr X h' h2→NH h2 s∧Sl h2 6 u s.len s.cells
def MD(k:Nat)(tg ky:Str)(sl:List Slo)(tx:Str)(va vc:V)(sub:PT):Prop:=∀(x:Itm)(h:Heap),WF h→ItmH h x→x.marks.length≤8→PH h (.cons k tg ky sl tx va vc sub .nil)→PG (.cons k tg ky sl tx va vc sub .nil)→
 ao go 187 [.agg [.int .u8 (k:Int),.str tg,.str ky,va,.str tx,vc],.agg x.cells] h (MDp h x k tg ky sl tx sub)
def MDs:PT→Prop
 |.nil=>True
 |.cons k tg ky sl tx va vc sub nx=>MD k tg ky sl tx va vc sub∧MDs nx
theorem MDs.at':∀{t:PT}(i:Nat),MDs t→MDs (t.at' i)
 |.nil,0,_=>trivial
 |.nil,_+1,_=>trivial
 |.cons _ _ _ _ _ _ _ _ _,0,a=>a
 |.cons _ _ _ _ _ _ _ _ _,i+1,⟨_,b⟩=>MDs.at' i b
theorem r7{h h1:Heap}{x:Itm}{k:Nat}{tg ky tx z:Str}{sl:List Slo}{sub:PT}(f:Fr [] h h1)(e:jU x k tg ky sl tx (bK x sub)=fa z):
 MDp h x k tg ky sl tx sub (.slice h1.next 0 1 1) (halloc h1 [.int .u8 2,.str [],.str [],.nils,.str z,.nils]):=by
 have F1:=Fr.halloc f.wf [.int .u8 2,.str [],.str [],.nils,.str z,.nils];have o1:=Own.new f.wf [.int .u8 2,.str [],.str [],.nils,.str z,.nils];refine⟨.cons 2 [] [] [] z .nils .nils .nil .nil,by rw[e];rfl,f.then F1,Nat.le_of_ble_eq_true rfl,fun q=>absurd q (by simp[NT.len]),fun X h2 hX f2=>⟨i5 2 (by omega) [] z,Sl.lit (f2.own _ _ (fun m=>by have:=hX _ m;have:=f.next;omega) o1) rfl⟩⟩
theorem Gs.ints{h:Heap}{B:Nat}{v:V}{M:List Int}(g:Gs h B 1 v (M.map fun x=>.int .i64 x))(hn:M.length≤4096):mJ h v M:=by
 have:=g.sl (n:=M.length) (by simp) (by omega);exact this
theorem Sto.set{n0:Nat}{h h':Heap}{b bg B bm S bl i:Nat}{Ks:List Knd}{cap:Int}{X:List Itm}{l:List Int}{kn st:List Bool}{vK:V}{pm:Option Nat}{mc:ew}{y:Itm}(w:WF h)(s:Sto n0 h b Ks cap X l kn st vK bg B bm S bl pm mc)(f:Fr [B] h h')
 (g:Gp h' bg B X.length ((X.set i y).flatMap Itm.cells)) (gB:Good h' B)
 (hy:∀(Z:List Nat)(h2:Heap),(∀z∈Z,z∈Wr b bg B bm S bl pm∨h'.next≤z∨z<n0)→Fr Z h' h2→ItmH h2 y):Sto n0 h' b Ks cap (X.set i y) l kn st vK bg B bm S bl pm mc:=by
 have d:=s.d;have fn:=f.next;have n0l:=s.n0l;refine⟨f.own _ _ (by simpa using d.b2) s.ob,by simpa using g,gB,s.k.frS f (by simpa using d.t1.symm) (by simpa using d.t2.symm),s.gS.fr f (by simpa using d.t2.symm),s.lo.frS f s.gB.oth (by simpa using d.t3.symm) (fun q e=>by simpa using(d.p q e).2.2.1),by simp[s.len],?_,d,by have:=s.Sl';omega,fun q e=>by have:=s.pl q e;omega,by have:=s.bl';omega,by omega⟩;intro Z h2 hZ f2;have fz:Fr ([B]++Z) h h2:=Fr.trans f f2 w (fun x m=>.inl (List.mem_append.2 (.inl m))) (fun x m=>.inl (List.mem_append.2 (.inr m)));obtain⟨r1,r2,r3⟩:=s.rd _ h2 (fun z m=>by
  rcases List.mem_append.1 m with m|m
  ·simp at m;subst m;exact .inl (by simp[Wr])
  ·rcases hZ z m with q|q|q
   ·exact .inl q
   ·exact .inr (.inl (by omega))
   ·exact .inr (.inr q)) fz
 refine⟨r1,r2,fun x m=>?_⟩;rcases List.mem_or_eq_of_mem_set m with m|rfl
 ·exact r3 x m
 ·exact hy Z h2 hZ f2
theorem Gs.ge{h:Heap}{B B' e:Nat}{v:V}{cs:List V}(g:Gs h B e v cs)(hb:B'≤B):Gs h B' e v cs:=by
 rcases g with z|⟨b,n,z1,z2,z3,z4,o⟩
 ·exact .inl z
 ·exact .inr ⟨b,n,z1,z2,z3,by omega,o⟩
theorem kE{call:aD}{env:T V}{k:Nat}:∀(B:List IStep)(i:Nat)(loc:List V)(h:Heap),k<i→lay call env [k] B i loc h=some (B.map fun s=>(s,none),h)
 |[],_,_,_,_=>rfl
 |s::B,i,loc,h,hi=>by
  have c0:(i==k)=false:=beq_false_of_ne (by omega);have c:List.contains [k] i=false:=by simp only[List.contains,List.elem,c0]
  simp only[lay,c,cond_false,kE (call:=call) (env:=env) (k:=k) B (i+1) _ h (by omega),List.map_cons]
theorem sg{call:aD}{env:T V}{k:Nat}{R:List IStep}{h h':Heap}{r:List DS}:∀(A:List IStep)(i:Nat)(loc:List V),i+A.length=k→(∀loc,lay call env [k] R k loc h=some (r,h'))→lay call env [k] (A++R) i loc h=some ((A.map fun s=>(s,none))++r,h')
 |[],i,loc,hi,hr=>by
  have:i=k:=by simpa using hi
  subst this;simpa using hr loc
 |s::A,i,loc,hi,hr=>by
  simp only[List.length_cons]at hi;have c0:(i==k)=false:=beq_false_of_ne (by omega);have c:List.contains [k] i=false:=by simp only[List.contains,List.elem,c0]
  simp only[List.cons_append,lay,c,cond_false,sg (call:=call) (env:=env) (k:=k) A (i+1) _ (by omega) hr,List.map_cons]
theorem Cg{call:aD}{env:T V}{h:Heap}{k:Nat}{zero:List V}{Br Rr:List Nat}{reads:List (Nat×Nat×Nat)}{sets:List (Nat×Nat)}{Q:Ex→T V→Heap→Prop}(A B:List IStep)(hk:A.length=k)
 (x:WD call env ((A.map fun s=>(s,none))++(⟨none,.al zero,none⟩,some (.ptr h.next 0,zero))::B.map fun s=>(s,none)) [] [halloc h zero] (halloc h zero) (DF call (A++⟨none,.al zero,none⟩::B) reads sets env (Q .norm))):
 W call (.dops (A++⟨none,.al zero,none⟩::B) [k] Br Rr reads sets) env h Q:=by
 refine(zP _ _ _ _ _ _ _).2 ?_;have e:∀loc,lay call env [k] (⟨none,.al zero,none⟩::B) k loc h=some ((⟨none,.al zero,none⟩,some (.ptr h.next 0,zero))::B.map (fun s=>(s,none)),halloc h zero):=by
  intro loc;have c:List.contains [k] k=true:=by simp
  simp only[lay,c,cond_true,fZ,kE B (k+1) _ _ (Nat.lt_succ_self k),dy]
 rw[sg A 0 [] (by omega) e,gC];exact x
theorem sj(loc:List V)(env:T V)(n:Nat)(zero:List V):bI loc env (.al zero) (.ptr n 0) zero=true:=by
 have e:fZ loc env (.al zero)=some (zero,none):=rfl;simp only[bI,e,lid,dy,du,dh,Bool.and_self]
def dC(Ks:List Knd)(cap:Int)(X:List Itm):Nat→List Itm→Int
 |_,[]=>0
 |i,y::r=>if okI y Ks.length=false then 6 else if(X[i]?.map Itm.key)≠some y.key then 9 else if bQ Ks cap y≠0 then bQ Ks cap y else dC Ks cap X (i+1) r
theorem Inv.frX{v:V}{n0:Nat}{h h':Heap}{s:NT}{X:List Nat}(I:Inv v n0 h s)(w:WF h)(f:Fr X h h')(hX:∀x∈X,x<n0):Inv v n0 h' s:=fun Y h2 hy f2=>
 I (X++Y) h2 (fun x m=>by
  rcases List.mem_append.1 m with m|m
  ·exact .inl (hX x m)
  ·exact hy x m) (Fr.trans f f2 w (fun x m=>.inl (List.mem_append.2 (.inl m))) (fun x m=>.inl (List.mem_append.2 (.inr m))))
theorem Fw{h h1:Heap}{x:Itm}{tg ky tx:Str}{sl:List Slo}{va vc:V}{sub:PT}{env:T V}{pb ib:Nat}{R:V→Heap→Prop}(M:MDs sub)(f0:Fr [] h h1)(a:ItmH h x)(hm:x.marks.length≤8)(n:PH h (.cons 1 tg ky sl tx va vc sub .nil))(g:PG (.cons 1 tg ky sl tx va vc sub .nil))
 (op:Own h1 pb [.int .u8 1,.str tg,.str ky,va,.str tx,vc]) (oi:Own h1 ib x.cells) (e2:env.get 2=some (.ptr pb 0)) (e3:env.get 3=some (.ptr ib 0))
 (k:∀u h',MDp h x 1 tg ky sl tx sub u h'→R u h'):W go mdN env h1 (gA [.t 4] R):=by
 obtain⟨n1,ra,na,rc,nc,n6,_⟩:=n;obtain⟨_,_,g3,gl,gs,_⟩:=g;have w1:=f0.wf;have l6:=op.at6;obtain⟨q0,q1,q2,q3,q4,q5,q6⟩:=l6;have i4:ak h1 ib 0 4=some x.cells:=by rw[oi.ld];rfl
 simp only[evs,mdN];refine Cg [⟨none,.p (.faddr 1) [.v 2],none⟩,⟨none,.ld 1 false (.l 0),none⟩,⟨none,.p (.faddr 2) [.v 2],none⟩,⟨none,.ld 1 false (.l 0),none⟩,⟨none,.p (.faddr 3) [.v 2],none⟩,⟨none,.ld 1 false (.l 0),none⟩,⟨none,.ld 4 true (.v 3),none⟩,⟨none,.cf 241 [.l 1,.l 0],none⟩,⟨none,.p (.build [.int .u8 0,.str [],.str [],.nils,.str [],.nils] [(0,1),(1,1),(2,1),(3,1)]) [.c (.int .u8 1),.l 6,.l 4,.l 0],none⟩] _ rfl ?_;have F2:=Fr.halloc w1 [.int .u8 0,.str [],.str [],.nils,.str [],.nils];have o2:=Own.new w1 [.int .u8 0,.str [],.str [],.nils,.str [],.nils];have n2:(halloc h1 [.int .u8 0,.str [],.str [],.nils,.str [],.nils]).next=h1.next+1:=rfl;generalize halloc h1 [.int .u8 0,.str [],.str [],.nils,.str [],.nils]=h2 at F2 o2 n2⊢;obtain⟨r0,r1,r2,r3,r4,r5,r6⟩:=(F2.get op).at6;have i42:ak h2 ib 0 4=some x.cells:=by rw[(F2.get oi).ld];rfl
 simp only[evs,eff,e2,e3,r1,r2,r3,i42];refine aa (qQ F2.wf (a.fr (f0.then F2)) (ra.fr (f0.then F2)) na g3) ?_;rintro vA h3 ⟨GA,F3⟩;obtain⟨t0,t1,t2,t3,t4,t5,t6⟩:=(F3.get (F2.get op)).at6;have vA1:vA.one=true:=(Gs.sl (n:=sl.length) GA (by rw[aG cM];simp) (by omega)).one;simp only[evs,seval,eff,c7,sj,aB vA1];refine ab (c':=[.int .u8 1,.str tg,.str ky,vA,.str [],.nils]) F3.wf (F3.get o2) rfl (by simp only[V.cells,aA,aF,vA1];rfl) (by rfl) ?_;rintro h4 o4 F4 n4;have i43:ak h3 ib 0 4=some x.cells:=by rw[(F3.get (F2.get oi)).ld];rfl
 have n3:=F3.next;simp only[evs,seval,DF,e3,r1,r2,r3,i42,t1,t2];have F24:Fr [] h1 h4:=(F2.then F3).fresh F4 w1 (Nat.le_refl _);have GA4:Gs h4 h2.next 2 vA ((sl.map (att x)).flatMap dU):=Gs.frX GA F4 (fun y m=>by simp at m;omega);have n14:=f0.next;refine aC (fun n env hh=>Fr [] h1 hh∧∃(i:Nat)(s:NT)(vo:V),env.get 8=some (.int .i64 (i:Int))∧env.get 7=some (.ptr h1.next 0)∧env.get 2=some (.ptr pb 0)∧env.get 3=some (.ptr ib 0)∧i≤sub.len∧h3.next≤hh.next∧
  Own hh h1.next [.int .u8 1,.str tg,.str ky,vA,.str [],vo]∧(∀(X:List Nat)(h':Heap),(∀y∈X,y<h2.next∨h3.next≤y)→Fr X hh h'→Recs dU 2 h' vA (sl.map (att x)))∧Gs hh h3.next 6 vo s.cells∧Inv vo h3.next hh s∧
  s.sh.app (bK x (sub.at' i))=bK x sub∧s.len≤8*i∧n=sub.len-i) sub.len (by omega) ?_ ?_
 ·refine⟨F24,0,.nil,.nils,(by simp),(by simp),(by simp[e2]),(by simp[e3]),by omega,by omega,o4,fun X h' hX f=>?_,.inl ⟨rfl,rfl⟩,fun _ _ _ _=>trivial,by cases sub<;>rfl,by simp[NT.len],rfl⟩;have gl3:∀y∈vb vA,y<h3.next:=by
   rcases GA with⟨rfl,_⟩|⟨b,n,rfl,_,_,_,o⟩
   ·simp[vb]
   ·have:=o.lt F3.wf;simp only[vb,List.mem_singleton];rintro y rfl;exact this
  have:Gs h' h2.next 2 vA ((sl.map (att x)).flatMap dU):=by
   rcases GA4 with z|⟨b,n,rfl,z2,z3,z4,o⟩
   ·exact .inl z
   ·exact .inr ⟨b,n,rfl,z2,z3,z4,f.own _ _ (fun m=>by have:=hX _ m;have:=gl3 b (by simp[vb]);omega) o⟩
  exact Gs.sl (n:=(sl.map (att x)).length) this (by rw[aG cM]) (by omega)
 ·rintro n' env hh ⟨F,i,s,vo,g8,g7,g2,g3',hi,hn,on,SA,G,I,e,sn,rfl⟩;have F0:=f0.then F;obtain⟨u0,u1,u2,u3,u4,u5,u6⟩:=(F.get op).at6;have rch:=rc.fr F0;by_cases hlt:i<sub.len
  ·have hlt':(i:Int)<sub.len:=by omega
   obtain⟨kd,tg2,ky2,at2,tx2,va2,vc2,sub2,nx,e1,e2',e3',e4',e5',_⟩:=sub.split i hlt;obtain⟨bi,oi',p1,p2⟩:=Sl.ix6 rch hlt e2';have ph:=PH.at' i (n6.fr F0);have pg:=gs.at' i;have md:=M.at' i;rw[e1]at ph e pg md;obtain⟨z1,z2,z3,z4,z5,z6,z7⟩:=ph;obtain⟨y1,y2,y3,y4,y5,y6⟩:=pg;obtain⟨v0,v1,v2,v3,v4,v5,v6⟩:=p2;have w5:ag hh h1.next 5=some vo:=on.ld1 5;have ih4:ak hh ib 0 4=some x.cells:=by rw[(F.get oi).ld];rfl
   simp only[evs,seval,eff,g8,g7,g2,g3',u5,rch.len,hlt',p1,v6,w5,ih4];refine aa (md.1 x hh F.wf (a.fr F0) hm ⟨z1,z2,z3,z4,z5,z6,trivial⟩ ⟨y1,y2,y3,y4,y5,trivial⟩) ?_;rintro uu h5 ⟨s5,es5,F5,l5,z5',st5⟩;have on5:=F5.get on;have w55:ag h5 h1.next 5=some vo:=on5.ld1 5;have st0:=st5 [] h5 (by simp) (Fr.refl F5.wf);have vlt:∀y∈vb vo,h3.next≤y∧y<hh.next:=by
    rcases G with⟨rfl,_⟩|⟨b,n,rfl,_,_,hb,o⟩
    ·simp[vb]
    ·have:=o.lt F.wf;simp only[vb,List.mem_singleton];rintro y rfl;exact⟨hb,this⟩
   have n5:=F5.next;simp only[evs,eff];refine AA (n0:=h3.next) F5.wf (Gs.frX G F5 (by simp)) (by omega) (by omega) (I.fr F.wf F5) st0.2 (fun X h' hX f=>(st5 X h' (fun y m=>by
    rcases hX y m with q|q
    ·omega
    ·exact(vlt y q).2) f).1) (by omega) (by omega) z5' ?_
   intro v' h6 G' I' F6 V';have on6:=F6.own _ _ (fun m=>by have:=vlt _ m;omega) on5;have v'1:v'.one=true:=(Gs.sl (n:=(s.app s5).len) G' (by rw[NT.cells_len]) (by omega)).one;simp only[evs,seval,eff,g7];refine ab (c':=[.int .u8 1,.str tg,.str ky,vA,.str [],v']) F6.wf on6 (by rw[aB v'1];rfl) (by rw[aB v'1];simp only[aA,aF,v'1];rfl) (by rw[aB v'1];rfl) ?_;rintro h7 o7 F7 n7;have n6':=F6.next;have F07:Fr [] h1 h7:=Fr.new w1 (Fr.new w1 (F.then F5) F6 (fun y m=>by have:=vlt y m;omega)) F7 (fun y m=>by simp at m;omega);have G7:=Gs.frX G' F7 (fun y m=>by simp at m;omega);have I7:Inv v' h3.next h7 (s.app s5):=I'.frX F6.wf F7 (fun y m=>by simp at m;omega);have fh7:∀(X:List Nat)(h':Heap),Fr X h7 h'→Fr (vb vo++[h1.next]++X) hh h':=fun X h' f=>
    Fr.trans (Fr.trans (T:=vb vo++[h1.next]) (Fr.trans (T:=vb vo) F5 F6 F.wf (by simp) (fun y m=>.inl m)) F7 F.wf (fun y m=>.inl (List.mem_append.2 (.inl m))) (fun y m=>.inl (List.mem_append.2 (.inr m)))) f F.wf (fun y m=>.inl (List.mem_append.2 (.inl m))) (fun y m=>.inl (List.mem_append.2 (.inr m)))
   simp(disch:=omega) only[evs,seval,DF,ai,g8,g3',u5,v6,w5,ih4,w55];refine(aj _ _ _).2 ⟨sub.len-(i+1),by omega,F07,i+1,s.app s5,v',(by simp),(by simp[g7]),(by simp[g2]),(by simp[g3']),by omega,by omega,o7,fun X h' hX f=>SA _ h' (fun y m=>?_) (fh7 X h' f),G7,I7,?_,?_,rfl⟩
   ·rcases List.mem_append.1 m with m|m
    ·rcases List.mem_append.1 m with m|m
     ·exact .inr (vlt y m).1
     ·simp at m;omega
    ·exact hX y m
   ·rw[NT.app_sh,es5,ST.app_assoc,e3'];exact e
   ·rw[NT.app_len];omega
  ·have hlt':¬(i:Int)<sub.len:=by omega
   have w6:ak hh h1.next 0 6=some [.int .u8 1,.str tg,.str ky,vA,.str [],vo]:=by rw[on.ld];rfl
   rw[PT.at_end _ _ (by omega)]at e;have e':s.sh=bK x sub:=by rw[←e];show _=s.sh.app .nil;rw[ST.app_nil]
   simp only[evs,seval,g8,g7,g2,u5,rch.len,eq_false hlt',w6];refine k _ _ ⟨.cons 1 tg ky (sl.map (att x)) [] vA vo s .nil,by unfold jU;rw[if_pos rfl,←e'];rfl,F0.then (Fr.halloc F.wf _),Nat.le_of_ble_eq_true rfl,fun q=>absurd q (by simp[NT.len]),fun X h2' hX f=>?_⟩;have F9:=Fr.halloc F.wf [.int .u8 1,.str tg,.str ky,vA,.str [],vo];have o9:=Own.new F.wf [.int .u8 1,.str tg,.str ky,vA,.str [],vo];have f9:Fr X hh h2':=Fr.trans F9 f F.wf (by simp) (fun y m=>.inl m);refine⟨⟨by omega,SA X h2' (fun y m=>.inl (by have:=hX y m;omega)) f9,by simpa using na,?_,by omega,I X h2' (fun y m=>.inl (by have:=hX y m;omega)) f9,trivial⟩,Sl.lit (f.own _ _ (fun m=>by have:=hX _ m;have:=F0.next;omega) o9) rfl⟩;exact Gs.sl (n:=s.len) (Gs.frX G f9 (fun y m=>by have:=hX y m;omega)) s.cells_len (by omega)
abbrev gZ(z:Str):List V:=[.int .u8 2,.str [],.str [],.nils,.str z,.nils]
abbrev EI:List IStep:=[⟨none,.p (.build [.int .u8 0,.str [],.str [],.nils,.str [],.nils] [(0,1),(1,1),(2,1),(3,1),(5,1)]) [.c (.int .u8 1),.l 16,.l 11,.l 7,.l 0],none⟩,⟨none,.bs [.int .u8 0,.str [],.str [],.nils,.str [],.nils] [(0,6)] 1 [.l 0],none⟩,⟨none,.ap 6 104 (.l 20) (.l 0),none⟩,⟨none,.p .mv [.l 0],none⟩]
abbrev EK:List IStep:=[⟨none,.p .mv [.v 5],none⟩,⟨none,.p (.faddr 1) [.v 2],none⟩,⟨none,.ld 1 false (.l 0),none⟩,⟨none,.p (.faddr 3) [.v 3],none⟩,⟨none,.ld 1 false (.l 0),none⟩,⟨none,.p .mv [.v 6],none⟩,⟨none,.p (.ixs 1) [.l 1,.l 0],none⟩,⟨none,.ld 1 false (.l 0),none⟩,⟨none,.p (.faddr 3) [.v 2],none⟩,⟨none,.ld 1 false (.l 0),none⟩,⟨none,.ld 4 true (.v 3),none⟩,⟨none,.cf 241 [.l 1,.l 0],none⟩,⟨none,.p (.faddr 3) [.v 3],none⟩,⟨none,.ld 1 false (.l 0),none⟩,⟨none,.p .mv [.v 6],none⟩,⟨none,.p (.ixs 1) [.l 1,.l 0],none⟩,⟨none,.ld 1 false (.l 0),none⟩,⟨none,.p (.build [.int .u8 0,.str [],.str [],.nils,.str [],.nils] [(0,1),(4,1)]) [.c (.int .u8 2),.l 0],none⟩]
abbrev EJ:IStep:=⟨none,.bs [.int .u8 0,.str [],.str [],.nils,.str [],.nils] [(0,6)] 1 [.l 0],none⟩
theorem Ho{env:T V}{h:Heap}{pb ib b3 o3:Nat}{i:Int}{v5 va vm:V}{tg mk:Str}{cs:List V}(g5:env.get 5=some v5)(g2:env.get 2=some (.ptr pb 0))(g3:env.get 3=some (.ptr ib 0))(g6:env.get 6=some (.int .i64 i))
 (l1:ag h pb 1=some (.str tg)) (l3:ag h ib 3=some vm) (ix:aP (.ixs 1) [vm,.int .i64 i]=some (.ptr b3 o3)) (lm:ag h b3 o3=some (.str mk)) (lp:ag h pb 3=some va) (l4:ak h ib 0 4=some cs):
 lay go env [18] (EK++EJ::EI) 0 [] h=some ((EK.map fun s=>(s,none))++(EJ,some (.slice h.next 0 1 1,gZ mk))::(EI.map fun s=>(s,none)),halloc h (gZ mk)):=by
 have ev_mv:∀(loc:List V)(x:Opd)(v:V),evO loc env x=some v→aK go loc env h (.p .mv [x])=some (v,h):=fun loc x v e=>by
  simp only[aK,eP,cL,e,bW,aP]
 have ev_fa:∀(loc:List V)(x k b:Nat),env.get x=some (.ptr b 0)→aK go loc env h (.p (.faddr k) [.v x])=some (.ptr b k,h):=fun loc x k b e=>by
  simp only[aK,eP,cL,gh,e,bW,gz,Nat.zero_add]
 have ev_ld:∀(loc:List V)(b o:Nat)(v:V),ag h b o=some v→aK go (.ptr b o::loc) env h (.ld 1 false (.l 0))=some (v,h):=fun loc b o v e=>by
  simp only[aK,mj,bv,eg,e]
 have ev_ix:∀(loc:List V),aK go (.int .i64 i::vm::loc) env h (.p (.ixs 1) [.l 1,.l 0])=some (.ptr b3 o3,h):=fun loc=>by
  simp only[aK,eP,cL,mj,bv,bT,bW,ix]
 have ev_l4:∀(loc:List V),aK go loc env h (.ld 4 true (.v 3))=some (.agg cs,h):=fun loc=>by
  simp only[aK,gh,g3,j9,l4];rfl
 have ev_b:∀(loc:List V),aK go (.str mk::loc) env h (.p (.build [.int .u8 0,.str [],.str [],.nils,.str [],.nils] [(0,1),(4,1)]) [.c (.int .u8 2),.l 0])=some (.agg (gZ mk),h):=fun loc=>rfl;simp only[List.cons_append,List.nil_append];rw[cC rfl rfl (ev_mv _ _ _ (by rw[gh];exact g5)),cC rfl rfl (ev_fa _ _ _ _ g2),cC rfl rfl (ev_ld _ _ _ _ l1),cC rfl rfl (ev_fa _ _ _ _ g3),cC rfl rfl (ev_ld _ _ _ _ l3),cC rfl rfl (ev_mv _ _ _ (by rw[gh];exact g6)),cC rfl rfl (ev_ix _),cC rfl rfl (ev_ld _ _ _ _ lm),
  cC rfl rfl (ev_fa _ _ _ _ g2),cC rfl rfl (ev_ld _ _ _ _ lp),cC rfl rfl (ev_l4 _),uk rfl rfl,cC rfl rfl (ev_fa _ _ _ _ g3),cC rfl rfl (ev_ld _ _ _ _ l3),cC rfl rfl (ev_mv _ _ _ (by rw[gh];exact g6)),cC rfl rfl (ev_ix _),cC rfl rfl (ev_ld _ _ _ _ lm),cC rfl rfl (ev_b _)]
 rw[xj (c:=gZ mk) (k:=some (1,1)) rfl rfl,kE _ _ _ _ (by omega)];rfl
theorem GY(loc:List V)(env:T V)(n:Nat)(z:Str):bI (.agg (gZ z)::loc) env (.bs [.int .u8 0,.str [],.str [],.nils,.str [],.nils] [(0,6)] 1 [.l 0]) (.slice n 0 1 1) (gZ z)=true:=by
 have e:fZ (.agg (gZ z)::loc) env (.bs [.int .u8 0,.str [],.str [],.nils,.str [],.nils] [(0,6)] 1 [.l 0])=some (gZ z,some (1,1)):=rfl;simp only[bI,e,lid,dy,du,dh,Bool.and_self]
theorem FA{h h1:Heap}{x:Itm}{tg ky tx:Str}{sl:List Slo}{va vc:V}{sub:PT}{env:T V}{pb ib:Nat}{Q:Ex→T V→Heap→Prop}(f0:Fr [] h h1)(a:ItmH h x)(hm:x.marks.length≤8)(n:PH h (.cons 5 tg ky sl tx va vc sub .nil))(g3':∀s∈sl,s.2.1≤3)
 (op:Own h1 pb [.int .u8 5,.str tg,.str ky,va,.str tx,vc]) (oi:Own h1 ib x.cells) (e2:env.get 2=some (.ptr pb 0)) (e3:env.get 3=some (.ptr ib 0))
 (k:∀u h' env',env'.get 4=some u→MDp h x 5 tg ky sl tx sub u h'→Q .ret env' h'):W go mdE env h1 Q:=by
 obtain⟨n1,ra,na,rc,nc,n6,_⟩:=n;have w1:=f0.wf;have fin:jU x 5 tg ky sl tx (bK x sub)=hU tg (sl.map (att x)) x.marks:=rfl;simp only[evs,mdE];refine aC (fun n env hh=>Fr [] h1 hh∧∃(i:Nat)(s:NT)(vo:V),env.get 6=some (.int .i64 (i:Int))∧env.get 5=some vo∧env.get 2=some (.ptr pb 0)∧env.get 3=some (.ptr ib 0)∧i≤x.marks.length∧
  Gs hh h1.next 6 vo s.cells∧Inv vo h1.next hh s∧s.sh.app (hU tg (sl.map (att x)) (x.marks.drop i))=hU tg (sl.map (att x)) x.marks∧s.len=i∧n=x.marks.length-i) x.marks.length (by omega) ?_ ?_
 ·exact⟨Fr.refl w1,0,.nil,.nils,(by simp),(by simp),(by simp[e2]),(by simp[e3]),by omega,.inl ⟨rfl,rfl⟩,fun _ _ _ _=>trivial,rfl,rfl,rfl⟩
 ·rintro n' env hh ⟨F,i,s,vo,g6,g5,g2,g3,hi,G,I,e,sn,rfl⟩;have F0:=f0.then F;obtain⟨u0,u1,u2,u3,u4,u5,u6⟩:=(F.get op).at6;have i3:ag hh ib 3=some x.vm:=(F.get oi).ld1 3;have i4:ak hh ib 0 4=some x.cells:=by rw[(F.get oi).ld];rfl
  have am:=a.m.fr F0;by_cases hlt:i<x.marks.length
  ·have hlt':(i:Int)<x.marks.length:=by omega
   obtain⟨b3,o3,mk,p1,p2,_,p4⟩:=am.ix dW .i64 (i:Int) (by omega) hlt';have p3:ag hh b3 o3=some (.str mk):=p2 0 (by omega);rw[Int.toNat_natCast]at p4;rw[aJ p4]at e;simp only[evs,seval,g6,g3,i3,am.len,hlt'];refine(zP _ _ _ _ _ _ _).2 ?_;refine⟨_,_,Ho (v5:=vo) (by simp[g5]) (by simp[g2]) (by simp[g3]) (by simp[g6]) u1 i3 p1 p3 u3 i4,?_⟩;have F2:=Fr.halloc F.wf (gZ mk);have o2:=Own.new F.wf (gZ mk);have n2:(halloc hh (gZ mk)).next=hh.next+1:=rfl;generalize halloc hh (gZ mk)=h2 at F2 o2 n2⊢;obtain⟨r0,r1,r2,r3,r4,r5,r6⟩:=(F2.get (F.get op)).at6;have i32:ag h2 ib 3=some x.vm:=(F2.get (F.get oi)).ld1 3;have i42:ak h2 ib 0 4=some x.cells:=by rw[(F2.get (F.get oi)).ld];rfl
   have p32:ag h2 b3 o3=some (.str mk):=by
    obtain⟨b3',o3',mk',p1',p2',_,p4'⟩:=(am.fr F2).ix dW .i64 (i:Int) (by omega) hlt';rw[p1]at p1';cases p1';rw[Int.toNat_natCast,p4]at p4';cases p4';exact p2' 0 (by omega)
   simp only[evs,seval,eff,g6,g5,g2,g3,r1,r3,i32,i42,p1,p32];refine aa (qQ F2.wf (a.fr (F0.then F2)) (ra.fr (F0.then F2)) na g3') ?_;rintro vA h3 ⟨GA,F3⟩;have vA1:vA.one=true:=(Gs.sl (n:=sl.length) GA (by rw[aG cM];simp) (by omega)).one;obtain⟨t0,t1,t2,t3,t4,t5,t6⟩:=(F3.get (F2.get (F.get op))).at6;have i33:ag h3 ib 3=some x.vm:=(F3.get (F2.get (F.get oi))).ld1 3;have p33:ag h3 b3 o3=some (.str mk):=by
    obtain⟨b3',o3',mk',p1',p2',_,p4'⟩:=(am.fr (F2.then F3)).ix dW .i64 (i:Int) (by omega) hlt';rw[p1]at p1';cases p1';rw[Int.toNat_natCast,p4]at p4';cases p4';exact p2' 0 (by omega)
   simp only[evs,seval,eff,g6,g3,p1,i33,p33,c7,GY,aB vA1];have n3:=F3.next;have n1':=F.next;have vlt:∀y∈vb vo,h1.next≤y∧y<hh.next:=by
    rcases G with⟨rfl,_⟩|⟨b,n,rfl,_,_,hb,o⟩
    ·simp[vb]
    ·have:=o.lt F.wf;simp only[vb,List.mem_singleton];rintro y rfl;exact⟨hb,this⟩
   have F23:=F2.then F3;have o3':=F3.get o2;refine iX (k:=1) (n0:=h1.next) (B:=h1.next) (s:=s) (at':=sl.map (att x)) (sub:=.cons 2 [] [] [] mk .nils .nils .nil .nil) F3.wf (Gs.frX G F23 (by simp)) (by omega) (by omega) (I.fr F.wf F23) (fun X h' hX f=>?_) (by omega) ?_
   ·have lt:∀y∈X,y<hh.next:=fun y m=>by
     rcases hX y m with q|q
     ·omega
     ·exact(vlt y q).2
    refine⟨by omega,?_,by simpa using na,Sl.lit (f.own _ _ (fun m=>by have:=lt _ m;omega) o3') rfl,by simp[NT.len],i5 2 (by omega) [] mk,trivial⟩;exact Gs.sl (n:=(sl.map (att x)).length) (Gs.frX GA f (fun y m=>by have:=lt y m;omega)) (by rw[aG cM]) (by omega)
   intro v' h' G' I' F' V';have Fn:Fr [] h1 h':=Fr.new w1 (F.then F23) F' (fun y m=>(vlt y m).1);simp(disch:=omega) only[evs,seval,DF,eff,ai,g6,g3,r1,r3,i32,i42,p32,t1,i33,p33];refine(aj _ _ _).2 ⟨x.marks.length-(i+1),by omega,Fn,i+1,_,v',(by simp),(by simp),(by simp[g2]),(by simp[g3]),by omega,G',I',?_,?_,rfl⟩
   ·rw[NT.app_sh,ST.app_assoc];exact e
   ·rw[NT.app_len,sn];rfl
  ·have hlt':¬(i:Int)<x.marks.length:=by omega
   rw[List.drop_of_length_le (by omega)]at e;have e':s.sh=hU tg (sl.map (att x)) x.marks:=by rw[←e];show _=s.sh.app .nil;rw[ST.app_nil]
   simp only[evs,seval,g6,g5,g3,i3,am.len,eq_false hlt'];refine k vo _ _ (by simp) ⟨s,by rw[fin,e'],F0,by omega,fun q=>?_,fun X h2 hX f=>⟨I X h2 (fun y m=>.inl (by have:=hX y m;have:=f0.next;omega)) f,Gs.sl (n:=s.len) (Gs.frX G f (fun y m=>by have:=hX y m;have:=f0.next;omega)) s.cells_len (by omega)⟩⟩;rcases G with⟨rfl,_⟩|⟨b,n,rfl,z,z2,_⟩
   ·rfl
   ·have:=s.cells_len;omega
theorem AQ{k:Nat}{tg ky tx:Str}{sl:List Slo}{va vc:V}{sub:PT}(M:MDs sub):MD k tg ky sl tx va vc sub:=by
 intro x h w a hm n g;have n0:=n;have g0:=g;obtain⟨k1,k5,g3,_⟩:=g;obtain⟨h1,e_h1⟩:∃h1,h1=halloc h [.int .u8 (k:Int),.str tg,.str ky,va,.str tx,vc]:=⟨_,rfl⟩;have F_h1:Fr [] h h1:=e_h1▸Fr.halloc w _;have o_h1:Own h1 h.next [.int .u8 (k:Int),.str tg,.str ky,va,.str tx,vc]:=e_h1▸Own.new w _;obtain⟨h2,e_h2⟩:∃h2,h2=halloc h1 x.cells:=⟨_,rfl⟩;have F_h2:Fr [] h1 h2:=e_h2▸Fr.halloc F_h1.wf _;have o_h2:Own h2 h1.next x.cells:=e_h2▸Own.new F_h1.wf _;have F02:=F_h1.then F_h2;have op:=F_h2.get o_h1;have l0:ag h2 h.next 0=some (.int .u8 (k:Int)):=op.ld1 0;have l4:ag h2 h.next 4=some (.str tx):=op.ld1 4;have x0:ag h2 h1.next 0=some (.int .u64 (x.key:Int)):=o_h2.ld1 0;have x2:ag h2 h1.next 2=some (.str x.text):=o_h2.ld1 2;have ks:k=1∨k=2∨k=3∨k=4∨k=5:=by omega
 refine ah rfl rfl ?_;rcases ks with e|e|e|e|e
 ·simp only[evs,seval,fn187x,←e_h1,←e_h2,l0,show¬(k:Int)=2 by omega,show¬(k:Int)=3 by omega,show¬(k:Int)=4 by omega,show¬(k:Int)=5 by omega];subst e;exact Fw M F02 a hm n0 g0 op o_h2 (by simp) (by simp) fun u h' r=>r
 ·simp only[evs,seval,fn187x,←e_h1,←e_h2,l0,eq_true (show(k:Int)=2 by omega),l4];exact r7 F02 (by subst e;rfl)
 ·simp only[evs,seval,fn187x,←e_h1,←e_h2,l0,show¬(k:Int)=2 by omega,eq_true (show(k:Int)=3 by omega),x2];exact r7 F02 (by subst e;rfl)
 ·simp only[evs,seval,fn187x,←e_h1,←e_h2,l0,show¬(k:Int)=2 by omega,show¬(k:Int)=3 by omega,eq_true (show(k:Int)=4 by omega),x0];refine aa (kN (x.key+1) x.key (by omega) a.k) ?_;rintro _ _ ⟨rfl,rfl⟩;simp only[evs,seval];exact r7 F02 (by subst e;rfl)
 ·simp only[evs,seval,fn187x,←e_h1,←e_h2,l0,show¬(k:Int)=2 by omega,show¬(k:Int)=3 by omega,show¬(k:Int)=4 by omega,eq_true (show(k:Int)=5 by omega)];subst e;refine FA F02 a hm n0 g3 op o_h2 (by simp) (by simp) fun u h' env' q r=>?_;simp only[evs,q];exact r
theorem Fv:∀t:PT,MDs t
 |.nil=>trivial
 |.cons _ _ _ _ _ _ _ sub nx=>⟨AQ (Fv sub),Fv nx⟩
theorem EA{h:Heap}{vc:V}{sub:NT}(sl:Sl h 6 vc sub.len sub.cells){i:Nat}(hi:i<sub.len):∃b o ky,aP (.ixs 6) [vc,.int .i64 (i:Int)]=some (.ptr b o)∧ag h b (o+2)=some (.str ky)∧sub.keys[i]? =some ky∧sub.keys.drop i=ky::sub.keys.drop (i+1):=by
 obtain⟨kd,tg2,ky2,at2,tx2,va2,vc2,sub2,nx,e1,e2,e3,e4,e5,_⟩:=sub.split i hi;obtain⟨b,o,p1,p2⟩:=Sl.ix6 sl hi e2;exact⟨b,o,ky2,p1,p2.2.2.1,e5,aJ e5⟩
def KX(l:List Str):Prop:=∀(i j:Nat)(q r:Str),j<i→l[i]? =some q→l[j]? =some r→q=[]∨r≠q
theorem KX.ok'{l:List Str}(h:KX l):∀(n i:Nat),i+n=l.length→eO (l.take i) (l.drop i)=true
 |0,i,e=>by rw[List.drop_of_length_le (by omega)];rfl
 |n+1,i,e=>by
  have hi:i<l.length:=by omega
  have g:=List.getElem?_eq_getElem hi;rw[List.drop_eq_getElem_cons hi,mb,Bool.and_eq_true];refine⟨?_,?_⟩
  ·by_cases z:l[i]=[]
   ·simp[z]
   ·rw[Bool.or_eq_true];right;simp only[Bool.not_eq_true',List.any_eq_false,beq_iff_eq];intro q m e';obtain⟨j,hj,rfl⟩:=List.getElem_of_mem m;have hj':j<i:=by simp at hj;omega
    have gj:l[j]? =some (l.take i)[j]:=by rw[List.getElem_take];exact List.getElem?_eq_getElem (by omega)
    rcases h i j _ _ hj' g gj with w|w
    ·exact z w
    ·exact w e'
  ·have:=KX.ok' h n (i+1) (by omega);rwa[List.take_add_one,g]at this
theorem KX.ok{l:List Str}(h:KX l):eO [] l=true:=by simpa using KX.ok' h l.length 0 (by omega)
theorem Fq{h:Heap}{vc:V}{sub:NT}{env:T V}{pb:Nat}{R:V→Heap→Prop}(l5:ag h pb 5=some vc)(sl:Sl h 6 vc sub.len sub.cells)(nl:sub.len≤4096)(e1:env.get 1=some (.ptr pb 0))
 (k:∀b,(b=true↔KX sub.keys)→R (.bool b) h):W go noC env h (gA [.t 2] R):=by
 have kl:=sub.keys_len;simp only[evs,noC];refine aC (fun n env hh=>hh=h∧∃(i:Nat),env.get 5=some (.int .i64 (i:Int))∧env.get 1=some (.ptr pb 0)∧i≤sub.len∧(∀(i' j:Nat)(q r:Str),i'<i→j<i'→sub.keys[i']? =some q→sub.keys[j]? =some r→q=[]∨r≠q)∧n=sub.len-i) sub.len (by omega) ?_ ?_
 ·exact⟨rfl,0,(by simp),(by simp[e1]),by omega,fun _ _ _ _ z=>by omega,rfl⟩
 ·rintro n env hh ⟨rfl,i,g5,g1,hi,P,rfl⟩;by_cases hlt:i<sub.len
  ·have hlt':(i:Int)<sub.len:=by omega
   obtain⟨b,o,ky,p1,p2,p3,p4⟩:=EA sl hlt;simp only[evs,seval,g5,g1,l5,sl.len,hlt'];refine aC (fun n env h2=>h2=hh∧∃(j:Nat),env.get 6=some (.int .i64 (j:Int))∧env.get 5=some (.int .i64 (i:Int))∧env.get 1=some (.ptr pb 0)∧j≤i∧(∀(j':Nat)(r:Str),j'<j→sub.keys[j']? =some r→ky=[]∨r≠ky)∧n=i-j) i (by omega) ?_ ?_
   ·exact⟨rfl,0,(by simp),(by simp[g5]),(by simp[g1]),by omega,fun _ _ z=>by omega,rfl⟩
   ·rintro n' env' h2 ⟨rfl,j,g6,g5,g1,hj,Q,rfl⟩;by_cases jlt:j<i
    ·have jlt':(j:Int)<i:=by omega
     obtain⟨b',o',ky',p1',p2',p3',p4'⟩:=EA sl (show j<sub.len by omega);have step:(ky=[]∨ky'≠ky)→∀(j':Nat)(r:Str),j'<j+1→sub.keys[j']? =some r→ky=[]∨r≠ky:=by
      intro z j' r hj' e;rcases Nat.lt_or_ge j' j with q|q
      ·exact Q j' r q e
      ·have:j'=j:=by omega
       subst this;rw[p3']at e;cases e;exact z
     cases c1:ky==[]
     ·cases c2:ky==ky'
      ·simp(disch:=omega) only[evs,seval,DF,eff,ai,g6,g5,g1,l5,p1,p2,p1',p2',jlt',aS,aI,c1,c2];refine(aj _ _ _).2 ⟨i-(j+1),by omega,rfl,j+1,(by simp),(by simp[g5]),(by simp[g1]),by omega,step (.inr (by rintro rfl;simp at c2)),rfl⟩
      ·simp only[evs,seval,DF,eff,g6,g5,g1,l5,p1,p2,p1',p2',jlt',aS,aI,c1,c2];refine k false ⟨fun e=>(by cases e),fun K=>?_⟩;rcases K i j ky ky' jlt p3 p3' with z|z
       ·rw[z]at c1;cases c1
       ·exact absurd (by simpa using c2) (Ne.symm z)
     ·simp(disch:=omega) only[evs,seval,DF,eff,ai,g6,g5,g1,l5,p1,p2,jlt',aS,c1];refine(aj _ _ _).2 ⟨i-(j+1),by omega,rfl,j+1,(by simp),(by simp[g5]),(by simp[g1]),by omega,step (.inl (by simpa using c1)),rfl⟩
    ·have:j=i:=by omega
     subst this;have jlt':¬(j:Int)<j:=by omega
     simp(disch:=omega) only[evs,seval,ai,g6,g5,eq_false jlt'];refine(aj _ _ _).2 ⟨sub.len-(j+1),by omega,rfl,j+1,(by simp),(by simp[g1]),by omega,fun i' j' q r hi' hj' e e2=>?_,rfl⟩;rcases Nat.lt_or_ge i' j with z|z
     ·exact P i' j' q r z hj' e e2
     ·have:i'=j:=by omega
      subst this;rw[p3]at e;cases e;exact Q j' r hj' e2
  ·have hlt':¬(i:Int)<sub.len:=by omega
   simp only[evs,seval,g5,g1,l5,sl.len,eq_false hlt'];refine k true ⟨fun _ i' j q r hj e e2=>P i' j q r ?_ hj e e2,fun _=>rfl⟩;have:=(List.getElem?_eq_some_iff.1 e).1;omega
def AX(l:List (Str×Str)):Prop:=∀(i:Nat)(a:Str×Str),l[i]? =some a→okN a.1=true∧okT a.2=true∧∀(j:Nat)(q:Str×Str),j<i→l[j]? =some q→leS a.1 q.1=false
theorem AX.ok'{l:List (Str×Str)}(h:AX l):∀(n i:Nat),i+n=l.length→cY (hJ l i) (l.drop i)=true
 |0,i,e=>by rw[List.drop_of_length_le (by omega)];cases hJ l i<;>rfl
 |n+1,i,e=>by
  have hi:i<l.length:=by omega
  have g:=List.getElem?_eq_getElem hi;obtain⟨x1,x2,x3⟩:=h i _ g;rw[List.drop_eq_getElem_cons hi,kU,x1,x2];have y:=AX.ok' h n (i+1) (by omega);rw[nN g]at y;rw[y];have:bR (hJ l i) (l[i]).1=true:=by
   by_cases z:i=0
   ·subst z;rfl
   ·have gj:=List.getElem?_eq_getElem (show i-1<l.length by omega);have:=x3 (i-1) _ (by omega) gj;simp[hJ,z,gj,bR,this]
  rw[this];rfl
theorem AX.ok{l:List (Str×Str)}(h:AX l):cY none l=true:=by simpa[hJ]using AX.ok' h l.length 0 (by omega)
theorem Fs{h:Heap}{va vc:V}{at':List (Str×Str)}{sub:NT}{env:T V}{pb:Nat}{R:V→Heap→Prop}(l3:ag h pb 3=some va)(ra:Recs dU 2 h va at')(na:at'.length≤4096)(l5:ag h pb 5=some vc)(sl:Sl h 6 vc sub.len sub.cells)(nl:sub.len≤4096)(e1:env.get 1=some (.ptr pb 0))
 (k:∀b,(b=true↔AX at'∧KX sub.keys)→R (.bool b) h):W go noA env h (gA [.t 2] R):=by
 simp only[evs,noA];refine aC (fun n env hh=>hh=h∧∃(i:Nat),env.get 3=some (.int .i64 (i:Int))∧env.get 1=some (.ptr pb 0)∧i≤at'.length∧(∀(i':Nat)(a:Str×Str),i'<i→at'[i']? =some a→okN a.1=true∧okT a.2=true∧∀(j:Nat)(q:Str×Str),j<i'→at'[j]? =some q→leS a.1 q.1=false)∧n=at'.length-i) at'.length (by omega) ?_ ?_
 ·exact⟨rfl,0,(by simp),(by simp[e1]),by omega,fun _ _ z=>by omega,rfl⟩
 ·rintro n env hh ⟨rfl,i,g3,g1,hi,P,rfl⟩;by_cases hlt:i<at'.length
  ·have hlt':(i:Int)<at'.length:=by omega
   obtain⟨b,o,a,p1,p2,_,p4⟩:=ra.ix cM .i64 (i:Int) (by omega) hlt';rw[Int.toNat_natCast]at p4;have q0:ag hh b o=some (.str a.1):=p2 0 (by omega);have q1:ag hh b (o+1)=some (.str a.2):=p2 1 (by omega);simp only[evs,seval,g3,g1,l3,ra.len,hlt',p1,q0];refine aa dL ?_;rintro _ _ ⟨rfl,rfl⟩;cases c1:okN a.1
   ·simp only[evs,seval];exact k false ⟨fun e=>(by cases e),fun K=>by have:=(K.1 i a p4).1;rw[c1]at this;cases this⟩
   simp only[evs,seval,g3,g1,l3,p1,q1];refine aa io ?_;rintro _ _ ⟨rfl,rfl⟩;cases c2:okT a.2
   ·simp only[evs,seval];exact k false ⟨fun e=>(by cases e),fun K=>by have:=(K.1 i a p4).2.1;rw[c2]at this;cases this⟩
   simp only[evs,seval];refine aC (fun n env h2=>h2=hh∧∃(j:Nat),env.get 4=some (.int .i64 (j:Int))∧env.get 3=some (.int .i64 (i:Int))∧env.get 1=some (.ptr pb 0)∧j≤i∧(∀(j':Nat)(q:Str×Str),j'<j→at'[j']? =some q→leS a.1 q.1=false)∧n=i-j) i (by omega) ?_ ?_
   ·exact⟨rfl,0,(by simp),(by simp[g3]),(by simp[g1]),by omega,fun _ _ z=>by omega,rfl⟩
   ·rintro n' env' h2 ⟨rfl,j,g4,g3,g1,hj,Q,rfl⟩;by_cases jlt:j<i
    ·have jlt':(j:Int)<i:=by omega
     obtain⟨b',o',a2,p1',p2',_,p4'⟩:=ra.ix cM .i64 (j:Int) (by omega) (by omega);rw[Int.toNat_natCast]at p4';have q0':ag h2 b' o'=some (.str a2.1):=p2' 0 (by omega);cases c3:leS a.1 a2.1
     ·simp(disch:=omega) only[evs,seval,DF,eff,ai,g4,g3,g1,l3,p1,q0,p1',q0',jlt',jv,c3];refine(aj _ _ _).2 ⟨i-(j+1),by omega,rfl,j+1,(by simp),(by simp[g3]),(by simp[g1]),by omega,?_,rfl⟩;intro j' q hj' e;rcases Nat.lt_or_ge j' j with z|z
      ·exact Q j' q z e
      ·have:j'=j:=by omega
       subst this;rw[p4']at e;cases e;exact c3
     ·simp only[evs,seval,DF,eff,g4,g3,g1,l3,p1,q0,p1',q0',jlt',jv,c3];exact k false ⟨fun e=>(by cases e),fun K=>by have:=(K.1 i a p4).2.2 j a2 jlt p4';rw[c3]at this;cases this⟩
    ·have:j=i:=by omega
     subst this;have jlt':¬(j:Int)<j:=by omega
     simp(disch:=omega) only[evs,seval,ai,g4,g3,eq_false jlt'];refine(aj _ _ _).2 ⟨at'.length-(j+1),by omega,rfl,j+1,(by simp),(by simp[g1]),by omega,fun i' b hi' e=>?_,rfl⟩;rcases Nat.lt_or_ge i' j with z|z
     ·exact P i' b z e
     ·have:i'=j:=by omega
      subst this;rw[p4]at e;cases e;exact⟨c1,c2,Q⟩
  ·have hlt':¬(i:Int)<at'.length:=by omega
   simp only[evs,seval,g3,g1,l3,ra.len,eq_false hlt'];refine Fq l5 sl nl (by simp[g1]) fun b hb=>k b (hb.trans ⟨fun e=>⟨fun i' a e'=>P i' a ?_ e',e⟩,fun e=>e.2⟩);have:=(List.getElem?_eq_some_iff.1 e').1;omega
def OX(k:Nat)(tg ky:Str)(at':List (Str×Str))(tx:Str)(sub:NT):Prop:=
 (k=2∧okT tx=true∧(tg==[])=true∧(ky==[])=true∧at'.length=0∧sub.len=0)∨(k=1∧okN tg=true∧(ky==[]||okN ky)=true∧(tx==[])=true∧at'.length≤8∧sub.len≤16∧AX at'∧KX sub.keys)
theorem OX.ok{k:Nat}{tg ky:Str}{at':List (Str×Str)}{tx:Str}{sub:NT}(h:OX k tg ky at' tx sub):ST.alone k tg ky at' tx sub.sh=true:=by
 have z:=NT.sh_len sub;have zk:sub.sh.keys=sub.keys:=NT.sh_keys sub;unfold ST.alone;rcases h with⟨h1,h2,h3,h4,h5,h6⟩|⟨h1,h2,h3,h4,h5,h6,h7,h8⟩
 ·rw[if_pos h1,h2,h3,h4,decide_eq_true h5,decide_eq_true (show sub.sh.len=0 by omega)];rfl
 ·rw[if_neg (by omega),h2,h3,h4,h7.ok,zk,h8.ok,decide_eq_true h1,decide_eq_true h5,decide_eq_true (show sub.sh.len≤16 by omega)];rfl
theorem C5{h:Heap}{k:Nat}{tg ky tx:Str}{at':List (Str×Str)}{va vc:V}{sub:NT}(w:WF h)(n:NH h (.cons k tg ky at' tx va vc sub .nil)):
 ao go 273 [.agg [.int .u8 (k:Int),.str tg,.str ky,va,.str tx,vc]] h fun u h'=>Fr [] h h'∧∃b,u=.bool b∧(b=true↔OX k tg ky at' tx sub):=by
 obtain⟨n1,ra,na,rc,nc,n6,_⟩:=n;obtain⟨h1,e_h1⟩:∃h1,h1=halloc h [.int .u8 (k:Int),.str tg,.str ky,va,.str tx,vc]:=⟨_,rfl⟩;have F_h1:Fr [] h h1:=e_h1▸Fr.halloc w _;have o_h1:Own h1 h.next [.int .u8 (k:Int),.str tg,.str ky,va,.str tx,vc]:=e_h1▸Own.new w _;have l0:ag h1 h.next 0=some (.int .u8 (k:Int)):=o_h1.ld1 0;have l1:ag h1 h.next 1=some (.str tg):=o_h1.ld1 1;have l2:ag h1 h.next 2=some (.str ky):=o_h1.ld1 2;have l3:ag h1 h.next 3=some va:=o_h1.ld1 3;have l4:ag h1 h.next 4=some (.str tx):=o_h1.ld1 4;have l5:ag h1 h.next 5=some vc:=o_h1.ld1 5;have ra1:=ra.fr F_h1;have rc1:=rc.fr F_h1;have no:∀{h'},Fr [] h h'→¬OX k tg ky at' tx sub→(Fr [] h h'∧∃b,V.bool false=.bool b∧(b=true↔OX k tg ky at' tx sub)):=fun f x=>⟨f,false,rfl,fun e=>(by cases e),fun e=>absurd e x⟩;by_cases k2:(k:Int)=2
 ·refine ah rfl rfl ?_;simp only[evs,seval,fn273x,←e_h1,l0,eq_true k2,l4];refine aa io ?_;rintro _ _ ⟨rfl,rfl⟩;cases c1:okT tx
  ·simp only[evs,seval];exact no F_h1 (by rintro(⟨h1,h2,h3,h4,h5,h6⟩|⟨h1,h2,h3,h4,h5,h6,h7⟩)<;>first|omega|simp_all)
  cases c2:tg==[]
  ·simp only[evs,seval,l1,aI,c2];exact no F_h1 (by rintro(⟨h1,h2,h3,h4,h5,h6⟩|⟨h1,h2,h3,h4,h5,h6,h7⟩)<;>first|omega|simp_all)
  cases c3:ky==[]
  ·simp only[evs,seval,l1,l2,aI,c2,c3];exact no F_h1 (by rintro(⟨h1,h2,h3,h4,h5,h6⟩|⟨h1,h2,h3,h4,h5,h6,h7⟩)<;>first|omega|simp_all)
  by_cases c4:(at'.length:Int)=0
  ·simp only[evs,seval,l1,l2,l3,l5,aI,c2,c3,ra1.len,eq_true c4,rc1.len];refine⟨F_h1,_,rfl,fun e=>?_,fun e=>?_⟩
   ·have e0:=of_decide_eq_true e;exact .inl ⟨by omega,c1,c2,c3,by omega,by omega⟩
   ·rcases e with⟨h1,h2,h3,h4,h5,h6⟩|⟨h1,_⟩
    ·exact decide_eq_true (by omega)
    ·omega
  ·simp only[evs,seval,l1,l2,l3,aI,c2,c3,ra1.len,eq_false c4];exact no F_h1 (by rintro(⟨h1,h2,h3,h4,h5,h6⟩|⟨h1,h2,h3,h4,h5,h6,h7⟩)<;>first|omega|simp_all)
 by_cases k1:(k:Int)=1
 ·refine ah rfl rfl ?_;simp only[evs,seval,fn273x,←e_h1,l0,eq_false k2,eq_true k1,l1];refine aa dL ?_;rintro _ _ ⟨rfl,rfl⟩;cases c1:okN tg
  ·simp only[evs,seval];exact no F_h1 (by rintro(⟨h1,h2,h3,h4,h5,h6⟩|⟨h1,h2,h3,h4,h5,h6,h7⟩)<;>first|omega|simp_all)
  have rest:∀{env:T V},env.get 1=some (.ptr h.next 0)→tx==[]→(ky==[]||okN ky)=true→at'.length≤8→sub.len≤16→W go noA env h1 (gA [.t 2] fun u h'=>Fr [] h h'∧∃b,u=.bool b∧(b=true↔OX k tg ky at' tx sub)):=by
   intro env e1 c3 c2 c4 c5;refine Fs l3 ra1 na l5 rc1 nc e1 fun b hb=>⟨F_h1,b,rfl,fun e=>.inr ⟨by omega,c1,c2,c3,c4,c5,hb.1 e⟩,fun e=>?_⟩;rcases e with⟨h1,_⟩|⟨h1,h2,h3,h4,h5,h6,h7⟩
   ·omega
   ·exact hb.2 h7
  cases c2:ky==[]
  ·simp only[evs,seval,l2,aS,c2];refine aa dL ?_;rintro _ _ ⟨rfl,rfl⟩;cases c2':okN ky
   ·simp only[evs,seval];exact no F_h1 (by rintro(⟨h1,h2,h3,h4,h5,h6⟩|⟨h1,h2,h3,h4,h5,h6,h7⟩)<;>first|omega|simp_all)
   cases c3:tx==[]
   ·simp only[evs,seval,l4,aS,c3];exact no F_h1 (by rintro(⟨h1,h2,h3,h4,h5,h6⟩|⟨h1,h2,h3,h4,h5,h6,h7⟩)<;>first|omega|simp_all)
   by_cases c4:(8:Int)<(at'.length:Nat)
   ·simp only[evs,seval,l3,l4,aS,c3,ra1.len,eq_true c4];exact no F_h1 (by rintro(⟨h1,h2,h3,h4,h5,h6⟩|⟨h1,h2,h3,h4,h5,h6,h7⟩)<;>first|omega|simp_all)
   by_cases c5:(16:Int)<(sub.len:Nat)
   ·simp only[evs,seval,l3,l4,l5,aS,c3,ra1.len,eq_false c4,rc1.len,eq_true c5];exact no F_h1 (by rintro(⟨h1,h2,h3,h4,h5,h6⟩|⟨h1,h2,h3,h4,h5,h6,h7⟩)<;>first|omega|simp_all)
   simp only[evs,seval,l3,l4,l5,aS,c3,ra1.len,eq_false c4,rc1.len,eq_false c5];exact rest (by simp) c3 (by rw[c2,c2'];rfl) (by omega) (by omega)
  ·simp only[evs,seval,l2,l3,l4,aS,c2];cases c3:tx==[]
   ·simp only[evs,seval];exact no F_h1 (by rintro(⟨h1,h2,h3,h4,h5,h6⟩|⟨h1,h2,h3,h4,h5,h6,h7⟩)<;>first|omega|simp_all)
   by_cases c4:(8:Int)<(at'.length:Nat)
   ·simp only[evs,seval,ra1.len,eq_true c4];exact no F_h1 (by rintro(⟨h1,h2,h3,h4,h5,h6⟩|⟨h1,h2,h3,h4,h5,h6,h7⟩)<;>first|omega|simp_all)
   by_cases c5:(16:Int)<(sub.len:Nat)
   ·simp only[evs,seval,l5,ra1.len,eq_false c4,rc1.len,eq_true c5];exact no F_h1 (by rintro(⟨h1,h2,h3,h4,h5,h6⟩|⟨h1,h2,h3,h4,h5,h6,h7⟩)<;>first|omega|simp_all)
   simp only[evs,seval,l5,ra1.len,eq_false c4,rc1.len,eq_false c5];exact rest (by simp) c3 (by rw[c2];rfl) (by omega) (by omega)
 ·refine ah rfl rfl ?_;simp only[evs,seval,fn273x,←e_h1,l0,eq_false k2,eq_false k1];exact no F_h1 (by rintro(⟨h1,h2,h3,h4,h5,h6⟩|⟨h1,h2,h3,h4,h5,h6,h7⟩)<;>first|omega|simp_all)
open Classical in
noncomputable def NT.rs:NT→Nat→Nat→Nat
 |.nil,_,c=>c
 |.cons k tg ky at' tx _ _ sub nx,lv,c=>if 64<c then c else nx.rs lv (c+(if lv=0∨¬OX k tg ky at' tx sub then 1000 else sub.rs (lv-1) 1))
open Classical in
noncomputable def NT.rn(k:Nat)(tg ky:Str)(at':List (Str×Str))(tx:Str)(sub:NT)(lv:Nat):Nat:=if lv=0∨¬OX k tg ky at' tx sub then 1000 else sub.rs (lv-1) 1
theorem NT.rs_cons(k:Nat)(tg ky:Str)(at':List (Str×Str))(tx:Str)(va vc:V)(sub nx:NT)(lv c:Nat):(NT.cons k tg ky at' tx va vc sub nx).rs lv c=if 64<c then c else nx.rs lv (c+NT.rn k tg ky at' tx sub lv):=rfl
theorem NT.rs_le:∀(t:NT)(lv c:Nat),t.rs lv c≤max c (1064+64*lv)
 |.nil,lv,c=>by simp only[NT.rs];omega
 |.cons k tg ky sl tx va vc sub nx,lv,c=>by
  rw[NT.rs_cons];split
  ·omega
  ·have h1:=NT.rs_le sub (lv-1) 1;have h2:=NT.rs_le nx lv (c+NT.rn k tg ky sl tx sub lv);have:NT.rn k tg ky sl tx sub lv≤max 1000 (1000+64*lv):=by
    unfold NT.rn;split
    ·omega
    ·rename_i q;have:lv≠0:=fun e=>q (.inl e);omega
   omega
theorem NT.rs_ge:∀(t:NT)(lv c:Nat),c≤t.rs lv c
 |.nil,lv,c=>Nat.le_refl _
 |.cons k tg ky sl tx va vc sub nx,lv,c=>by
  rw[NT.rs_cons];split
  ·omega
  ·have h2:=NT.rs_ge nx lv (c+NT.rn k tg ky sl tx sub lv);omega
theorem NT.rn_le(k:Nat)(tg ky:Str)(sl:List (Str×Str))(tx:Str)(sub:NT)(lv:Nat):NT.rn k tg ky sl tx sub lv≤1064+64*lv∧1≤NT.rn k tg ky sl tx sub lv:=by
 unfold NT.rn;split
 ·omega
 ·have:=NT.rs_le sub (lv-1) 1;have:=NT.rs_ge sub (lv-1) 1;omega
theorem NT.rs_stop:∀(t:NT)(lv c:Nat),64<c→t.rs lv c=c
 |.nil,_,_,_=>rfl
 |.cons _ _ _ _ _ _ _ _ _,_,_,h=>by rw[NT.rs_cons,if_pos h]
theorem NT.rs_walk:∀(t:NT)(lv c c0:Nat),lv≤6→c0+t.rs lv c≤64→t.sh.walk (7-lv) (c0+c)=(c0+t.rs lv c,true)
 |.nil,_,_,_,_,_=>rfl
 |.cons k tg ky sl tx va vc sub nx,lv,c,c0,hl,h=>by
  have g:=NT.rs_ge (.cons k tg ky sl tx va vc sub nx) lv c;have c64:¬64<c:=by omega
  rw[NT.rs_cons,if_neg c64]at h⊢;have g2:=NT.rs_ge nx lv (c+NT.rn k tg ky sl tx sub lv);have g3:=(NT.rn_le k tg ky sl tx sub lv).2;have er:¬(lv=0∨¬OX k tg ky sl tx sub):=by
   intro q;have:NT.rn k tg ky sl tx sub lv=1000:=by unfold NT.rn;rw[if_pos q]
   omega
  have ev:NT.rn k tg ky sl tx sub lv=sub.rs (lv-1) 1:=by unfold NT.rn;rw[if_neg er]
  have ox:OX k tg ky sl tx sub:=Classical.byContradiction fun q=>er (.inr q);have l0:lv≠0:=fun e=>er (.inl e);have nd:ST.node k tg ky sl tx sub.sh sub.sh.walk (7-lv) (c0+c)=(c0+c+NT.rn k tg ky sl tx sub lv,true):=by
   unfold ST.node;rw[if_neg (by rw[ox.ok];simp;omega),show 7-lv+1=7-(lv-1) by omega,NT.rs_walk sub (lv-1) 1 (c0+c) (by omega) (by omega),ev]
  simp only[NT.sh,ST.walk,nd,if_true];rw[Nat.add_assoc,NT.rs_walk nx lv _ c0 hl h]
theorem NT.rn_node(k:Nat)(tg ky:Str)(sl:List (Str×Str))(tx:Str)(sub:NT)(h:NT.rn k tg ky sl tx sub 6≤64):ST.count k tg ky sl tx sub.sh=NT.rn k tg ky sl tx sub 6:=by
 have:=NT.rs_walk (.cons k tg ky sl tx .nils .nils sub .nil) 6 0 0 (by omega) (by rw[NT.rs_cons,if_neg (by omega)];simpa[NT.rs]using h);rw[NT.rs_cons,if_neg (by omega)]at this;simp only[NT.sh,ST.walk,NT.rs,Nat.zero_add]at this;unfold ST.count;split at this
 ·rename_i q;rw[if_pos (by simpa using q)];simpa using congrArg Prod.fst this
 ·rename_i q;rw[this]at q;exact absurd rfl q
def CN(k:Nat)(tg ky:Str)(at':List (Str×Str))(tx:Str)(va vc:V)(sub:NT):Prop:=∀(lv:Nat)(h:Heap),lv≤6→WF h→NH h (.cons k tg ky at' tx va vc sub .nil)→
 ao go 242 [.agg [.int .u8 (k:Int),.str tg,.str ky,va,.str tx,vc],.int .i64 (lv:Int)] h fun u h'=>Fr [] h h'∧u=.int .i64 (NT.rn k tg ky at' tx sub lv:Nat)
def CNs:NT→Prop
 |.nil=>True
 |.cons k tg ky at' tx va vc sub nx=>CN k tg ky at' tx va vc sub∧CNs nx
theorem CNs.at':∀{t:NT}(i:Nat),CNs t→CNs (t.at' i)
 |.nil,0,_=>trivial
 |.nil,_+1,_=>trivial
 |.cons _ _ _ _ _ _ _ _ _,0,a=>a
 |.cons _ _ _ _ _ _ _ _ _,i+1,⟨_,b⟩=>CNs.at' i b
theorem NT.at_end':∀(t:NT)(i:Nat),t.len≤i→t.at' i=.nil
 |.nil,0,_=>rfl
 |.nil,_+1,_=>rfl
 |.cons _ _ _ _ _ _ _ _ nx,0,h=>by simp[NT.len]at h
 |.cons _ _ _ _ _ _ _ _ nx,i+1,h=>NT.at_end' nx i (by simp[NT.len]at h;omega)
theorem zq{k:Nat}{tg ky tx:Str}{at':List (Str×Str)}{va vc:V}{sub:NT}(M:CNs sub):CN k tg ky at' tx va vc sub:=by
 intro lv h hlv w n;have n0:=n;obtain⟨n1,ra,na,rc,nc,n6,_⟩:=n;obtain⟨h1,e_h1⟩:∃h1,h1=halloc h [.int .u8 (k:Int),.str tg,.str ky,va,.str tx,vc]:=⟨_,rfl⟩;have F_h1:Fr [] h h1:=e_h1▸Fr.halloc w _;have o_h1:Own h1 h.next [.int .u8 (k:Int),.str tg,.str ky,va,.str tx,vc]:=e_h1▸Own.new w _;by_cases c1:(lv:Int)<1
 ·refine ah rfl rfl ?_;simp only[fn242,evs,seval,←e_h1,eq_true c1];exact⟨F_h1,by rw[NT.rn,if_pos (.inl (by omega))];rfl⟩
 have l6:ak h1 h.next 0 6=some [.int .u8 (k:Int),.str tg,.str ky,va,.str tx,vc]:=by rw[o_h1.ld];rfl
 refine ah rfl rfl ?_;simp only[fn242,evs,seval,←e_h1,eq_false c1,l6];refine aa (C5 F_h1.wf (n0.fr F_h1)) ?_;rintro _ h2 ⟨F2,b,rfl,hb⟩;have F02:=F_h1.then F2;cases c2:b
 ·simp only[evs,seval];exact⟨F02,by rw[NT.rn,if_pos (.inr fun x=>by have:=hb.2 x;rw[c2]at this;cases this)];rfl⟩
 have al:=hb.1 c2;have o2:=F2.get o_h1;simp only[evs,seval];refine aC (fun n env hh=>Fr [] h2 hh∧∃(i c:Nat),env.get 6=some (.int .i64 (i:Int))∧env.get 5=some (.int .i64 (c:Int))∧env.get 2=some (.ptr h.next 0)∧env.get 1=some (.int .i64 (lv:Int))∧i≤sub.len∧c≤2000∧
  (sub.at' i).rs (lv-1) c=sub.rs (lv-1) 1∧n=sub.len-i) sub.len (by omega) ?_ ?_
 ·exact⟨Fr.refl F2.wf,0,1,(by simp),(by simp),(by simp),(by simp),by omega,by omega,by cases sub<;>rfl,rfl⟩
 ·rintro n' env hh ⟨F,i,c,g6,g5,g2,g1,hi,hc,P,rfl⟩;have F0:=F02.then F;have l5:ag hh h.next 5=some vc:=(F.get o2).ld1 5;have rch:=rc.fr F0;have done:c=sub.rs (lv-1) 1→V.int .i64 (c:Int)=.int .i64 (NT.rn k tg ky at' tx sub lv:Nat):=fun e=>by
   rw[NT.rn,if_neg (by intro q;rcases q with q|q;omega;exact q al),←e]
  by_cases hlt:i<sub.len
  ·have hlt':(i:Int)<sub.len:=by omega
   by_cases c3:(c:Int)≤64
   ·obtain⟨kd,tg2,ky2,at2,tx2,va2,vc2,sub2,nx,e1,e2,e3,e4,e5,_⟩:=sub.split i hlt;obtain⟨bi,oi,p1,p2⟩:=Sl.ix6 rch hlt e2;have ph:=NH.at' i (n6.fr F0);rw[e1]at ph;obtain⟨z1,z2,z3,z4,z5,z6,z7⟩:=ph;have cr:=CNs.at' i M;rw[e1]at cr;obtain⟨q0,q1,q2,q3,q4,q5,q6⟩:=p2;simp(disch:=omega) only[evs,seval,ai,g6,g5,g2,g1,l5,rch.len,hlt',eq_true c3,p1,q6];have lv1:(lv:Int)-1=((lv-1:Nat):Int):=by omega
    rw[lv1];refine aa (cr.1 (lv-1) hh (by omega) F.wf ⟨z1,z2,z3,z4,z5,z6,trivial⟩) ?_;rintro _ h3 ⟨F3,rfl⟩;have le:=NT.rn_le kd tg2 ky2 at2 tx2 sub2 (lv-1);rw[e1,NT.rs_cons,if_neg (by omega)]at P;simp(disch:=omega) only[evs,seval,ai,g6];refine(aj _ _ _).2 ⟨sub.len-(i+1),by omega,F.then F3,i+1,c+NT.rn kd tg2 ky2 at2 tx2 sub2 (lv-1),(by simp),(by simp),(by simp[g2]),(by simp[g1]),by omega,by omega,by rw[e3];exact P,rfl⟩
   ·simp only[evs,seval,g6,g5,g2,l5,rch.len,hlt',eq_false c3];rw[NT.rs_stop _ _ _ (by omega)]at P;exact⟨F0,done P⟩
  ·have hlt':¬(i:Int)<sub.len:=by omega
   simp only[evs,seval,g6,g5,g2,l5,rch.len,eq_false hlt'];rw[NT.at_end' _ _ (by omega)]at P;exact⟨F0,done P⟩
theorem cns:∀t:NT,CNs t
 |.nil=>trivial
 |.cons _ _ _ _ _ _ _ sub nx=>⟨zq (cns sub),cns nx⟩
open Classical in
noncomputable def NT.rC(k:Nat)(tg ky:Str)(at':List (Str×Str))(tx:Str)(sub:NT):Nat:=if 64<NT.rn k tg ky at' tx sub 6 then 0 else NT.rn k tg ky at' tx sub 6
theorem NT.rC_count{k:Nat}{tg ky:Str}{at':List (Str×Str)}{tx:Str}{sub:NT}(h:NT.rC k tg ky at' tx sub≠0):ST.count k tg ky at' tx sub.sh=NT.rC k tg ky at' tx sub:=by
 unfold NT.rC at h⊢;split at h
 ·exact absurd rfl h
 ·rename_i q;rw[if_neg q];exact NT.rn_node _ _ _ _ _ _ (by omega)
theorem rB{h:Heap}{k:Nat}{tg ky tx:Str}{at':List (Str×Str)}{va vc:V}{sub:NT}(w:WF h)(n:NH h (.cons k tg ky at' tx va vc sub .nil)):
 ao go 189 [.agg [.int .u8 (k:Int),.str tg,.str ky,va,.str tx,vc]] h fun u h'=>Fr [] h h'∧u=.int .i64 (NT.rC k tg ky at' tx sub:Nat):=by
 obtain⟨h1,e_h1⟩:∃h1,h1=halloc h [.int .u8 (k:Int),.str tg,.str ky,va,.str tx,vc]:=⟨_,rfl⟩;have F_h1:Fr [] h h1:=e_h1▸Fr.halloc w _;have o_h1:Own h1 h.next [.int .u8 (k:Int),.str tg,.str ky,va,.str tx,vc]:=e_h1▸Own.new w _;have l6:ak h1 h.next 0 6=some [.int .u8 (k:Int),.str tg,.str ky,va,.str tx,vc]:=by rw[o_h1.ld];rfl
 refine ah rfl rfl ?_;simp only[fn189,evs,seval,←e_h1,l6];refine aa ((cns (.cons k tg ky at' tx va vc sub .nil)).1 6 h1 (by omega) F_h1.wf (n.fr F_h1)) ?_;rintro _ h2 ⟨F2,rfl⟩;by_cases c2:(64:Int)<(NT.rn k tg ky at' tx sub 6:Nat)
 ·simp only[evs,seval,eq_true c2];exact⟨F_h1.then F2,by rw[NT.rC,if_pos (by omega)];rfl⟩
 ·simp only[evs,seval,eq_false c2];exact⟨F_h1.then F2,by rw[NT.rC,if_neg (by omega)]⟩
theorem z8{h:Heap}{k:Nat}{tg ky tx:Str}{at':List (Str×Str)}{va vc:V}{sub:NT}(w:WF h)(n:NH h (.cons k tg ky at' tx va vc sub .nil)):
 ao go 188 [.agg [.int .u8 (k:Int),.str tg,.str ky,va,.str tx,vc]] h fun u h'=>Fr [] h h'∧u=.int .i64 (if NT.rC k tg ky at' tx sub=0 then 14 else 0):=by
 obtain⟨h1,e_h1⟩:∃h1,h1=halloc h [.int .u8 (k:Int),.str tg,.str ky,va,.str tx,vc]:=⟨_,rfl⟩;have F_h1:Fr [] h h1:=e_h1▸Fr.halloc w _;have o_h1:Own h1 h.next [.int .u8 (k:Int),.str tg,.str ky,va,.str tx,vc]:=e_h1▸Own.new w _;have l6:ak h1 h.next 0 6=some [.int .u8 (k:Int),.str tg,.str ky,va,.str tx,vc]:=by rw[o_h1.ld];rfl
 refine ah rfl rfl ?_;simp only[fn188,evs,seval,←e_h1,l6];refine aa (rB F_h1.wf (n.fr F_h1)) ?_;rintro _ h2 ⟨F2,rfl⟩;by_cases c2:(NT.rC k tg ky at' tx sub:Int)=0
 ·simp only[evs,seval,eq_true c2];exact⟨F_h1.then F2,by rw[if_pos (by omega)]⟩
 ·simp only[evs,seval,eq_false c2];exact⟨F_h1.then F2,by rw[if_neg (by omega)]⟩
theorem Fm{s:NT}{tg ky:Str}{at':List (Str×Str)}{m:ST}(e:s.sh=.cons 1 tg ky at' [] m .nil):∃va vc sub,s=.cons 1 tg ky at' [] va vc sub .nil∧sub.sh=m:=by
 match s,e with
 |.cons k tg2 ky2 a2 tx2 va vc sub nx,e=>
  simp only[NT.sh,ST.cons.injEq]at e;obtain⟨rfl,rfl,rfl,rfl,rfl,e6,e7⟩:=e;match nx,e7 with
  |.nil,_=>exact⟨va,vc,sub,rfl,e6⟩
abbrev Z6':List V:=[.int .u8 0,.str [],.str [],.nils,.str [],.nils]
theorem vV{h:Heap}{k:Nat}{tg ky tx:Str}{sl:List Slo}{va vc:V}{sub:PT}{x:Itm}{most:Int}(w:WF h)(n:PH h (.cons k tg ky sl tx va vc sub .nil))(g:PG (.cons k tg ky sl tx va vc sub .nil))(a:ItmH h x):
 ao go 115 [.agg [.int .u8 (k:Int),.str tg,.str ky,va,.str tx,vc],.agg x.cells,.int .i64 most] h fun u h'=>Fr [] h h'∧∃cs e,u=.tup [.agg cs,.int .i64 e]∧aq cs=true∧cs.length=6∧0≤e∧
  (e=0→k=1∧1≤most∧most≤64∧fM x=true∧ST.count 1 tg ky (sl.map (att x)) [] (bK x sub)≠0∧(ST.count 1 tg ky (sl.map (att x)) [] (bK x sub):Int)≤most):=by
 obtain⟨h1,e_h1⟩:∃h1,h1=halloc h [.int .u8 (k:Int),.str tg,.str ky,va,.str tx,vc]:=⟨_,rfl⟩;have F_h1:Fr [] h h1:=e_h1▸Fr.halloc w _;have o_h1:Own h1 h.next [.int .u8 (k:Int),.str tg,.str ky,va,.str tx,vc]:=e_h1▸Own.new w _;obtain⟨h2,e_h2⟩:∃h2,h2=halloc h1 x.cells:=⟨_,rfl⟩;have F_h2:Fr [] h1 h2:=e_h2▸Fr.halloc F_h1.wf _;have o_h2:Own h2 h1.next x.cells:=e_h2▸Own.new F_h1.wf _;obtain⟨h3,e_h3⟩:∃h3,h3=halloc h2 [.int .u8 0,.str [],.str [],.nils,.str [],.nils]:=⟨_,rfl⟩;have F_h3:Fr [] h2 h3:=e_h3▸Fr.halloc F_h2.wf _;have o_h3:Own h3 h2.next [.int .u8 0,.str [],.str [],.nils,.str [],.nils]:=e_h3▸Own.new F_h2.wf _;have F03:=(F_h1.then F_h2).then F_h3;have n1:h1.next=h.next+1:=by rw[e_h1];rfl
 have n2:h2.next=h1.next+1:=by rw[e_h2];rfl
 have n3:h3.next=h2.next+1:=by rw[e_h3];rfl
 have op:=F_h3.get (F_h2.get o_h1);have oi:=F_h3.get o_h2;have p6:∀{h'},Fr [] h3 h'→ak h' h.next 0 6=some [.int .u8 (k:Int),.str tg,.str ky,va,.str tx,vc]:=fun f=>by rw[(f.get op).ld];rfl
 have i4:∀{h'},Fr [] h3 h'→ak h' h1.next 0 4=some x.cells:=fun f=>by rw[(f.get oi).ld];rfl
 have z6:∀{h'},Own h' h2.next Z6'→ak h' h2.next 0 6=some Z6':=fun o=>by rw[o.ld];rfl
 by_cases c1:most<1
 ·refine ah rfl rfl ?_;simp only[fn115,evs,seval,←e_h1,←e_h2,←e_h3,eq_true c1];refine ab (c':=Z6') F03.wf o_h3 rfl rfl rfl ?_;rintro h4 o4 F4 n4;simp only[evs,seval,z6 o4];exact⟨F03.fresh F4 w (by omega),_,1,rfl,rfl,rfl,by omega,fun e=>by cases e⟩
 by_cases c2:(64:Int)<most
 ·refine ah rfl rfl ?_;simp only[fn115,evs,seval,←e_h1,←e_h2,←e_h3,eq_false c1,eq_true c2];refine ab (c':=Z6') F03.wf o_h3 rfl rfl rfl ?_;rintro h4 o4 F4 n4;simp only[evs,seval,z6 o4];exact⟨F03.fresh F4 w (by omega),_,1,rfl,rfl,rfl,by omega,fun e=>by cases e⟩
 refine ah rfl rfl ?_;simp only[fn115,evs,seval,←e_h1,←e_h2,←e_h3,eq_false c1,eq_false c2,p6 (Fr.refl F03.wf)];refine aa (rE F03.wf (n.fr F03)) ?_;rintro _ h4 ⟨rfl,F4⟩;by_cases c3:PT.rC k tg ky sl tx sub=0
 ·rw[if_pos c3];simp only[evs,seval,p6 F4];refine aa (rE F4.wf (n.fr (F03.then F4))) ?_;rintro _ h5 ⟨rfl,F5⟩;rw[if_pos c3];simp only[evs,seval];refine ab (c':=Z6') F5.wf ((F4.then F5).get o_h3) rfl rfl rfl ?_;rintro h6 o6 F6 n6;simp only[evs,seval,z6 o6];exact⟨((F03.then F4).then F5).fresh F6 w (by omega),_,14,rfl,rfl,rfl,by omega,fun e=>by cases e⟩
 rw[if_neg c3];have k1:k=1:=by
  unfold PT.rC at c3;split at c3
  ·exact absurd rfl c3
  ·omega
 simp only[evs,seval,i4 F4];refine aa (my F4.wf (a.fr (F03.then F4))) ?_;rintro _ h5 ⟨rfl,F5⟩;have F35:=F4.then F5;cases c4:fM x
 ·simp only[evs,seval,i4 F35];refine aa (my F5.wf (a.fr (F03.then F35))) ?_;rintro _ h6 ⟨rfl,F6⟩;rw[c4];simp only[evs,seval];refine ab (c':=Z6') F6.wf ((F35.then F6).get o_h3) rfl rfl rfl ?_;rintro h7 o7 F7 n7;simp only[evs,seval,z6 o7];exact⟨(F03.then (F35.then F6)).fresh F7 w (by omega),_,6,rfl,rfl,rfl,by omega,fun e=>by cases e⟩
 have hm:x.marks.length≤8:=by
  simp only[fM,okM,Bool.and_eq_true,decide_eq_true_eq]at c4;exact c4.2.2.1
 simp only[evs,seval,p6 F35,i4 F35];refine aa ((Fv (.cons k tg ky sl tx va vc sub .nil)).1 x h5 F5.wf (a.fr (F03.then F35)) hm (n.fr (F03.then F35)) g) ?_;rintro u h6 ⟨s,es,F6,sl8,sz,st⟩;subst k1;obtain⟨vA,vC,sub',rfl,em⟩:=Fm es;have F36:=F35.then F6;obtain⟨nh0,sl0⟩:=st [] h6 (by simp) (Fr.refl F6.wf);obtain⟨bi,oi',p1,p2⟩:=Sl.ix6 sl0 (i:=0) (Nat.lt_of_lt_of_le Nat.zero_lt_one (Nat.le_of_ble_eq_true rfl)) (r:=[]) rfl;obtain⟨q0,q1,q2,q3,q4,q5,q6⟩:=p2;have p1':aP (.ixs 6) [u,.int .i64 0]=some (.ptr bi oi'):=p1;have on:aq [.int .u8 ((1:Nat):Int),.str tg,.str ky,vA,.str [],vC]=true:=by
  have:=NH.ones nh0;simpa[NT.cells]using this
 have n6:=F6.next;have n36:=F36.next;obtain⟨h7,e_h7⟩:∃h7,h7=halloc h6 [.int .u8 0,.str [],.str [],.nils,.str [],.nils]:=⟨_,rfl⟩;have F_h7:Fr [] h6 h7:=e_h7▸Fr.halloc F6.wf _;have o_h7:Own h7 h6.next [.int .u8 0,.str [],.str [],.nils,.str [],.nils]:=e_h7▸Own.new F6.wf _;simp only[evs,seval,p1',q6,←e_h7];refine ab (c':=[.int .u8 ((1:Nat):Int),.str tg,.str ky,vA,.str [],vC]) F_h7.wf o_h7 rfl on rfl ?_;rintro h8 o8 F8 n8;have F68:Fr [] h6 h8:=F_h7.fresh F8 F6.wf (Nat.le_refl _);have F38:=F36.then F68;have c8:∀{h'},Fr [] h8 h'→ak h' h6.next 0 6=some [.int .u8 ((1:Nat):Int),.str tg,.str ky,vA,.str [],vC]:=fun f=>by rw[(f.get o8).ld];rfl
 have nh8:∀{h'},Fr [] h8 h'→NH h' (.cons 1 tg ky (sl.map (att x)) [] vA vC sub' .nil):=fun f=>(st [] _ (by simp) (F68.then f)).1;simp only[evs,seval,c8 (Fr.refl F8.wf)];refine aa (z8 F8.wf (nh8 (Fr.refl F8.wf))) ?_;rintro _ h9 ⟨F9,rfl⟩;by_cases c5:NT.rC 1 tg ky (sl.map (att x)) [] sub'=0
 ·rw[if_pos c5];simp only[evs,seval,show¬(14:Int)=0 by decide];refine ab (c':=Z6') F9.wf ((F38.then F9).get o_h3) rfl rfl rfl ?_;rintro h10 o10 F10 n10;simp only[evs,seval,z6 o10];exact⟨(F03.then (F38.then F9)).fresh F10 w (by omega),_,14,rfl,rfl,rfl,by omega,fun e=>by cases e⟩
 rw[if_neg c5];simp only[evs,seval,c8 F9];refine aa (rB F9.wf (nh8 F9)) ?_;rintro _ h10 ⟨F10,rfl⟩;have cnt:=NT.rC_count c5;rw[em]at cnt;by_cases c6:most<(NT.rC 1 tg ky (sl.map (att x)) [] sub':Nat)
 ·simp only[evs,seval,eq_true c6];refine ab (c':=Z6') F10.wf (((F38.then F9).then F10).get o_h3) rfl rfl rfl ?_;rintro h11 o11 F11 n11;simp only[evs,seval,z6 o11];exact⟨(F03.then ((F38.then F9).then F10)).fresh F11 w (by omega),_,14,rfl,rfl,rfl,by omega,fun e=>by cases e⟩
 simp only[evs,seval,eq_false c6,c8 (F9.then F10)];refine ab (c':=[.int .u8 ((1:Nat):Int),.str tg,.str ky,vA,.str [],vC]) F10.wf (((F38.then F9).then F10).get o_h3) rfl on rfl ?_;rintro h11 o11 F11 n11;have r11:ak h11 h2.next 0 6=some [.int .u8 ((1:Nat):Int),.str tg,.str ky,vA,.str [],vC]:=by rw[o11.ld];rfl
 simp only[evs,seval,r11];exact⟨(F03.then ((F38.then F9).then F10)).fresh F11 w (by omega),_,0,rfl,on,rfl,by omega,fun _=>⟨by omega,by omega,by rw[cnt];exact c5,by rw[cnt];omega⟩⟩
theorem qq{h:Heap}{b o n m:Nat}{cs:List V}(e:ak h b o (n+m)=some cs):ak h b o n=some (cs.take n):=by
 simp only[ak]at e⊢;cases cc:cW h b with
 |none=>rw[cc]at e;cases e
 |some C=>
  rw[cc]at e;simp only[bq]at e⊢;have tk:∀(n:Nat)(l:List V),l.length<n→cJ n l=none:=by
   intro n;induction n with
   |zero=>intro l hl;omega
   |succ n ih=>
    intro l hl;cases l with
    |nil=>rfl
    |cons a l=>rw[dV,ih l (by simpa using hl)];rfl
  have hl:n+m≤(C.drop o).length:=by
   rcases Nat.lt_or_ge (C.drop o).length (n+m)with z|z
   ·rw[tk _ _ z]at e;cases e
   ·exact z
  rw[aU _ _ hl]at e;rw[aU _ _ (by omega)];have e':=Option.some.inj e;rw[←e',List.take_take,Nat.min_eq_left (by omega)]
def GK(Ks:List Knd):Prop:=∀q∈Ks,okK q=true∧PG (.cons q.k q.tg q.ky q.sl q.tx q.vs q.vp q.sub .nil)∧1≤q.base∧q.base≤40
theorem A1{h:Heap}{Ks:List Knd}{cap:Int}{vK:V}{x:Itm}(w:WF h)(rk:Recs Knd.cells 9 h vK Ks)(kh:∀q∈Ks,KndH h q)(gk:GK Ks)(hK:Ks.length<256)(a:ItmH h x):
 ao go 58 [.agg [vK,.int .i64 cap],.agg x.cells,.int .i64 0] h fun u h'=>Fr [] h h'∧∃e:Int,u=.int .i64 e∧0≤e∧(e=0→okI x Ks.length=true∧bQ Ks cap x=0):=by
 have v1:vK.one=true:=Sl.one rk;obtain⟨h1,e_h1⟩:∃h1,h1=halloc h [vK,.int .i64 cap]:=⟨_,rfl⟩;have F_h1:Fr [] h h1:=e_h1▸Fr.halloc w _;have o_h1:Own h1 h.next [vK,.int .i64 cap]:=e_h1▸Own.new w _;obtain⟨h2,e_h2⟩:∃h2,h2=halloc h1 x.cells:=⟨_,rfl⟩;have F_h2:Fr [] h1 h2:=e_h2▸Fr.halloc F_h1.wf _;have o_h2:Own h2 h1.next x.cells:=e_h2▸Own.new F_h1.wf _;have n1:h1.next=h.next+1:=by rw[e_h1];rfl
 have F02:=F_h1.then F_h2;have oc:=F_h2.get o_h1;have c0:∀{h'},Fr [] h2 h'→ag h' h.next 0=some vK:=fun f=>(f.get oc).ld1 0;have c1:∀{h'},Fr [] h2 h'→ag h' h.next 1=some (.int .i64 cap):=fun f=>(f.get oc).ld1 1;have i1:∀{h'},Fr [] h2 h'→ag h' h1.next 1=some (.int .u8 (x.type:Int)):=fun f=>(f.get o_h2).ld1 1;have i4:∀{h'},Fr [] h2 h'→ak h' h1.next 0 4=some x.cells:=fun f=>by rw[(f.get o_h2).ld];rfl
 have r0:Fr [] h2 h2:=Fr.refl F02.wf;refine ah rfl rfl ?_;simp only[fn58,evs,seval,←e_h1,←e_h2,i4 r0,c0 r0,(Recs.fr rk F02).len];refine aa (zw F02.wf (a.fr F02) hK) ?_;rintro _ h3 ⟨rfl,F3⟩;cases d1:okI x Ks.length
 ·simp only[evs,seval];exact⟨F02.then F3,6,rfl,by omega,fun e=>by cases e⟩
 have ht:x.type<Ks.length:=by
  simp only[okI,Bool.and_eq_true,decide_eq_true_eq]at d1;exact d1.2.1
 simp only[evs,seval];refine Cg [⟨none,.p (.faddr 0) [.v 3],none⟩,⟨none,.ld 1 false (.l 0),none⟩,⟨none,.p (.faddr 1) [.v 4],none⟩,⟨none,.ld 1 false (.l 0),none⟩,⟨none,.p (.ixs 9) [.l 2,.l 0],none⟩,⟨none,.p (.faddr 0) [.l 0],none⟩,⟨none,.ld 6 true (.l 0),none⟩,⟨none,.ld 4 true (.v 4),none⟩,⟨none,.p (.faddr 1) [.v 3],none⟩,⟨none,.ld 1 false (.l 0),none⟩,⟨none,.cf 115 [.l 3,.l 2,.l 0],none⟩,⟨none,.p .mv [.l 0],none⟩,⟨none,.p (.ext 0) [.l 0],none⟩,⟨none,.p (.ext 1) [.l 1],none⟩] _ rfl ?_;have F4:=Fr.halloc F3.wf [.int .u8 0,.str [],.str [],.nils,.str [],.nils];have o4:=Own.new F3.wf [.int .u8 0,.str [],.str [],.nils,.str [],.nils];have n4:(halloc h3 [.int .u8 0,.str [],.str [],.nils,.str [],.nils]).next=h3.next+1:=rfl;generalize halloc h3 [.int .u8 0,.str [],.str [],.nils,.str [],.nils]=h4 at F4 o4 n4⊢;have F24:=F3.then F4;have F04:=F02.then F24;obtain⟨bk,ok',q,p1,p2,p3,p4⟩:=Recs.ix dQ (Recs.fr rk F04) .u8 (x.type:Int) (by omega) (by omega);rw[Int.toNat_natCast]at p4;have qm:=List.mem_of_getElem? p4;obtain⟨okq,pgq,_⟩:=gk q qm;have p6:ak h4 bk ok' 6=some q.part:=qq (m:=3) p3;simp only[evs,seval,eff,c0 F24,c1 F24,i1 F24,i4 F24,p1,p6];refine aa (vV F4.wf ((kh q qm).fr F04) pgq (a.fr F04)) ?_;rintro _ h5 ⟨F5,cs,e,rfl,on,cl,e0,he⟩;have F25:=F24.then F5;obtain⟨bk',ok'',q',p1',p2',p3',p4'⟩:=Recs.ix dQ (Recs.fr rk (F04.then F5)) .u8 (x.type:Int) (by omega) (by omega);rw[Int.toNat_natCast,p4]at p4';cases p4';rw[p1]at p1';cases p1';have p6':ak h5 bk ok' 6=some q.part:=qq (m:=3) p3';simp only[evs,eff,c7,sj];refine ab (c':=cs) F5.wf (F5.get o4) cl on (by
  rw[bE _ _ _ (by show 0+cs.length≤6;omega)];simp[V.cells];omega) ?_
 rintro h6 o6 F6 n6;have n3:=F3.next;have n02:=F02.next;have n5:=F5.next;simp only[evs,seval,DF,eff,c0 F24,c1 F24,i1 F24,i4 F24,p6];have Fin:Fr [] h h6:=((F02.then F3).then (F4.then F5)).fresh F6 w (by omega);by_cases d2:(0:Int)<e
 ·simp only[seval,eq_true d2];exact⟨Fin,14,rfl,by omega,fun e=>by cases e⟩
 ·simp only[seval,eq_false d2];refine⟨Fin,0,rfl,by omega,fun _=>?_⟩;obtain⟨y1,y2,y3,y4,y5,y6⟩:=he (by omega);have er:bQ Ks cap x=dO q.k q.tg q.ky q.sl q.tx q.sub x cap:=by simp[bQ,p4]
  simp only[okK,Bool.and_eq_true,decide_eq_true_eq]at okq;rw[er];unfold dO;rw[if_neg (by omega),if_neg okq.2,y4,if_neg (by decide),if_neg (by intro z;rcases z with z|z;exact y5 z;omega)]
def Itm.ent(x:Itm)(b:Int)(k:Bool):List V:=x.cells++[.int .i64 b,.bool k]
theorem zf{h:Heap}{Ks:List Knd}{cap:Int}{vK:V}{x:Itm}(w:WF h)(rk:Recs Knd.cells 9 h vK Ks)(a:ItmH h x)(ht:x.type<Ks.length):
 ao go 59 [.agg [vK,.int .i64 cap],.agg x.cells] h fun u h'=>u=.agg (x.ent (aN Ks x) false)∧Fr [] h h':=by
 have v1:vK.one=true:=Sl.one rk;obtain⟨h1,e_h1⟩:∃h1,h1=halloc h [vK,.int .i64 cap]:=⟨_,rfl⟩;have F_h1:Fr [] h h1:=e_h1▸Fr.halloc w _;have o_h1:Own h1 h.next [vK,.int .i64 cap]:=e_h1▸Own.new w _;obtain⟨h2,e_h2⟩:∃h2,h2=halloc h1 x.cells:=⟨_,rfl⟩;have F_h2:Fr [] h1 h2:=e_h2▸Fr.halloc F_h1.wf _;have o_h2:Own h2 h1.next x.cells:=e_h2▸Own.new F_h1.wf _;obtain⟨h3,e_h3⟩:∃h3,h3=halloc h2 [.int .u64 0,.int .u8 0,.str [],.nils,.int .i64 0,.bool false]:=⟨_,rfl⟩;have F_h3:Fr [] h2 h3:=e_h3▸Fr.halloc F_h2.wf _;have o_h3:Own h3 h2.next [.int .u64 0,.int .u8 0,.str [],.nils,.int .i64 0,.bool false]:=e_h3▸Own.new F_h2.wf _;have n1:h1.next=h.next+1:=by rw[e_h1];rfl
 have n2:h2.next=h1.next+1:=by rw[e_h2];rfl
 have F23:=F_h3;have F03:=F_h1.then (F_h2.then F_h3);have c0:ag h3 h.next 0=some vK:=(F_h3.get (F_h2.get o_h1)).ld1 0;have i1:ag h3 h1.next 1=some (.int .u8 (x.type:Int)):=(F_h3.get o_h2).ld1 1;have i4:ak h3 h1.next 0 4=some x.cells:=by rw[(F_h3.get o_h2).ld];rfl
 obtain⟨bk,ok',q,p1,p2,p3,p4⟩:=Recs.ix dQ (Recs.fr rk F03) .u8 (x.type:Int) (by omega) (by omega);rw[Int.toNat_natCast]at p4;have p6:ag h3 bk (ok'+6)=some (.int .i64 q.base):=p2 6 (by omega);have eb:aN Ks x=q.base:=by simp[aN,p4]
 have u1:aY [.int .u64 0,.int .u8 0,.str [],.nils,.int .i64 0,.bool false] 0 x.cells=some (x.cells++[.int .i64 0,.bool false]):=rfl;have u2:∀b:Int,aY (x.cells++[.int .i64 0,.bool false]) 4 [.int .i64 b]=some (x.ent b false):=fun _=>rfl;refine ah rfl rfl ?_;simp only[fn59,evs,seval,eff,show x.cells.length=4 from rfl,u1,u2,←e_h1,←e_h2,←e_h3,i4,c0,i1,p1,p6];refine ab (c':=x.ent q.base false) F_h3.wf o_h3 rfl (by show aq (x.cells++[.int .i64 q.base,.bool false])=true;rw[aM,a.one];rfl) rfl ?_;rintro h4 o4 F4 n4;have ld:ak h4 h2.next 0 6=some (x.ent q.base false):=by rw[o4.ld];rfl
 simp only[evs,seval,DF,ld,i4,c0,i1,p6];exact⟨by rw[eb],F03.fresh F4 w (by omega)⟩
end Go.Ev.Lay
