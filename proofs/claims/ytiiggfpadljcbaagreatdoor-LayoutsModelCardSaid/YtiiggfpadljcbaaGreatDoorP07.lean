/- An evaluator of the program, and contracts over it: LayP to StI. -/
import Derived.Test.YtiiggfpadljcbaaGreatDoorP04
import Derived.Test.YtiiggfpadljcbaaGreatDoorP06
set_option linter.unusedSimpArgs false
set_option linter.unusedVariables false
set_option linter.constructorNameAsVariable false
set_option linter.unnecessarySimpa false
namespace Go.Ev.Lay
set_option maxRecDepth 4000
theorem fu(k:IntKind)(x:Nat)(b:Int)(n:Nat)(h:b=n)(hn:n≤64):aP (.sh false) [.int .u64 (x:Int),.int k b]=some (.int .u64 ((x/2^n:Nat):Int)):=by subst h;rw[yU _ _ _ _ oM];simp only[Int.toNat_natCast,IntKind.bits,Nat.min_eq_left hn];congr 2;rw[Int.fdiv_eq_ediv_of_nonneg _ (Int.natCast_nonneg _),Int.natCast_ediv]
theorem Ih(w x y:Nat):(BitVec.ofInt w (x:Int)&&&BitVec.ofInt w (y:Int)).toNat=(x%2^w)&&&(y%2^w):=by simp[BitVec.toNat_and]
theorem Ku(w x y:Nat):(BitVec.ofInt w (x:Int)^^^BitVec.ofInt w (y:Int)).toNat=(x%2^w)^^^(y%2^w):=by simp[BitVec.toNat_xor]
theorem yX(k:IntKind)(a b:Int):aP (.ib .and) [.int k a,.int k b]=some (.int k (bD k (BitVec.toNat (BitVec.ofInt k.bits a&&&BitVec.ofInt k.bits b)))):=by simp only[aP,bG,cond_true,gU]
theorem Jk(k:IntKind)(a b:Int):aP (.ib .xor) [.int k a,.int k b]=some (.int k (bD k (BitVec.toNat (BitVec.ofInt k.bits a^^^BitVec.ofInt k.bits b)))):=by simp only[aP,bG,cond_true,gU]
theorem p64:2^IntKind.u64.bits=18446744073709551616:=rfl
theorem q64:2^IntKind.i64.bits=18446744073709551616:=rfl
theorem gJ(x y:Nat)(a b:Int)(ha:a=x)(hb:b=y)(hx:x<18446744073709551616)(hy:y<18446744073709551616):aP (.ib .and) [.int .u64 a,.int .u64 b]=some (.int .u64 ((x&&&y:Nat):Int)):=by subst ha hb;have hxy:x&&&y<18446744073709551616:=Nat.lt_of_le_of_lt Nat.and_le_left hx;rw[yX,Ih,p64,Nat.mod_eq_of_lt hx,Nat.mod_eq_of_lt hy,bH _ oM oM]
theorem pB(x y:Nat)(a b:Int)(ha:a=x)(hb:b=y)(hx:x<18446744073709551616)(hy:y<18446744073709551616):aP (.ib .xor) [.int .u64 a,.int .u64 b]=some (.int .u64 ((x^^^y:Nat):Int)):=by subst ha hb;have hxy:x^^^y<2^64:=Nat.xor_lt_two_pow (eV hx) (eV hy);rw[Jk,Ku,p64,Nat.mod_eq_of_lt hx,Nat.mod_eq_of_lt hy,bH _ oM oM]
theorem BN(x y:Nat)(h:x+y<18446744073709551616):aP (.ib .add) [.int .u64 (x:Int),.int .u64 (y:Int)]=some (.int .u64 ((x+y:Nat):Int)):=by rw[yY,bH _ oM oM];simp
theorem Jh(w:Nat)(hw:w<9223372036854775808):aP (.ib .and) [.int .i64 (w:Int),.int .i64 127]=some (.int .i64 ((w%128:Nat):Int)):=by have e:(127:Int)=((127:Nat):Int):=rfl;rw[yX,e,Ih,q64,Nat.mod_eq_of_lt (oM:w<18446744073709551616),(iR:127%18446744073709551616=2^7-1),Nat.and_two_pow_sub_one_eq_mod,ab _ oM oM]
theorem vu{h:Heap}{x:Nat}(hx:x<18446744073709551616):ao go 122 [.int .u64 (x:Int)] h fun u h'=>u=.int .i64 (pop 64 x)∧h'=h:=by
 obtain⟨y,hy⟩:∃y,y=((x/2)&&&6148914691236517205)+(x&&&6148914691236517205):=⟨_,rfl⟩;obtain⟨z,hz⟩:∃z,z=((y/4)&&&3689348814741910323)+(y&&&3689348814741910323):=⟨_,rfl⟩;obtain⟨t,ht⟩:∃t,t=(z/16+z)&&&1085102592571150095:=⟨_,rfl⟩;let⟨by',bz16,bz,bt,u,hu,bu,v,hv,bv,w,hw,bw,e⟩:=KS x hx y hy z hz t ht;have s1:=fu .u64 x 1 1 rfl oM;have a1:=gJ (x/2) 6148914691236517205 _ 6148914691236517205 rfl rfl oM oM;have a2:=gJ x 6148914691236517205 _ 6148914691236517205 rfl rfl oM oM;have d1:=BN (x/2&&&6148914691236517205) (x&&&6148914691236517205) (by rw[←hy];exact by');rw[←hy]at d1;have s2:=fu .u64 y 2 2 rfl oM;have a3:=gJ (y/4) 3689348814741910323 _ 3689348814741910323 rfl rfl oM oM;have a4:=gJ y 3689348814741910323 _ 3689348814741910323 rfl rfl oM oM;have d2:=BN (y/4&&&3689348814741910323) (y&&&3689348814741910323) (by rw[←hz];exact bz);rw[←hz]at d2;have s3:=fu .u64 z 4 4 rfl oM;have d3:=BN (z/16) z bz16;have a5:=gJ (z/16+z) 1085102592571150095 _ 1085102592571150095 rfl rfl bz16 oM;rw[←ht]at a5;have s4:=fu .u64 t 8 8 rfl oM;have d4:=BN t (t/256) oM;rw[←hu]at d4;have s5:=fu .u64 u 16 16 rfl oM;have d5:=BN u (u/65536) oM;rw[←hv]at d5;have s6:=fu .u64 v 32 32 rfl oM;have d6:=BN v (v/4294967296) oM;rw[←hw]at d6;have cv:aP (.conv .i64) [.int .u64 (w:Int)]=some (.int .i64 (w:Int)):=by rw[pC,ab _ oM oM]
 have a6:=Jh w oM;rw[e]at a6;simp only[seval]at s1 s2 s3 s4 s5 s6;refine ac ?_;simp only[tW,tV,tY,d9,nR,BR,BP,A5,kw,ko,nA,ny,oL,jG,s9,di,fS,cI,dV,eL,fJ,dO,T.get_set,cP,iB,iu,nJ,fF,tM,seval,s1,a1,a2,d1,s2,a3,a4,d2,s3,d3,a5,s4,d4,s5,d5,s6,d6,cv,a6];exact⟨trivial,trivial⟩
def uw(x:Nat):V:=.int .u64 (x:Int)
def flc(n m:Int)(ws:List Nat):List V:=.int .i64 n::.int .i64 m::ws.map uw
structure WOK(ws:List Nat)(bs:List Bool):Prop where
 len:ws.length=64
 w:∀k,k<64→∃x,ws[k]? =some x∧x<18446744073709551616∧∀j,j<64→x.testBit j=bs.getD (64*k+j) false
def Fl(h:Heap)(b:Nat)(bs:List Bool):Prop:=∃ws,Own h b (flc bs.length (bs.count true) ws)∧WOK ws bs∧bs.length≤4096
theorem Fl.fr{h h':Heap}{b:Nat}{bs:List Bool}(a:Fl h b bs)(f:Fr [] h h'):Fl h' b bs:=by let⟨ws,o,x⟩:=a;exact⟨ws,f.get o,x⟩
theorem uO(n m:Int)(ws:List Nat)(k:Nat):nth (flc n m ws) (2+k)=(ws[k]?).map uw:=by rw[dL,Nat.add_comm];simp[flc]
theorem CB(i:Nat):aP (.ib .quo) [.int .i64 (i:Int),.int .i64 64]=some (.int .i64 ((i/64:Nat):Int))∨i>9000000:=by by_cases h:i>9000000;exact .inr h;left;rw[qY _ _ 64 dI,show Int.tdiv (i:Int) 64=((i/64:Nat):Int)from(Int.ofNat_tdiv i 64).symm,ab _ oM oM]
theorem Cv(i:Nat):aP (.ib .rem) [.int .i64 (i:Int),.int .i64 64]=some (.int .i64 ((i%64:Nat):Int)):=by rw[iW _ _ 64 dI,show Int.tmod (i:Int) 64=((i%64:Nat):Int)from(Int.ofNat_tmod i 64).symm]
theorem Lb(x j:Nat):decide (((x/2^j&&&1:Nat):Int)=1)=x.testBit j:=by grind
theorem yy{h:Heap}{b:Nat}{bs:List Bool}{i:Nat}(f:Fl h b bs)(hi:i<bs.length):ao go 120 [.ptr b 0,.int .i64 (i:Int)] h fun u h'=>u=.bool (bs.getD i false)∧h'=h:=by
 let⟨ws,o,ok,hn⟩:=f;let⟨x,e1,e2,e3⟩:=ok.w (i/64) oM;have q1:=(CB i).resolve_right oM;have q2:=Cv i;have q3:=gX 1 b 2 64 .i64 ((i/64:Nat):Int) oM oM;have q4:ag h b (2+(i/64) *1)=some (.int .u64 (x:Int)):=by rw[o.ld1,Nat.mul_one,uO,e1];rfl
 have q5:=fu .i64 x ((i%64:Nat):Int) (i%64) rfl oM;have q6:=gJ (x/2^(i%64)) 1 _ 1 rfl rfl (Nat.lt_of_le_of_lt (Nat.div_le_self _ _) e2) oM;simp only[Int.toNat_natCast]at q3;refine ac ?_;simp only[tW,tV,tY,d9,nR,BR,BP,A5,kw,ko,zM,pE,gh,nA,ny,oL,jG,s9,di,fS,cI,dV,eL,fJ,dO,T.get_set,cP,iB,iu,nJ,fF,tM,qZ,mU,vq,seval,Nat.zero_add,q1,q2,q3,q4,q5,q6,Lb];rw[e3 (i%64) oM,(oM:64*(i/64)+i%64=i)];exact⟨rfl,trivial⟩
theorem count_set:∀(bs:List Bool)(i:Nat)(v:Bool),i<bs.length→bs.getD i false≠v→((bs.set i v).count true:Int)=bs.count true+if v=true then 1 else-1
 |b::bs,0,v,_,h=>by cases b<;>cases v<;>simp at h⊢ <;>omega
 |b::bs,i+1,v,hi,h=>by grind
theorem vW:∀(bs:List Bool)(i:Nat),bs.set i (bs.getD i false)=bs
 |[],_=>rfl
 |b::bs,0=>by simp
 |b::bs,i+1=>by have:=vW bs i;simp at this⊢;exact this
theorem WOK.flip{ws:List Nat}{bs:List Bool}(ok:WOK ws bs){i x:Nat}{v:Bool}(hi:i<bs.length)(h4:bs.length≤4096)(hx:ws[i/64]? =some x)(hv:bs.getD i false≠v):WOK (ws.set (i/64) (x^^^2^(i%64))) (bs.set i v):=by refine⟨by rw[List.length_set];exact ok.len,fun k hk=>?_⟩;let⟨y,e1,e2,e3⟩:=ok.w k hk;by_cases c:k=i/64;subst c;rw[hx]at e1;cases e1;refine⟨x^^^2^(i%64),by simp[ok.len,hk],?_,fun j hj=>?_⟩;have:=Nat.xor_lt_two_pow (n:=64) (x:=x) (y:=2^(i%64)) (eV e2) (Nat.pow_lt_pow_right oM oM);simpa using this;grind;grind
theorem GI(n m:Int)(ws:List Nat)(k y:Nat):(flc n m ws).set (2+k) (.int .u64 (y:Int))=flc n m (ws.set k y):=by rw[Nat.add_comm];simp[flc,List.map_set,uw]
theorem dt(n m:Int)(ws:List Nat):(flc n m ws).length=ws.length+2:=by simp[flc]
theorem jV(l:List V):aX l 0 []=some l:=by cases l<;>rfl
theorem wK(n m m':Int)(ws:List Nat):aX (flc n m ws) 1 [.int .i64 m']=some (flc n m' ws):=by show aX (.int .i64 n::.int .i64 m::ws.map uw) (0+1) [.int .i64 m']=_;rw[bj,aO,jV];rfl
theorem Du(n n' m:Int)(ws:List Nat):aX (flc n m ws) 0 [.int .i64 n']=some (flc n' m ws):=by show aX (.int .i64 n::.int .i64 m::ws.map uw) 0 [.int .i64 n']=_;rw[aO,jV];rfl
theorem FD(k:IntKind)(j:Nat)(hj:j<64):aP (.sh true) [.int .u64 1,.int k (j:Int)]=some (.int .u64 ((2^j:Nat):Int)):=by have h2:2^j<2^64:=Nat.pow_lt_pow_right oM hj;rw[Ee _ _ _ _ oM];simp only[Int.toNat_natCast,IntKind.bits,Nat.min_eq_left (oM:j≤64),Int.one_mul];rw[bH _ (Int.natCast_nonneg _) (Int.ofNat_le.2 (Nat.le_of_lt_succ (eV h2)))]
theorem zW{h:Heap}{b:Nat}{bs:List Bool}{i:Nat}{v:Bool}(w:WF h)(f:Fl h b bs)(hi:i<bs.length):ao go 93 [.ptr b 0,.int .i64 (i:Int),.bool v] h fun u h'=>u=.tup []∧Fl h' b (bs.set i v)∧Fr [b] h h'∧h'.next=h.next:=by
 have f0:=f;let⟨ws,o,ok,hn⟩:=f;let⟨x,e1,e2,e3⟩:=ok.w (i/64) oM;have q1:=(CB i).resolve_right oM;have q2:=Cv i;have q3:=gX 1 b 2 64 .i64 ((i/64:Nat):Int) oM oM;simp only[Int.toNat_natCast,Nat.mul_one]at q3;have q4:ag h b (2+i/64)=some (.int .u64 (x:Int)):=by rw[o.ld1,uO,e1];rfl
 have q5:=FD .i64 (i%64) oM;have h2:2^(i%64)<2^64:=Nat.pow_lt_pow_right oM oM;have q6:=pB x (2^(i%64)) _ _ rfl rfl e2 (eV h2);have lG:bs.count true≤bs.length:=List.count_le_length;refine ac ?_;simp only[evs,seval];refine aa (yy f0 hi) ?_;rintro _ _ ⟨rfl,hh⟩;subst hh;by_cases hv:bs.getD i false=v;simp only[evs,seval,eq_true hv];rw[←hv,vW];exact⟨f0,Fr.refl w⟩;simp only[evs,seval,eff,eq_false hv,q1,q2,q3,q4,q5,q6];refine ah (c':=flc bs.length (bs.count true) (ws.set (i/64) (x^^^2^(i%64)))) w o rfl rfl ?_ ?_;rw[(iR:V.cells (.int .u64 ((x^^^2^(i%64):Nat):Int))=[.int .u64 ((x^^^2^(i%64):Nat):Int)]),fC _ _ _ (by rw[dt,ok.len];omega),GI];rintro h1 o1 F1 n1;have cs:=count_set bs i v hi hv;have okf:=ok.flip hi hn e1 hv;have ln:((bs.set i v).length:Int)=bs.length:=by simp
 cases v;simp(disch:=omega) only[evs,seval,DF,ab,q4,o1.ld1,flc];apply ah (c':=flc bs.length ((bs.count true:Int)-1) (ws.set (i/64) (x^^^2^(i%64)))) F1.wf o1 rfl rfl (wK _ _ _ _);rintro h2 o2 F2 n2;simp only[evs];simp only[Bool.false_eq_true,if_false]at cs;refine⟨⟨_,by rw[ln,cs,(oM:(bs.count true:Int)+-1=bs.count true-1)];exact o2,okf,by simpa using hn⟩,F1.trans F2 w (fun x hx=>.inl hx) (fun x hx=>.inl hx),n2.trans n1⟩;simp(disch:=omega) only[evs,seval,DF,ab,q4,o1.ld1,flc];apply ah (c':=flc bs.length ((bs.count true:Int)+1) (ws.set (i/64) (x^^^2^(i%64)))) F1.wf o1 rfl rfl (wK _ _ _ _);rintro h2 o2 F2 n2;simp only[evs];simp only[if_true]at cs;refine⟨⟨_,by rw[ln,cs];exact o2,okf,by simpa using hn⟩,F1.trans F2 w (fun x hx=>.inl hx) (fun x hx=>.inl hx),n2.trans n1⟩
def mA(n:Nat)(a k:Int):Int:=if a<0∨k<0∨n<a∨n-a<k then 4 else 0
theorem ka{h:Heap}{b:Nat}{bs:List Bool}{a k:Int}(f:Fl h b bs)(a0:-9223372036854775808≤a)(a1:a≤9223372036854775807):ao go 90 [.ptr b 0,.int .i64 a,.int .i64 k] h fun u h'=>u=.int .i64 (mA bs.length a k)∧h'=h:=by let⟨ws,o,ok,hn⟩:=f;have q:ag h b 0=some (.int .i64 (bs.length:Int)):=o.ld1 0;unfold mA;by_cases c1:a<0;refine ac ?_;simp only[evs,seval,c1];simp;by_cases c2:k<0;refine ac ?_;simp only[evs,seval,c1,c2];simp;by_cases c3:(bs.length:Int)<a;refine ac ?_;simp only[evs,seval,q,c1,c2,c3];simp;by_cases c4:(bs.length:Int)-a<k;refine ac ?_;simp(disch:=omega) only[evs,seval,ab,q,c1,c2,c3,c4];simp;refine ac ?_;simp(disch:=omega) only[evs,seval,ab,q,c1,c2,c3,c4];simp
theorem GP{h:Heap}{b:Nat}{bs:List Bool}{i:Int}(f:Fl h b bs)(a0:-9223372036854775808≤i)(a1:i≤9223372036854775807):ao go 71 [.ptr b 0,.int .i64 i] h fun u h'=>(u=if 0≤i∧i<bs.length then .tup [.bool (bs.getD i.toNat false),.int .i64 0]else .tup [.bool false,.int .i64 4])∧h'=h:=by
 refine ac ?_;simp only[evs,seval];refine aa (ka f a0 a1) ?_;rintro _ _ ⟨rfl,hh⟩;subst hh;by_cases c:0≤i∧i<bs.length;have e:mA bs.length i 1=0:=by unfold mA;rw[if_neg oM]
 obtain⟨j,rfl⟩:∃j:Nat,i=j:=⟨i.toNat,oM⟩;rw[e,if_pos c];simp only[evs,seval];apply aa (yy f oM);rintro _ _ ⟨rfl,hh⟩;subst hh;simp only[evs,seval,Int.toNat_natCast];have e:mA bs.length i 1=4:=by unfold mA;rw[if_pos oM]
 rw[e,if_neg c];simp only[evs,seval,(oM:¬(4:Int)=0)]
theorem GM{h:Heap}{b:Nat}{bs:List Bool}{i:Int}{v:Bool}(w:WF h)(f:Fl h b bs)(a0:-9223372036854775808≤i)(a1:i≤9223372036854775807):ao go 54 [.ptr b 0,.int .i64 i,.bool v] h fun u h'=>
 (u=.int .i64 (if 0≤i∧i<bs.length then 0 else 4))∧Fl h' b (if 0≤i∧i<bs.length then bs.set i.toNat v else bs)∧Fr [b] h h'∧h'.next=h.next:=by
 refine ac ?_;simp only[evs,seval];refine aa (ka f a0 a1) ?_;rintro _ _ ⟨rfl,hh⟩;subst hh;by_cases c:0≤i∧i<bs.length;have e:mA bs.length i 1=0:=by unfold mA;rw[if_neg oM]
 obtain⟨j,rfl⟩:∃j:Nat,i=j:=⟨i.toNat,oM⟩;rw[e,if_pos c,if_pos c];simp only[evs,seval];apply aa (zW w f oM);rintro _ h1 ⟨rfl,f1,F1,n1⟩;simp only[evs,seval,Int.toNat_natCast];exact⟨f1,F1,n1⟩;have e:mA bs.length i 1=4:=by unfold mA;rw[if_pos oM]
 rw[e,if_neg c,if_neg c];simp only[evs,seval,(oM:¬(4:Int)=0)];exact⟨f,Fr.refl w⟩
theorem JF(h:Heap):WOK (List.replicate 64 0) []:=⟨iS,fun k hk=>⟨0,by rw[List.getElem?_replicate,if_pos hk],oM,fun j _=>by simp⟩⟩
theorem GN{h:Heap}(w:WF h):ao go 52 [.int .i64 0] h fun u h'=>∃b,u=.tup [.ptr b 0,.int .i64 0]∧h.next≤b∧Fl h' b []∧Fr [] h h':=by refine ac ?_;simp only[evs,seval,(oM:¬(0:Int)<0),(oM:¬(4096:Int)<0)];exact⟨_,rfl,Nat.le_refl _,⟨List.replicate 64 0,Own.new w _,JF h,iS⟩,Fr.halloc w _⟩
theorem Sl.frb{h h':Heap}{esz:Nat}{v:V}{n:Nat}{cs:List V}{b:Nat}{c c':List V}(a:Sl h esz v n cs)(f:Fr [b] h h')(o:Own h b c)(o':Own h' b c')(hl:c'.length=c.length)(hd:cs≠[]→∃x∈cs,x∉c):Sl h' esz v n cs:=by
 let⟨e1,e2⟩:=a;have main:∀(bb oo:Nat),(∃d,Own h bb d∧oo+n*esz≤d.length∧cs=(d.drop oo).take (n*esz))→∃d,Own h' bb d∧oo+n*esz≤d.length∧cs=(d.drop oo).take (n*esz):=by rintro bb oo ⟨d,od,h1,h2⟩;by_cases e:bb=b;subst e;have:=od.uniq o;subst this;by_cases hL:cs=[];grind;grind;exact⟨d,f.own _ _ (eV e) od,h1,h2⟩
 refine⟨e1,?_⟩;cases v with
 |slice bb oo len cap=>let⟨x1,x2,x3⟩:=e2;exact⟨x1,x2,main bb oo x3⟩
 |sliceU bb oo len cap=>let⟨x1,x2,x3⟩:=e2;exact⟨x1,x2,main bb oo x3⟩
 |_=>exact e2
theorem Bools.frb{h h':Heap}{v:V}{bs:List Bool}{b:Nat}{n m n' m':Int}{ws ws':List Nat}(a:Bools h v bs)(f:Fr [b] h h')(o:Own h b (flc n m ws))(o':Own h' b (flc n' m' ws'))(hl:ws'.length=ws.length):Bools h' v bs:=by
 refine Sl.frb a f o o' (by simp[dt,hl]) fun hne=>?_;cases bs with
 |nil=>simp at hne
 |cons x bs=>exact⟨.bool x,iS,by simp[flc,uw]⟩
theorem E8(bs:List Bool)(i:Nat)(x:Bool)(h:bs[i]? =some x):((bs.take i).map V.bool++List.replicate (bs.length-i) (V.bool false)).set i (V.bool x)=(bs.take (i+1)).map V.bool++List.replicate (bs.length-(i+1)) (V.bool false):=by
 have hi:i<bs.length:=by grind
 have hl:((bs.take i).map V.bool).length=i:=by simp;omega
 rw[List.set_append,if_neg oM,hl,Nat.sub_self,(oM:bs.length-i=(bs.length-(i+1))+1),List.replicate_succ,List.set_cons_zero,List.take_add_one,h];simp
theorem Dt{h:Heap}{b:Nat}{bs:List Bool}(w:WF h)(f:Fl h b bs):ao go 91 [.ptr b 0] h fun u h'=>Bools h' u bs∧(∃c,u=.slice c 0 bs.length bs.length∧h.next≤c)∧Fr [] h h':=by
 have f0:=f;let⟨ws,o,ok,hn⟩:=f;have q:ag h b 0=some (.int .i64 (bs.length:Int)):=o.ld1 0;refine ac ?_;simp only[evs,seval,q];refine(bX _ _ _ _ _ _ _ _ oM oM oM oM).2 ?_;simp only[Int.toNat_natCast];rw[fO];obtain⟨h1,e_h1⟩:∃h1,h1=halloc h (List.replicate bs.length (.bool false)):=⟨_,rfl⟩;have F_h1:Fr [] h h1:=e_h1▸Fr.halloc w _;have o_h1:Own h1 h.next (List.replicate bs.length (.bool false)):=e_h1▸Own.new w _;simp only[evs,seval,←e_h1];refine az (fun k env hh=>∃i:Nat,env.get 12=some (.int .i64 i)∧env.get 11=some (.int .i64 bs.length)∧env.get 3=some (.slice h.next 0 bs.length bs.length)∧env.get 0=some (.ptr b 0)∧i≤bs.length∧Fr [] h hh∧
  Own hh h.next ((bs.take i).map V.bool++List.replicate (bs.length-i) (.bool false))∧k=bs.length-i) bs.length oM ?_ ?_
 ·exact⟨0,iS,iS,iS,iS,oM,F_h1,by simpa using o_h1,rfl⟩
 ·rintro k env hh ⟨i,g12,g11,g3,g0,hi,F,oo,rfl⟩;by_cases hlt:(i:Int)<bs.length
  ·have ei:bs[i]? =some (bs.getD i false):=by simp[List.getD,(oM:i<bs.length)]
   simp only[evs,seval,g12,g11,g0,hlt];apply aa (yy (f0.fr F) oM);rintro _ _ ⟨rfl,hh'⟩;subst hh';have ix:=cL 1 h.next 0 bs.length bs.length .i64 i oM hlt;simp only[Int.toNat_natCast,Nat.mul_one,Nat.zero_add]at ix;simp only[evs,seval,g3,ix];refine ah (c':=(bs.take (i+1)).map V.bool++List.replicate (bs.length-(i+1)) (.bool false)) F.wf oo rfl rfl ?_ ?_
   ·show aX _ i [.bool (bs.getD i false)]=_;rw[fC _ _ _ oO,E8 bs i _ ei]
   rintro h2 o2 F2 n2;simp(disch:=omega) only[evs,seval,ab,g12];refine rqn ⟨bs.length-(i+1),oM,i+1,iS,iX,iX,iX,oM,F.fresh F2 w (Nat.le_refl _),o2,rfl⟩
   done
  ·simp only[evs,seval,g12,g11,g3,hlt];have:i=bs.length:=oM
   subst this;simp only[List.take_length,Nat.sub_self,List.replicate_zero,List.append_nil]at oo;exact⟨Sl.lit oo iS,⟨_,rfl,Nat.le_refl _⟩,F⟩
theorem uC(B:List Bool)(k:Nat)(x:Bool)(h:B[k]? =some x):(B.take k++List.replicate (B.length-k) false).set k x=B.take (k+1)++List.replicate (B.length-(k+1)) false:=by
 have hi:k<B.length:=by grind
 have hl:(B.take k).length=k:=by simp;omega
 rw[List.set_append,if_neg oM,hl,Nat.sub_self,(oM:B.length-k=(B.length-(k+1))+1),List.replicate_succ,List.set_cons_zero,List.take_add_one,h];simp
theorem Fl.falses{h:Heap}{b N:Nat}(o:Own h b (flc N 0 (List.replicate 64 0)))(hN:N≤4096):Fl h b (List.replicate N false):=by refine⟨List.replicate 64 0,by simpa[List.count_replicate]using o,⟨iS,fun k hk=>⟨0,by rw[List.getElem?_replicate,if_pos hk],oM,fun j _=>?_⟩⟩,by simpa using hN⟩;simp only[Nat.zero_testBit,List.getD_eq_getElem?_getD,List.getElem?_replicate];split<;>rfl
theorem Bools.noint{h:Heap}{v:V}{bs:List Bool}(a:Bools h v bs):∀k n,v≠.int k n:=by rintro k n rfl;exact a.2
theorem BD{h:Heap}{b:Nat}{bs0:List Bool}{vl:V}{Ls:List (V×List Bool)}(w:WF h)(f:Fl h b bs0)(a:Vals Prod.fst h vl Ls)(al:∀p∈Ls,Bools h p.1 p.2)(hN:(Ls.flatMap Prod.snd).length≤4096)(hl:Ls.length≤100):
 ao go 92 [.ptr b 0,vl] h fun u h'=>u=.tup []∧Fl h' b (Ls.flatMap Prod.snd)∧Fr [b] h h':=by
 let⟨ws,o,ok,hn⟩:=f;obtain⟨B,hB⟩:∃B,B=Ls.flatMap Prod.snd:=⟨_,rfl⟩;rw[←hB]at hN⊢;have stay:∀{hh:Heap}{n' m':Int}{ws':List Nat},Fr [b] h hh→Own hh b (flc n' m' ws')→ws'.length=64→Vals Prod.fst hh vl Ls∧∀p∈Ls,Bools hh p.1 p.2:=by
  intro hh n' m' ws' F o' hl';refine⟨Sl.frb a F o o' (by rw[dt,dt,hl',ok.len]) fun hne=>?_,fun p hp=>Bools.frb (al p hp) F o o' (by rw[hl',ok.len])⟩;cases Ls with
  |nil=>simp at hne
  |cons p Ls=>
   refine⟨p.1,iS,?_⟩;have:=(al p iS).noint;simp only[flc,List.mem_cons,List.mem_map,not_or,not_exists,not_and];exact⟨this _ _,this _ _,fun x _ hx=>this _ _ hx.symm⟩
 have stayF:∀{hh:Heap}{bs:List Bool},Fr [b] h hh→Fl hh b bs→Vals Prod.fst hh vl Ls∧∀p∈Ls,Bools hh p.1 p.2:=fun F ⟨_,o',ok',_⟩=>stay F o' ok'.len;refine ac ?_;simp only[evs,seval];refine ah (c':=flc 0 0 (List.replicate 64 0)) w o rfl rfl ?_ ?_
 ·rw[dp _ _ _ (by rw[dt,ok.len];simp[V.cells])];simp only[List.take_zero,List.nil_append,V.cells];rw[List.drop_of_length_le (by rw[dt,ok.len];simp)];rfl
 rintro h1 o1 F1 n1;let⟨a1,al1⟩:=stay F1 o1 iS;simp only[evs,seval,a1.len];refine az (fun k env hh=>∃i:Nat,env.get 16=some (.int .i64 i)∧env.get 15=some (.int .i64 Ls.length)∧env.get 14=some vl∧env.get 0=some (.ptr b 0)∧env.get 1=some vl∧i≤Ls.length∧Fr [b] h hh∧
  Own hh b (flc ((Ls.take i).flatMap Prod.snd).length 0 (List.replicate 64 0))∧k=Ls.length-i) Ls.length oM ?_ ?_
 ·exact⟨0,iS,iS,iS,iS,iS,oM,F1,by simpa using o1,rfl⟩
 rintro k env hh ⟨i,g16,g15,g14,g0,g1,hi,F,oo,rfl⟩;let⟨a2,al2⟩:=stay F oo iS;by_cases hlt:(i:Int)<Ls.length
 ·let⟨bb,po,p,e1,e2,e3⟩:=a2.ix .i64 i oM hlt;simp only[Int.toNat_natCast]at e3;have lp:=al2 p (List.mem_of_getElem? e3);have tk:(Ls.take (i+1)).flatMap Prod.snd=(Ls.take i).flatMap Prod.snd++p.2:=by rw[List.take_add_one,e3];simp
  have hle:((Ls.take (i+1)).flatMap Prod.snd).length≤B.length:=by
   rw[hB];conv=>rhs;rw[←List.take_append_drop (i+1) Ls]
   rw[List.flatMap_append,List.length_append];omega
  rw[tk,List.length_append]at hle;simp(disch:=omega) only[evs,seval,ab,g16,g15,g14,g0,hlt,e1,e2,oo.ld1,flc,lp.len];refine ah (c':=flc ((Ls.take (i+1)).flatMap Prod.snd).length 0 (List.replicate 64 0)) F.wf oo rfl rfl ?_ ?_
  ·rw[tk,List.length_append,Int.natCast_add];exact Du _ _ _ _
  rintro h2 o2 F2 n2;simp(disch:=omega) only[evs,seval,ab,g16];refine rqn ⟨Ls.length-(i+1),oM,i+1,iS,iX,iX,iX,iX,oM,F.trans F2 w (fun x hx=>.inl hx) (fun x hx=>.inl hx),o2,rfl⟩
  done
 ·have:i=Ls.length:=oM
  subst this;rw[List.take_length,←hB]at oo;have fl0:=Fl.falses oo hN;simp only[evs,seval,g16,g15,g1,hlt,a2.len];refine az (fun k env hh=>∃j:Nat,env.get 32=some (.int .i64 j)∧env.get 31=some (.int .i64 Ls.length)∧env.get 30=some vl∧env.get 0=some (.ptr b 0)∧
   env.get 6=some (.int .i64 ((Ls.take j).flatMap Prod.snd).length)∧j≤Ls.length∧Fr [b] h hh∧Fl hh b (B.take ((Ls.take j).flatMap Prod.snd).length++List.replicate (B.length-((Ls.take j).flatMap Prod.snd).length) false)∧k=Ls.length-j) Ls.length oM ?_ ?_
  ·exact⟨0,iS,iS,iS,iX,iS,oM,F,by simpa using fl0,rfl⟩
  rintro k env hh ⟨j,g32,g31,g30,g0,g6,hj,F,fj,rfl⟩;let⟨a3,al3⟩:=stayF F fj;by_cases hlt:(j:Int)<Ls.length
  ·let⟨bb,po,p,e1,e2,e3⟩:=a3.ix .i64 j oM hlt;simp only[Int.toNat_natCast]at e3;have lp:=al3 p (List.mem_of_getElem? e3);obtain⟨K,hK⟩:∃K,K=((Ls.take j).flatMap Prod.snd).length:=⟨_,rfl⟩;rw[←hK]at g6 fj;have tk:((Ls.take (j+1)).flatMap Prod.snd).length=K+p.2.length:=by rw[List.take_add_one,e3,hK];simp
   have eB:B=(Ls.take j).flatMap Prod.snd++(p.2++(Ls.drop (j+1)).flatMap Prod.snd):=by
    rw[hB];conv=>lhs;rw[←List.take_append_drop j Ls,aK e3]
    rw[List.flatMap_append,List.flatMap_cons]
   have lB:K+p.2.length≤B.length:=by grind
   have nB:∀q,q<p.2.length→B[K+q]? =p.2[q]? :=fun q hq=>by grind
   simp only[evs,seval,g32,g31,g30,hlt,e1,e2,lp.len];refine az (fun k env' hh=>(∀s,s=32∨s=31∨s=30∨s=0→env'.get s=env.get s)∧∃q:Nat,env'.get 38=some (.int .i64 q)∧env'.get 37=some (.int .i64 p.2.length)∧env'.get 36=some p.1∧env'.get 6=some (.int .i64 ((K+q:Nat):Int))∧q≤p.2.length∧Fr [b] h hh∧
    Fl hh b (B.take (K+q)++List.replicate (B.length-(K+q)) false)∧k=p.2.length-q) p.2.length oM ?_ ?_
   ·exact⟨fun s hs=>by obtain rfl|rfl|rfl|rfl:=hs<;>simp,0,iS,iS,iS,iX,oM,F,by simpa using fj,rfl⟩
   rintro k env1 hh ⟨same,q,g38,g37,g36,g6',hq,F,fq,rfl⟩;have n32:=(same 32 iS).trans g32;have n31:=(same 31 iS).trans g31;have n30:=(same 30 iS).trans g30;have n0:=(same 0 iS).trans g0;let⟨a4,al4⟩:=stayF F fq;have lp4:=al4 p (List.mem_of_getElem? e3);by_cases hlt2:(q:Int)<p.2.length
   ·let⟨b5,p5,x,d1,d2,d3⟩:=lp4.ix .i64 q oM hlt2;simp only[Int.toNat_natCast]at d3;simp only[evs,seval,n0,g38,g37,g36,g6',hlt2,d1,d2];apply aa (zW F.wf fq oO);rintro _ h5 ⟨rfl,f5,F5,n5⟩;rw[uC B (K+q) x ((nB q oM).trans d3)]at f5;simp(disch:=omega) only[evs,seval,ab,g38,g6'];refine rqn ⟨p.2.length-(q+1),oM,fun s hs=>by obtain rfl|rfl|rfl|rfl:=hs<;>simp[n32,n31,n30,n0,g32,g31,g30,g0],q+1,iS,iX,iX,oO,oM,F.trans F5 w (fun x hx=>.inl hx) (fun x hx=>.inl hx),f5,rfl⟩
    done
   ·have:q=p.2.length:=oM
    subst this;simp(disch:=omega) only[evs,seval,ab,n32,g38,g37,hlt2];refine rqn ⟨Ls.length-(j+1),oM,j+1,iS,iX,iX,iX,iX,oM,F,by rw[tk];exact fq,rfl⟩
    done
  ·have:j=Ls.length:=oM
   subst this;rw[List.take_length,←hB]at fj;simp only[List.take_length,Nat.sub_self,List.replicate_zero,List.append_nil]at fj;simp only[evs,seval,g32,g31,hlt];exact⟨fj,F⟩
theorem Cn(n i:Nat)(v:Bool)(hi:i<n):((List.replicate i v).map V.bool++List.replicate (n-i) (V.bool false)).set i (V.bool v)=(List.replicate (i+1) v).map V.bool++List.replicate (n-(i+1)) (V.bool false):=by
 have hl:((List.replicate i v).map V.bool).length=i:=by simp
 rw[List.set_append,if_neg oM,hl,Nat.sub_self,(oM:n-i=(n-(i+1))+1),List.replicate_succ,List.set_cons_zero,List.replicate_succ'];simp
theorem Vals.one{α:Type}{f:α→V}{h:Heap}{v:V}{l:List α}(a:Vals f h v l):v.one=true:=Sl.one a
theorem GO{h:Heap}{b:Nat}{bs:List Bool}{a n:Nat}{v:Bool}(w:WF h)(f:Fl h b bs)(ha:a≤bs.length)(hn:n+bs.length≤4096):
 ao go 53 [.ptr b 0,.int .i64 (a:Int),.int .i64 (n:Int),.bool v] h fun u h'=>u=.int .i64 0∧Fl h' b (bs.take a++List.replicate n v++bs.drop a)∧Fr [b] h h':=by
 have f0:=f;let⟨ws,o,ok,hn0⟩:=f;have q:ag h b 0=some (.int .i64 (bs.length:Int)):=o.ld1 0;refine ac ?_;simp only[evs,seval];refine aa (ka f0 oM oM) ?_;rintro _ _ ⟨rfl,hh⟩;replace hh:=hh.symm;subst hh;have e:mA bs.length a 0=0:=by unfold mA;rw[if_neg oM]
 rw[e];simp(disch:=omega) only[evs,seval,ab,(oM:¬(n:Int)<0),q,(oM:¬4096-(bs.length:Int)<n)];refine(bX _ _ _ _ _ _ _ _ oM oM oM oM).2 ?_;simp only[Int.toNat_natCast];rw[fO];obtain⟨h0,e0⟩:∃h0,h0=h:=⟨h,rfl⟩;subst e0;obtain⟨h1,e_h1⟩:∃h1,h1=halloc h0 (List.replicate n (V.bool false)):=⟨_,rfl⟩;have F_h1:Fr [] h0 h1:=e_h1▸Fr.halloc w _;have o_h1:Own h1 h0.next (List.replicate n (V.bool false)):=e_h1▸Own.new w _;rw[←e_h1];simp only[evs,seval];refine az (fun k env hh=>∃i:Nat,env.get 34=some (.int .i64 i)∧env.get 33=some (.int .i64 n)∧env.get 10=some (.slice h0.next 0 n n)∧env.get 0=some (.ptr b 0)∧env.get 1=some (.int .i64 a)∧env.get 3=some (.bool v)∧i≤n∧Fr [] h0 hh∧
  Own hh h0.next ((List.replicate i v).map V.bool++List.replicate (n-i) (V.bool false))∧k=n-i) n oM ?_ ?_
 ·exact⟨0,iS,iS,iS,iS,iS,iS,oM,F_h1,by simpa using o_h1,rfl⟩
 ·rintro k env hh ⟨i,g34,g33,g10,g0,g1,g3,hi,F,oo,rfl⟩;by_cases hlt:(i:Int)<n
  ·have ix:=cL 1 h0.next 0 n n .i64 i oM hlt;simp only[Int.toNat_natCast,Nat.mul_one,Nat.zero_add]at ix;simp only[evs,seval,g34,g33,g10,g3,hlt,ix];refine ah (c':=(List.replicate (i+1) v).map V.bool++List.replicate (n-(i+1)) (V.bool false)) F.wf oo rfl rfl ?_ ?_
   ·show aX _ i [.bool v]=_;rw[fC _ _ _ oO,Cn _ _ _ oM]
   rintro h2 o2 F2 n2;simp(disch:=omega) only[evs,seval,ab,g34];refine rqn ⟨n-(i+1),oM,i+1,iS,iX,iX,iX,iX,iX,oM,F.fresh F2 w (Nat.le_refl _),o2,rfl⟩
   done
  ·have:i=n:=oM
   subst this;simp only[Nat.sub_self,List.replicate_zero,List.append_nil]at oo;have bm:Bools hh (.slice h0.next 0 i i) (List.replicate i v):=by
    have:=Sl.lit (esz:=1) (n:=i) oo iS;show Sl hh 1 _ _ _;simpa using this
   simp only[evs,seval,g34,g33,g0,hlt];apply aa (Dt F.wf (f0.fr F));rintro _ h2 ⟨bl,⟨c,rfl,hcnew⟩,F2⟩;let⟨v1,s1,b1⟩:=bl.upto iS .i64 a oM oM;let⟨v3,s3,b3⟩:=bl.from' iS .i64 a oM oM;simp only[Int.toNat_natCast]at b1 b3;have c1:=aG (Vals.one b1);have c3:=aG (Vals.one b3);let⟨h3,e_h3,F_h3,o_h3⟩:=aj F2.wf [v1,.slice h0.next 0 i i,v3];have e3:halloc h2 [v1,.slice h0.next 0 i i,v3]=h3:=e_h3.symm;simp only[evs,seval,eff,g10,g0,g1,s1,s3,c1,c3,e3];have F03:=(F.then F2).then F_h3;refine aa (BD (Ls:=[(v1,bs.take a),(.slice h0.next 0 i i,List.replicate i v),(v3,bs.drop a)]) F_h3.wf (f0.fr F03) (Sl.lit (n:=3) o_h3 rfl) ?_ ?_ iS) ?_
   ·intro p hp;simp only[List.mem_cons,List.not_mem_nil,or_false]at hp;obtain rfl|rfl|rfl:=hp
    ·exact b1.fr F_h3
    ·exact bm.fr (F2.then F_h3)
    ·exact b3.fr F_h3
   ·simp;omega
   rintro _ h4 ⟨rfl,f4,F4⟩;simp only[evs,seval,DF];refine⟨by simpa[List.flatMap_cons]using f4,F03.trans F4 w iS (fun x hx=>.inl hx)⟩
theorem KT(k:IntKind)(x n:Nat)(hn:n≤64):aP (.sh true) [.int .u64 (x:Int),.int k (n:Int)]=some (.int .u64 ((x*2^n%18446744073709551616:Nat):Int)):=by rw[Ee _ _ _ _ oM];simp only[Int.toNat_natCast,IntKind.bits,Nat.min_eq_left hn];rw[cC,←Int.natCast_mul];simp only[IntKind.wrap,IntKind.bits,IntKind.signed];simp
theorem Br{h:Heap}{b:Nat}{n m:Int}{ws:List Nat}(o:Own h b (flc n m ws))(hl:ws.length=64)(k:Nat)(hk:k≤64):Vals uw h (.slice b 2 k 64) (ws.take k):=by
 have e:(ws.take k).length=k:=by simp;omega
 refine⟨iS,?_⟩;rw[e];exact⟨rfl,hk,_,o,by rw[dt,hl];omega,by simp[flc]⟩
theorem Hq{h:Heap}{b:Nat}{bs:List Bool}{i:Nat}(f:Fl h b bs)(hi:i≤bs.length):ao go 73 [.ptr b 0,.int .i64 (i:Int)] h fun u h'=>u=.tup [.int .i64 ((bs.take i).count true:Nat),.int .i64 0]∧h'=h:=by
 have f0:=f;let⟨ws,o,ok,hn⟩:=f;have q1:=(CB i).resolve_right oM;have q2:=Cv i;have cle:∀n,(bs.take n).count true≤4096:=fun n=>Nat.le_trans List.count_le_length oO;have sl:aP (.sl (some 64) 1 false true false) [.ptr b 2,.int .i64 ((i/64:Nat):Int)]=some (.slice b 2 (i/64) 64):=by
  have hb:=bN .i64 ((i/64:Nat):Int) 64 oM oM;simp only[Int.toNat_natCast]at hb;simp only[aP,qW,aU,hb,Option.map_some,Option.getD_none,ew (oM:(64:Nat)≠0),cond_false,Nat.zero_mul,Nat.add_zero,Nat.sub_zero]
 refine ac ?_;simp only[evs,seval];refine aa (ka f0 oM oM) ?_;rintro _ _ ⟨rfl,hh⟩;replace hh:=hh.symm;subst hh;have e:mA bs.length i 0=0:=by unfold mA;rw[if_neg oM]
 rw[e];have vw:=Br o ok.len (i/64) oM;have el:((ws.take (i/64)).length:Int)=((i/64:Nat):Int):=by simp[ok.len];omega
 simp only[evs,seval,q1,sl];refine az (fun k env hh=>h=hh∧∃j:Nat,env.get 24=some (.int .i64 j)∧env.get 23=some (.int .i64 ((i/64:Nat):Int))∧env.get 22=some (.slice b 2 (i/64) 64)∧env.get 0=some (.ptr b 0)∧env.get 1=some (.int .i64 i)∧
  env.get 7=some (.int .i64 ((bs.take (64*j)).count true:Nat))∧j≤i/64∧k=i/64-j) (i/64) oM ?_ ?_
 ·exact⟨rfl,0,iS,iS,iS,iS,iS,iS,oM,rfl⟩
 rintro k env hh ⟨rfl,j,g24,g23,g22,g0,g1,g7,hj,rfl⟩;by_cases hlt:(j:Int)<((i/64:Nat):Int)
 ·let⟨b',o',x,e1,e2,e3⟩:=vw.ix .i64 j oM oM;simp only[Int.toNat_natCast]at e3;rw[List.getElem?_take,if_pos oM]at e3;let⟨y,d1,d2,d3⟩:=ok.w j oM;rw[e3]at d1;cases d1;have e2':ag h b' o'=some (.int .u64 (x:Int)):=e2;have hp:=lQ (n:=64) oM d3;have hs:(bs.take (64*(j+1))).count true=(bs.take (64*j)).count true+pop 64 x:=by
   rw[hp,←List.count_append,(oM:64*(j+1)=64*j+64),List.take_add]
  have c1:=cle (64*(j+1));have eq1:=eq_true hlt;simp only[evs,seval,g24,g23,g22,g7,eq1,e1,e2'];apply aa (vu d2);rintro _ _ ⟨rfl,hh⟩;replace hh:=hh.symm;subst hh;simp(disch:=omega) only[evs,seval,ab,g24];refine rqn ⟨i/64-(j+1),oM,rfl,j+1,iS,iX,iX,iX,iX,iX,oM,rfl⟩
  done
 ·have:j=i/64:=oM
  subst this;obtain⟨x,d1,d2,d3⟩|hq:(∃x,ws[i/64]? =some x∧x<18446744073709551616∧∀j,j<64→x.testBit j=bs.getD (64*(i/64)+j) false)∨i/64=64:=by
   by_cases hh:i/64<64
   ·exact .inl (ok.w _ hh)
   ·right;omega
  ·by_cases hr:(0:Int)<((i%64:Nat):Int)
   ·have q3:=gX 1 b 2 64 .i64 ((i/64:Nat):Int) oM (by have:=(List.getElem?_eq_some_iff.1 d1).1;rw[ok.len]at this;omega);simp only[Int.toNat_natCast,Nat.mul_one]at q3;have q4:ag h b (2+i/64)=some (.int .u64 (x:Int)):=by rw[o.ld1,uO,d1];rfl
    have q5:aP (.ib .sub) [.int .i64 64,.int .i64 ((i%64:Nat):Int)]=some (.int .i64 ((64-i%64:Nat):Int)):=by
     rw[vn,ab _ oM oM];congr 2;omega
    have q6:=KT .i64 x (64-i%64) oM;have hp:=FB (x:=x) (r:=i%64) oM;have hb:=lQ (n:=i%64) oM d3;have hs:(bs.take i).count true=(bs.take (64*(i/64))).count true+pop (i%64) x:=by
     rw[hb,←List.count_append,←List.take_add];congr 2;omega
    have c1:=cle i;simp only[evs,seval,g24,g23,g0,g1,g7,hlt,q1,q2,hr,q3,q4,q5,q6];apply aa (vu (Nat.mod_lt _ oM));rintro _ _ ⟨rfl,hh⟩;replace hh:=hh.symm;subst hh;rw[hp];simp(disch:=omega) only[evs,seval,ab];rw[hs];simp
   ·have hr0:i%64=0:=oM
    simp only[evs,seval,g24,g23,g1,g7,hlt,q2,hr];rw[(oM:64*(i/64)=i)]
  ·have hr0:¬(0:Int)<((i%64:Nat):Int):=oM
   simp only[evs,seval,g24,g23,g1,g7,hlt,q2,hr0];rw[(oM:64*(i/64)=i)]
def Glb(h:Heap):Prop:=Pl h 0 fg
theorem I4(n:Nat):bD .u64 (n:Int)=((n%18446744073709551616:Nat):Int):=by rw[cC];simp only[IntKind.wrap,IntKind.bits,IntKind.signed];simp
theorem KW(x:Nat)(h0:0<x)(hx:x<18446744073709551616):aP .neg [.int .u64 (x:Int)]=some (.int .u64 ((18446744073709551616-x:Nat):Int)):=by rw[yV,cC];simp only[IntKind.wrap,IntKind.bits,IntKind.signed];congr 2;simp;omega
theorem Ioa(x y:Nat)(b:Int)(hb:b=y):aP (.ib .mul) [.int .u64 (x:Int),.int .u64 b]=some (.int .u64 ((x*y%18446744073709551616:Nat):Int)):=by subst hb;rw[yW,←Int.natCast_mul,I4]
theorem K3(I:Nat)(h:I<64):aP (.ixa 64 1) [.ptr 0 0,.int .u64 (I:Int)]=some (.ptr 0 I):=by have q5:=gX 1 0 0 64 .u64 (I:Int) oM oM;simpa using q5
theorem Kz{h:Heap}{x t:Nat}(g:Glb h)(lo:Low x t)(hx:x<18446744073709551616)(ht:t<64):ao go 123 [.int .u64 (x:Int)] h fun u h'=>u=.int .i64 (t:Int)∧h'=h:=by
 have hx0:x≠0:=by rintro rfl;simp[Low]at lo
 have hb:=Je t ht;obtain⟨M,hM⟩:∃M,M=2^t*285870213051353865%18446744073709551616:=⟨_,rfl⟩;rw[←hM]at hb;obtain⟨I,hI⟩:∃I,I=M/288230376151711744:=⟨_,rfl⟩;rw[←hI]at hb;have q0:¬(x:Int)=0:=oM;have q1:=KW x oM hx;have q2:=gJ x (18446744073709551616-x) _ _ rfl rfl hx oM;rw[FX lo hx ht]at q2;have q3:=Ioa (2^t) 285870213051353865 285870213051353865 rfl;rw[←hM]at q3;have q4:=fu .u64 M 58 58 rfl oM;rw[(iR:(2:Nat)^58=288230376151711744),←hI]at q4;have q5:=K3 I hb.2;have q6:ag h 0 I=some (.int .u8 (t:Int)):=by rw[Own.ld1 (Pl.own g),dL,fg,List.getElem?_map,hb.1];rfl
 have q7:aP (.conv .i64) [.int .u8 (t:Int)]=some (.int .i64 (t:Int)):=by rw[pC,ab _ oM oM]
 obtain⟨P,hP⟩:∃P,P=2^t:=⟨_,rfl⟩;rw[←hP]at q2 q3;obtain⟨N,hN⟩:∃N,N=18446744073709551616-x:=⟨_,rfl⟩;rw[←hN]at q1 q2;clear hb hM hI hP hN;refine ac ?_;simp only[y7,za,lF,tW,tV,tY,d9,nR,BR,BP,A5,kw,ko,zM,pE,gh,nA,ny,oL,jG,s9,DG,di,fS,cI,dV,fJ,dO,T.get_set,cP,iB,iu,nJ,fF,tM,vq,seval,Nat.zero_add,decide_false,Bool.false_eq_true,q0,q1,q2,q3,q4,q5,q6,q7];exact⟨trivial,trivial⟩
theorem xx(l:List V)(k:IntKind)(n i:Nat)(hi:i<n):aP (.ixarr n 1 false) [.agg l,.int k (i:Int)]=nth l i:=by
 have:jP (.int k (i:Int)) n=some i:=by show(bif Nat.blt i n then some i else none)=_;rw[(Nat.blt_eq ..).mpr hi];rfl
 simp only[aP,this,Option.bind_some,cond_false,Nat.mul_one]
theorem wm(x n:Nat):pop (n+1) x=pop n x+if x.testBit n then 1 else 0:=by unfold pop;rw[List.range_succ,List.countP_append];simp[List.countP_cons]
theorem zG{x c t:Nat}(h:c≤t)(hz:∀j,c≤j→j<t→x.testBit j=false):pop t x=pop c x:=by
 obtain⟨k,rfl⟩:∃k,t=c+k:=⟨t-c,oM⟩;induction k with
 |zero=>rfl
 |succ k ih=>rw[(oM:c+(k+1)=(c+k)+1),wm,hz (c+k) oM oM,ih oM (fun j a b=>hz j a oM)];simp
theorem Jf{x j:Nat}(hx:x<18446744073709551616)(h:x.testBit j=true):j<64:=by obtain y|y:=Nat.lt_or_ge j 64;exact y;have:x<2^j:=Nat.lt_of_lt_of_le hx (show 2^64≤2^j from Nat.pow_le_pow_right oM y);rw[Nat.testBit_lt_two_pow this]at h;cases h
def Sel(bs:List Bool)(k p:Nat):Prop:=p<bs.length∧bs.getD p false=true∧(bs.take p).count true=k
theorem BT{h:Heap}{b:Nat}{bs:List Bool}{k:Nat}(g:Glb h)(f:Fl h b bs)(hk:k<bs.count true):ao go 74 [.ptr b 0,.int .i64 (k:Int)] h fun u h'=>(∃p,u=.tup [.int .i64 (p:Nat),.int .i64 0]∧Sel bs k p)∧h'=h:=by
 let⟨ws,o,ok,hn⟩:=f;have cl:bs.count true≤bs.length:=List.count_le_length;have q1:ag h b 1=some (.int .i64 (bs.count true:Int)):=o.ld1 1;have q2:ai h b 2 64=some (ws.map uw):=by
  rw[o.ld,bS,bP _ _ (by simp[dt,ok.len])];simp[flc,←ok.len];rw[List.take_of_length_le iS]
 refine ac ?_;simp only[evs,seval,(oM:¬(k:Int)<0),(oM:¬(bs.count true:Int)≤k),q1,q2];refine az (fun m env hh=>h=hh∧∃i k':Nat,env.get 27=some (.int .i64 i)∧env.get 26=some (.agg (ws.map uw))∧env.get 1=some (.int .i64 k')∧i≤64∧(bs.take (64*i)).count true+k'=k∧m=64-i) 64 oM ?_ ?_
 ·exact⟨rfl,0,k,iS,iS,iS,oM,iS,rfl⟩
 rintro m env hh ⟨rfl,i,k',g27,g26,g1,hi,hs,rfl⟩;by_cases hlt:(i:Int)<64
 ·let⟨x,d1,d2,d3⟩:=ok.w i oM;have ix:=xx (ws.map uw) .i64 64 i oM;have nx:nth (ws.map uw) i=some (.int .u64 (x:Int)):=by rw[dL,List.getElem?_map,d1];rfl
  have hp:=lQ (n:=64) oM d3;have hs2:(bs.take (64*(i+1))).count true=(bs.take (64*i)).count true+pop 64 x:=by
   rw[hp,←List.count_append,(oM:64*(i+1)=64*i+64),List.take_add]
  have c1:(bs.take (64*(i+1))).count true≤4096:=Nat.le_trans List.count_le_length oO;simp only[evs,seval,g27,g26,hlt,ix,nx];refine aa (vu d2) ?_;rintro _ _ ⟨rfl,hh⟩;replace hh:=hh.symm;subst hh;by_cases hc:((pop 64 x:Nat):Int)≤k'
  ·simp(disch:=omega) only[evs,seval,ab,g27,g1,hc];refine rqn ⟨64-(i+1),oM,rfl,i+1,k'-pop 64 x,iS,iX,oO,oM,oM,rfl⟩
   done
  ·simp only[evs,seval,g1,hc];refine az (fun m env' hh=>h=hh∧env'.get 6=some (.int .i64 i)∧∃(y c r:Nat),env'.get 7=some (.int .u64 (y:Int))∧env'.get 1=some (.int .i64 r)∧y<18446744073709551616∧c≤64∧(∀j,j<64→y.testBit j=(decide (c≤j)&&x.testBit j))∧pop c x+r=k'∧r=m) k' oM ?_ ?_
   ·exact⟨rfl,iS,x,0,k',iS,iX,d2,oM,iS,by simp[pop],rfl⟩
   rintro m env1 hh ⟨rfl,g6,y,c,r,g7,g1',hy,hc64,hb,hr,rfl⟩;have ynz:y≠0:=by
    rintro rfl;have:pop 64 x=pop c x:=zG hc64 (fun j a b=>by have:=hb j b;simp[a]at this;exact this);omega
   let⟨t,lo⟩:=yj ynz;have ht:t<64:=Jf hy lo.1;have h1:=hb t ht;rw[lo.1]at h1;have hct:c≤t:=by
    by_cases cc:c≤t
    ·exact cc
    ·simp[cc]at h1
   have hxt:x.testBit t=true:=by simpa[hct]using h1.symm
   have hpt:pop t x=pop c x:=zG hct (fun j a b=>by have:=hb j oM;rw[lo.2 j b]at this;simpa[a]using this.symm);by_cases hr0:(0:Int)<r
   ·have q5:aP (.ib .sub) [.int .u64 (y:Int),.int .u64 1]=some (.int .u64 ((y-1:Nat):Int)):=by
     rw[vn,bH _ oM oM];congr 2;omega
    have q6:=gJ y (y-1) _ _ rfl rfl hy oM;simp(disch:=omega) only[evs,seval,ab,g7,g1',hr0,q5,q6];refine rqn ⟨r-1,oM,rfl,(eG g6),y&&&(y-1),t+1,r-1,iS,oO,Nat.lt_of_le_of_lt Nat.and_le_left hy,oM,?_,?_,rfl⟩
    ·intro j hj;rw[Ba lo,hb j hj];by_cases c1:t+1≤j
     ·have:c≤j:=oM
      simp[c1,this];omega
     ·by_cases c2:j=t
      ·subst c2;simp[c1]
      ·have:j<t:=oM
       have:=hb j hj;rw[lo.2 j oM]at this;simp[c1];intro a b;simp[a,b]at this
    ·rw[wm,hpt,hxt];simp;omega
   ·simp(disch:=omega) only[evs,seval,ab,g6,g7,g1',hr0];refine aa (Kz g lo hy ht) ?_;rintro _ _ ⟨rfl,hh⟩;replace hh:=hh.symm;subst hh;simp(disch:=omega) only[evs,seval,ab];have e3:=d3 t ht;rw[hxt]at e3;refine⟨64*i+t,?_,?_,e3.symm,?_⟩
    ·congr 2;congr 1;omega
    ·obtain z|z:=Nat.lt_or_ge (64*i+t) bs.length
     ·exact z
     ·rw[List.getD_eq_getElem?_getD,List.getElem?_eq_none z]at e3;simp at e3
    ·rw[List.take_add,List.count_append,←lQ (n:=t) oM d3,hpt];omega
 ·exfalso;have:i=64:=oM
  subst this;rw[List.take_of_length_le oM]at hs;omega
def Mk(h:Heap)(pm:Option Nat)(bs:List Bool):Prop:=match pm with
 |none=>bs=[]
 |some c=>Fl h c bs
theorem Mk.fr{h h':Heap}{pm:Option Nat}{bs:List Bool}(a:Mk h pm bs)(f:Fr [] h h'):Mk h' pm bs:=by
 cases pm with
 |none=>exact a
 |some c=>exact Fl.fr a f
def Lo(h:Heap)(b:Nat)(l:List Int)(ks bs:List Bool):Prop:=∃p vk pm,Own h b [pv p,vk,pv pm]∧vk.one=true∧Ix h (.agg [pv p,vk]) l ks∧Mk h pm bs∧bs.length=l.length
theorem Lo.fr{h h':Heap}{b:Nat}{l:List Int}{ks bs:List Bool}(a:Lo h b l ks bs)(f:Fr [] h h'):Lo h' b l ks bs:=by let⟨p,vk,pm,o,v1,ix,mk,e⟩:=a;exact⟨p,vk,pm,f.get o,v1,ix.fr f,mk.fr f,e⟩
theorem Glb.fr{h h':Heap}(a:Glb h)(f:Fr [] h h'):Glb h':=f.pl _ _ iS a
theorem gL{h:Heap}{b:Nat}{l:List Int}{ks bs:List Bool}(w:WF h)(a:Lo h b l ks bs):ao go 25 [.ptr b 0] h fun u h'=>u=.int .i64 l.length∧Fr [] h h':=by let⟨p,vk,pm,o,v1,ix,mk,e⟩:=a;refine ac ?_;simp only[evs,seval,o.ld];refine aa (iY w ix) ?_;rintro _ h2 ⟨rfl,F2⟩;simp only[evs,seval];exact F2
theorem Ix.rp{h:Heap}{p:Option Nat}{vk:V}{l:List Int}{ks:List Bool}(a:Ix h (.agg [pv p,vk]) l ks):Rp h (.agg [pv p]) l:=by let⟨p',vk',L,e,r,_⟩:=a;simp only[V.agg.injEq,List.cons.injEq,and_true]at e;rw[e.1];exact r
theorem nV{h:Heap}{b:Nat}{l:List Int}{ks bs:List Bool}(w:WF h)(a:Lo h b l ks bs):ao go 31 [.ptr b 0] h fun u h'=>u=.int .i64 l.sum∧Fr [] h h':=by let⟨p,vk,pm,o,v1,ix,mk,e⟩:=a;have r:=ix.rp;refine ac ?_;simp only[evs,seval,o.ld];refine aa (jQ w r) ?_;rintro _ h2 ⟨rfl,F2⟩;simp only[evs,seval];exact F2
theorem Hy{h:Heap}{b:Nat}{l:List Int}{ks bs:List Bool}{i:Int}(w:WF h)(a:Lo h b l ks bs):
 ao go 36 [.ptr b 0,.int .i64 i] h fun u h'=>(u=if 0≤i∧i≤l.length then .tup [.int .i64 (l.take i.toNat).sum,.int .i64 0]else .tup [.int .i64 0,.int .i64 4])∧Fr [] h h':=by
 let⟨p,vk,pm,o,v1,ix,mk,e⟩:=a;refine ac ?_;simp only[evs,seval,o.ld];refine aa (Ar w ix) ?_;rintro _ h2 ⟨rfl,F2⟩;by_cases c:0≤i∧i≤l.length;simp only[if_pos c];simp only[evs,seval];exact F2;simp only[if_neg c];simp only[evs,seval];exact F2
theorem ER{h:Heap}{b:Nat}{l:List Int}{ks bs:List Bool}{i:Int}(w:WF h)(a:Lo h b l ks bs):
 ao go 33 [.ptr b 0,.int .i64 i] h fun u h'=>(u=if 0≤i∧i<l.length then .tup [.int .i64 (l.getD i.toNat 0),.int .i64 0]else .tup [.int .i64 0,.int .i64 4])∧Fr [] h h':=by
 let⟨p,vk,pm,o,v1,ix,mk,e⟩:=a;refine ac ?_;simp only[evs,seval,o.ld];refine aa (Et w ix) ?_;rintro _ h2 ⟨rfl,F2⟩;by_cases c:0≤i∧i<l.length;simp only[if_pos c];simp only[evs,seval];exact F2;simp only[if_neg c];simp only[evs,seval];exact F2
theorem B0{h:Heap}{b:Nat}{l:List Int}{ks bs:List Bool}{i:Int}(w:WF h)(a:Lo h b l ks bs):
 ao go 34 [.ptr b 0,.int .i64 i] h fun u h'=>(u=if 0≤i∧i<l.length then .tup [.bool (ks.getD i.toNat false),.int .i64 0]else .tup [.bool false,.int .i64 4])∧Fr [] h h':=by
 let⟨p,vk,pm,o,v1,ix,mk,e⟩:=a;refine ac ?_;simp only[evs,seval,o.ld];refine aa (tU w ix) ?_;rintro _ h2 ⟨rfl,F2⟩;by_cases c:0≤i∧i<l.length;simp only[if_pos c];simp only[evs,seval];exact F2;simp only[if_neg c];simp only[evs,seval];exact F2
theorem zf{h:Heap}{b:Nat}{l:List Int}{ks bs:List Bool}{i:Int}(w:WF h)(a:Lo h b l ks bs)(a0:-9223372036854775808≤i)(a1:i≤9223372036854775807):
 ao go 35 [.ptr b 0,.int .i64 i] h fun u h'=>(u=if 0≤i∧i<l.length then .tup [.bool (bs.getD i.toNat false),.int .i64 0]else .tup [.bool false,.int .i64 4])∧Fr [] h h':=by
 have al:=a;let⟨p,vk,pm,o,v1,ix,mk,e⟩:=a;by_cases c:i<0;refine ac ?_;simp only[evs,seval,c];exact⟨by rw[if_neg oM],Fr.refl w⟩;refine ac ?_;simp only[evs,seval,c];apply aa (gL w al);rintro _ h2 ⟨rfl,F2⟩;by_cases c2:(l.length:Int)≤i;simp only[evs,seval,c2];exact⟨by rw[if_neg oM],F2⟩;cases pm with
 |none=>have mk:bs=[]:=mk;subst mk;simp at e;omega
 |some q=>have fl:Fl h q bs:=mk;simp only[evs,seval,c2,(F2.get o).ld1,aI];apply aa (GP (fl.fr F2) a0 a1);rintro _ _ ⟨rfl,hh⟩;replace hh:=hh.symm;subst hh;rw[if_pos oM,if_pos oM];simp only[evs,seval];exact F2
def okF(view over:Int):Prop:=1≤view∧view≤2147483648∧0≤over∧over≤16
instance(view over:Int):Decidable (okF view over):=by unfold okF;infer_instance
theorem vG{h:Heap}{view over:Int}{lo:Bool}(w:WF h):ao go 24 [.agg [.int .i64 view,.int .i64 over,.bool lo]] h fun u h'=>u=.bool (decide (okF view over))∧Fr [] h h':=by
 let⟨h1,e_h1,F_h1,o_h1⟩:=aj w [.int .i64 view,.int .i64 over,.bool lo];unfold okF;by_cases c1:1≤view;by_cases c2:view≤2147483648;by_cases c3:0≤over;refine ac ?_;simp only[evs,seval,←e_h1,o_h1.ld1,c1,c2,c3];first|exact F_h1|exact⟨iS,F_h1⟩
 refine ac ?_;simp only[evs,seval,←e_h1,o_h1.ld1,c1,c2,c3];first|exact F_h1|exact⟨iS,F_h1⟩
 refine ac ?_;simp only[evs,seval,←e_h1,o_h1.ld1,c1,c2];first|exact F_h1|exact⟨iS,F_h1⟩
 refine ac ?_;simp only[evs,seval,←e_h1,o_h1.ld1,c1];first|exact F_h1|exact⟨iS,F_h1⟩
theorem A7{h:Heap}{x t view:Int}(h1:0≤t)(h2:t≤4611686018427387904)(h3:1≤view)(h4:view≤2147483648):ao go 67 [.int .i64 x,.int .i64 t,.int .i64 view] h fun u h'=>u=.tup [.int .i64 (min (max x 0) (max 0 (t-view))),.int .i64 0]∧h'=h:=by refine ac ?_;simp(disch:=omega) only[evs,seval,ab,(oM:¬t<0),(oM:¬4611686018427387904<t),(oM:¬view<1),(oM:¬2147483648<view)]
def aQ(l:List Int)(view x:Int):Int:=min (max x 0) (max 0 (l.sum-view))
theorem ua{h:Heap}{b:Nat}{l:List Int}{ks bs:List Bool}{x view over:Int}{lo:Bool}(w:WF h)(a:Lo h b l ks bs):
 ao go 27 [.ptr b 0,.agg [.int .i64 view,.int .i64 over,.bool lo],.int .i64 x] h fun u h'=>(u=if okF view over then .tup [.int .i64 (aQ l view x),.int .i64 0]else .tup [.int .i64 0,.int .i64 1])∧Fr [] h h':=by
 have fit:Fit l:=by let⟨p,vk,pm,o,v1,ix,_⟩:=a;exact ix.fit
 have f1:=fit.nn;have f2:=fit.2.1;let⟨h1,e_h1,F_h1,o_h1⟩:=aj w [.int .i64 view,.int .i64 over,.bool lo];refine ac ?_;simp only[evs,seval,←e_h1,o_h1.ld];refine aa (vG F_h1.wf) ?_;rintro _ h2 ⟨rfl,F2⟩;have F12:=F_h1.then F2;by_cases c:okF view over;simp only[evs,seval,eff,eq_true c];apply aa (nV F2.wf (a.fr F12));rintro _ h3 ⟨rfl,F3⟩;have F13:=F12.then F3;simp only[evs,seval,eff,((F2.then F3).get o_h1).ld1];apply aa (A7 f1 f2 c.1 c.2.1);rintro _ _ ⟨rfl,hh⟩;replace hh:=hh.symm;subst hh;simp only[evs,seval,DF,eff,(F2.get o_h1).ld1,((F2.then F3).get o_h1).ld1];exact⟨rfl,F13⟩;simp only[evs,seval,eq_false c];exact F12
theorem bF:∀{l:List Int}{x:Int},0≤x→x<l.sum→(aB l x).1<l.length
 |[],x,h0,h1=>by simp at h1;omega
 |s::l,x,h0,h1=>by simp only[aB];by_cases c:x<s;rw[if_pos c];simp;rw[if_neg c];have:=bF (l:=l) (x:=x-s) oM (by simp at h1;omega);simpa using this
def cW(l:List Int)(view s:Int):Int:=if s+view-1<l.sum then(aB l (s+view-1)).1 else(l.length:Int)-1
def dA(l:List Int)(view over s:Int):Int×Int:=(max 0 (((aB l s).1:Int)-over),min (l.length:Int) (cW l view s+1+over))
def Im(l:List Int)(view over s:Int):V:=if okF view over then if aQ l view s=s then if l=[]then .tup [.int .i64 0,.int .i64 0,.int .i64 0]else .tup [.int .i64 (dA l view over s).1,.int .i64 (dA l view over s).2,.int .i64 0]
 else .tup [.int .i64 0,.int .i64 0,.int .i64 4]else .tup [.int .i64 0,.int .i64 0,.int .i64 1]
theorem gF{l:List Int}(h:∀x∈l,1≤x)(hl:l≠[]):1≤l.sum:=by
 cases l with
 |nil=>exact absurd rfl hl
 |cons x l=>
  have:=sum_nn (l:=l) fun y hy=>by have:=h y iX;omega
  have:=h x iS;simp;omega
theorem ze{h:Heap}{b:Nat}{l:List Int}{ks bs:List Bool}{s view over:Int}{lo:Bool}(w:WF h)(a:Lo h b l ks bs)(pos:∀x∈l,1≤x)(s0:-9223372036854775808≤s)(s1:s≤9223372036854775807):
 ao go 39 [.ptr b 0,.agg [.int .i64 view,.int .i64 over,.bool lo],.int .i64 s] h fun u h'=>u=Im l view over s∧Fr [] h h':=by
 have al:=a;let⟨p,vk,pm,o,v1,ix,mk,e⟩:=a;have fit:=ix.fit;have f1:=fit.nn;have f2:=fit.2.1;have f3:=fit.2.2;let⟨h1,e_h1,F_h1,o_h1⟩:=aj w [.int .i64 view,.int .i64 over,.bool lo];refine ac ?_;simp only[evs,seval,←e_h1,o_h1.ld];refine aa (ua F_h1.wf (al.fr F_h1)) ?_;rintro _ h2 ⟨rfl,F2⟩;have F12:=F_h1.then F2;unfold Im;by_cases c:okF view over;rw[if_pos c,if_pos c];by_cases c2:aQ l view s=s;rw[if_pos c2];have hs:0≤s∧s≤max 0 (l.sum-view):=by unfold aQ at c2;omega
 simp only[evs,seval,eq_true c2];apply aa (gL F2.wf (al.fr F12));rintro _ h3 ⟨rfl,F3⟩;have F13:=F12.then F3;by_cases c3:l=[];subst c3;simp only[evs,seval,eq_true (iR:((0:Nat):Int)=0)];exact F13;have hl:¬(l.length:Int)=0:=by have:=List.length_pos_iff.2 c3;omega
 have hp:=gF pos c3;have okv:=c;let⟨k1,k2,k3,k4⟩:=c;have hsum:s<l.sum:=oM;have lt1:=bF hs.1 hsum;rw[if_neg c3];simp only[evs,seval,eq_false hl,(((F_h1.then F2).then F3).get o).ld];apply aa (vr F3.wf (ix.fr F13) s0 s1);rintro _ h4 ⟨rfl,F4⟩;rw[if_pos ⟨hs.1,hsum⟩];have F14:=F13.then F4;simp only[evs,seval];apply aa (gL F4.wf (al.fr F14));rintro _ h5 ⟨rfl,F5⟩;have F15:=F14.then F5;have F25:=(F2.then F3).then (F4.then F5);simp(disch:=omega) only[evs,seval,ab,(F25.get o_h1).ld1];apply aa (nV F5.wf (al.fr F15));rintro _ h6 ⟨rfl,F6⟩;have F16:=F15.then F6;have F26:=F25.then F6;unfold dA cW;by_cases c4:s+view-1<l.sum;have lt2:=bF (x:=s+view-1) oM c4;rw[if_pos c4];simp only[evs,seval,c4,(F16.get o).ld];apply aa (vr F6.wf (ix.fr F16) oM oM);rintro _ h7 ⟨rfl,F7⟩;rw[if_pos ⟨oM,c4⟩];have F17:=F16.then F7;have F27:=F26.then F7;simp(disch:=omega) only[evs,seval,eff,ab,(F27.get o_h1).ld1];apply aa (gL F7.wf (al.fr F17));rintro _ h8 ⟨rfl,F8⟩;simp(disch:=omega) only[evs,seval,DF,eff,ab,(F27.get o_h1).ld1,((F27.then F8).get o_h1).ld1];exact F17.then F8;rw[if_neg c4];simp(disch:=omega) only[evs,seval,eff,ab,c4,(F26.get o_h1).ld1];apply aa (gL F6.wf (al.fr F16));rintro _ h8 ⟨rfl,F8⟩;simp(disch:=omega) only[evs,seval,DF,eff,ab,(F26.get o_h1).ld1,((F26.then F8).get o_h1).ld1];exact F16.then F8;rw[if_neg c2];simp only[evs,seval,eq_false c2];exact F12;rw[if_neg c,if_neg c];simp only[evs,seval,(oM:¬(1:Int)=0)];exact F12
def HeadS(l:List Int)(bs:List Bool)(s r e:Int):Prop:=
 if l=[]∧s=0 then r=0∧e=11 else if 0≤s∧s<l.sum then if(bs.take ((aB l s).1+1)).count true=0 then r=0∧e=11 else e=0∧∃p:Nat,r=p∧Sel bs ((bs.take ((aB l s).1+1)).count true-1) p else r=0∧e=4
theorem ES{h:Heap}{b:Nat}{l:List Int}{ks bs:List Bool}{s:Int}(w:WF h)(g:Glb h)(a:Lo h b l ks bs)(s0:-9223372036854775808≤s)(s1:s≤9223372036854775807):
 ao go 40 [.ptr b 0,.int .i64 s] h fun u h'=>(∃r e,u=.tup [.int .i64 r,.int .i64 e]∧HeadS l bs s r e)∧Fr [] h h':=by
 have al:=a;let⟨p,vk,pm,o,v1,ix,mk,e⟩:=a;have f3:=ix.fit.2.2;refine ac ?_;simp only[evs,seval];refine aa (gL w al) ?_;rintro _ h1 ⟨rfl,F1⟩;by_cases c0:(l.length:Int)=0;have hl:l=[]:=List.length_eq_zero_iff.1 oM;by_cases c1:s=0;simp only[evs,seval,eq_true c0,eq_true c1];exact⟨⟨0,11,rfl,by unfold HeadS;rw[if_pos ⟨hl,c1⟩];exact⟨rfl,rfl⟩⟩,F1⟩;simp only[evs,seval,eq_true c0,eq_false c1,(F1.get o).ld];apply aa (vr F1.wf (ix.fr F1) s0 s1);rintro _ h2 ⟨rfl,F2⟩;have:¬(0≤s∧s<l.sum):=by grind
 rw[if_neg this];simp only[evs,seval,(oM:¬(4:Int)=0)];exact⟨⟨0,4,rfl,by unfold HeadS;rw[if_neg (fun hh=>c1 hh.2),if_neg this];exact⟨rfl,rfl⟩⟩,F1.then F2⟩;have hl:l≠[]:=by rintro rfl;simp at c0
 simp only[evs,seval,eq_false c0,(F1.get o).ld];apply aa (vr F1.wf (ix.fr F1) s0 s1);rintro _ h2 ⟨rfl,F2⟩;have F12:=F1.then F2;by_cases c1:0≤s∧s<l.sum;have lt1:=bF c1.1 c1.2;rw[if_pos c1];cases pm with
 |none=>have mk:bs=[]:=mk;subst mk;simp at e;omega
 |some q=>
  have fl:Fl h q bs:=mk;have rk:=Hq (i:=(aB l s).1+1) (fl.fr F12) oM;rw[Int.natCast_add]at rk;simp(disch:=omega) only[evs,seval,ab,(F12.get o).ld1,aI];apply aa rk;rintro _ _ ⟨rfl,hh⟩;replace hh:=hh.symm;subst hh;obtain⟨n,hn⟩:∃n,n=(bs.take ((aB l s).1+1)).count true:=⟨_,rfl⟩;rw[←hn];have nle:n≤bs.count true:=by rw[hn];exact List.Sublist.count_le _ (List.take_sublist _ _)
  have cl:bs.count true≤bs.length:=List.count_le_length;by_cases c2:(n:Int)=0;simp only[evs,seval,eq_true c2];exact⟨⟨0,11,rfl,by unfold HeadS;rw[if_neg iX,if_pos c1,if_pos (by rw[←hn];omega)];exact⟨rfl,rfl⟩⟩,F12⟩;simp(disch:=omega) only[evs,seval,ab,eq_false c2,(F12.get o).ld1,aI];have sk:=BT (k:=n-1) (g.fr F12) (fl.fr F12) oM;rw[(oM:((n-1:Nat):Int)=(n:Int)-1)]at sk;apply aa sk;rintro _ _ ⟨⟨p',rfl,hp'⟩,hh⟩;replace hh:=hh.symm;subst hh;simp only[evs,seval];refine⟨⟨p',0,rfl,?_⟩,F12⟩;unfold HeadS;rw[if_neg iX,if_pos c1,if_neg (by rw[←hn];omega),←hn];exact⟨rfl,p',rfl,hp'⟩
 rw[if_neg c1];simp only[evs,seval,(oM:¬(4:Int)=0)];exact⟨⟨0,4,rfl,by unfold HeadS;rw[if_neg iX,if_neg c1];exact⟨rfl,rfl⟩⟩,F12⟩
theorem HeadS.zero{l:List Int}{bs:List Bool}{s r e:Int}(a:HeadS l bs s r e)(h:e=0):0≤s∧s<l.sum∧∃p:Nat,r=p∧p<bs.length:=by unfold HeadS at a;split at a;omega;split at a;rename_i c;split at a;omega;let⟨_,p,e1,e2⟩:=a;exact⟨c.1,c.2,p,e1,e2.1⟩;omega
theorem pz{h:Heap}{b b' len cap bytes:Nat}{c:List V}{x:V}{K:V→Heap→Prop}(w:WF h)(o:Own h b c)(o':Own h b' [x])(hc:c.length=cap)(hl:len<cap)(h1:x.one=true)
 (k:∀h',Own h' b (c.set len x)→Fr [b] h h'→h'.next=h.next→K (.slice b 0 (len+1) cap) h'):OQ (jf h 1 bytes (.slice b 0 len cap) (.slice b' 0 1 1)) K:=by
 have s:Sl h 1 (.slice b' 0 1 1) 1 [x]:=Sl.lit o' rfl;unfold jf;rw[s.srcLen];simp only[];rw[ew oM,cond_false,s.srcCells];simp only[];rw[(Nat.ble_eq ..).mpr (oM:len+1≤cap),cond_true];let⟨h',e1,o1,f1,n1⟩:=ip (o:=0+len*1) (vs:=[x]) w o (by simp[au,h1]) (fC c (0+len*1) x oM);rw[e1];simp only[Option.map_some];rw[Nat.zero_add,Nat.mul_one]at o1;exact(bY _ _ _).2 (k h' o1 f1 n1)
def rng(f:Int)(n:Nat):List Int:=(List.range n).map fun(j:Nat)=>f+(j:Int)
theorem eF(f:Int)(n:Nat):(rng f n).length=n:=by simp[rng]
theorem pX(f:Int)(n:Nat):rng f (n+1)=rng f n++[f+n]:=by simp[rng,List.range_succ]
theorem mw(A:List Int)(x:Int)(m:Nat)(h:0<m):(A.map (V.int .i64)++List.replicate m (V.int .i64 0)).set A.length (V.int .i64 x)=(A++[x]).map (V.int .i64)++List.replicate (m-1) (V.int .i64 0):=by
 have hl:(A.map (V.int .i64)).length=A.length:=by simp
 rw[List.set_append,if_neg oM,hl,Nat.sub_self];obtain⟨k,rfl⟩:∃k,m=k+1:=⟨m-1,oM⟩;rw[List.replicate_succ,List.set_cons_zero];simp
theorem eN:∀(l:List Int){x y:Int},x≤y→(aB l x).1≤(aB l y).1
 |[],_,_,_=>Nat.le_refl _
 |s::l,x,y,h=>by simp only[aB];by_cases c:y<s;grind;rw[if_neg c];by_cases c2:x<s;grind;rw[if_neg c2];have:=eN l (x:=x-s) (y:=y-s) oM;simp;omega
def JD(l:List Int)(bs:List Bool)(view over s:Int)(A:List Int):Prop:=∃hr he,HeadS l bs s hr he∧
 A=(if he=0∧hr<(dA l view over s).1 then[hr]else[])++rng (dA l view over s).1 ((dA l view over s).2-(dA l view over s).1).toNat
theorem HC{h:Heap}{b:Nat}{l:List Int}{ks bs:List Bool}{s view over:Int}{lo:Bool}(w:WF h)(g:Glb h)(a:Lo h b l ks bs)(pos:∀x∈l,1≤x)(s0:-9223372036854775808≤s)(s1:s≤9223372036854775807):
 ao go 42 [.ptr b 0,.agg [.int .i64 view,.int .i64 over,.bool lo],.int .i64 s] h fun u h'=>Fr [] h h'∧if okF view over then if aQ l view s=s then if l=[]then u=.tup [.nils,.int .i64 0]else
  ∃A c,u=.tup [.slice c 0 A.length A.length,.int .i64 0]∧Own h' c (A.map (V.int .i64))∧h.next≤c∧JD l bs view over s A
  else u=.tup [.nils,.int .i64 4]else u=.tup [.nils,.int .i64 1]:=by
 have al:=a;let⟨p,vk,pm,o,v1,ix,mk,e⟩:=a;have lm:=ix.len.2;let⟨h1,e_h1,F_h1,o_h1⟩:=aj w [.int .i64 view,.int .i64 over,.bool lo];refine ac ?_;simp only[evs,seval,←e_h1,o_h1.ld];refine aa (ze F_h1.wf (al.fr F_h1) pos s0 s1) ?_;rintro _ h2 ⟨rfl,F2⟩;have F12:=F_h1.then F2;unfold Im;by_cases c:okF view over
 ·rw[if_pos c];by_cases c2:aQ l view s=s
  ·rw[if_pos c2];by_cases c3:l=[]
   ·rw[if_pos c3];simp only[evs,seval];rw[if_pos c,if_pos c2,if_pos c3];exact⟨F12,trivial⟩
   ·rw[if_neg c3];have hs:0≤s∧s≤max 0 (l.sum-view):=by unfold aQ at c2;omega
    have hp:=gF pos c3;let⟨k1,k2,k3,k4⟩:=c;have hsum:s<l.sum:=oM
    have lt1:=bF hs.1 hsum;have ll:0≤cW l view s∧cW l view s<l.length:=by
     unfold cW;split
     ·have:=bF (l:=l) (x:=s+view-1) oM (by assumption);omega
     ·omega
    have lord:((aB l s).1:Int)≤cW l view s:=by
     unfold cW;split
     ·have:=eN l (x:=s) (y:=s+view-1) oM;omega
     ·omega
    obtain⟨f,hf⟩:∃f,f=(dA l view over s).1:=⟨_,rfl⟩;obtain⟨t,ht⟩:∃t,t=(dA l view over s).2:=⟨_,rfl⟩;have bf:0≤f∧f<t∧t≤l.length:=by
     have e1:f=max 0 (((aB l s).1:Int)-over):=hf;have e2:t=min (l.length:Int) (cW l view s+1+over):=ht;omega
    rw[←hf,←ht];simp only[evs,seval,(oM:¬t=0)];apply aa (ES F2.wf (g.fr F12) (al.fr F12) s0 s1);rintro _ h3 ⟨⟨hr,he,rfl,hs'⟩,F3⟩;have F13:=F12.then F3;have hee:he=0∨he=11:=by
     have h0:=hs';unfold HeadS at h0;rw[if_neg iX,if_pos ⟨hs.1,hsum⟩]at h0;split at h0<;>omega
    have hrb:he=0→0≤hr∧hr<l.length:=fun h0=>by
     obtain⟨_,_,q,rfl,hq⟩:=hs'.zero h0;omega
    have zo:(he=0∧hr<f)∨(he=0∧¬hr<f)∨he=11:=oM
    obtain⟨he0,ap2⟩|⟨he0,ap2⟩|he0:=zo
    case' inl=>
     subst he0;have hrb:=hrb rfl;simp(disch:=omega) only[evs,seval,ab,ap2];refine(bX _ _ _ _ _ _ _ _ oM oM oM oM).2 ?_;rw[fO];obtain⟨n,hn⟩:∃n:Nat,n=(t-f+1).toNat:=⟨_,rfl⟩;rw[←hn,(iR:(0:Int).toNat=0)];obtain⟨h4,e_h4⟩:∃h4,h4=halloc h3 (List.replicate n (V.int .i64 0)):=⟨_,rfl⟩;have F_h4:Fr [] h3 h4:=e_h4▸Fr.halloc F3.wf _;have o_h4:Own h4 h3.next (List.replicate n (V.int .i64 0)):=e_h4▸Own.new F3.wf _;let⟨h5,e_h5,F_h5,o_h5⟩:=aj F_h4.wf [.int .i64 hr];simp only[evs,seval,←e_h4,←e_h5];apply pz F_h5.wf (F_h5.get o_h4) o_h5 iS oM rfl;intro h6 o6 F6 n6;obtain⟨pre,hpre⟩:∃pre:List Int,pre=[hr]:=⟨_,rfl⟩;have o6':Own h6 h3.next (pre.map (V.int .i64)++List.replicate (n-pre.length) (V.int .i64 0)):=by
      have:=mw [] hr n oM;simp only[List.map_nil,List.nil_append,List.length_nil]at this;rw[hpre];show Own h6 h3.next ([hr].map (V.int .i64)++List.replicate (n-1) (V.int .i64 0));rw[←this];exact o6
     have F16:Fr [] h h6:=(F13.then (F_h4.then F_h5)).fresh F6 w F13.next;have hpl:pre.length=1:=by rw[hpre];rfl
     have hpe:pre=if(0:Int)=0∧hr<f then[hr]else[]:=by grind
     have hnn:(n:Int)=pre.length+(t-f):=oM
     simp only[evs,seval]
    case' inr.inl=>
     subst he0;simp(disch:=omega) only[evs,seval,ab,ap2];refine(bX _ _ _ _ _ _ _ _ oM oM oM oM).2 ?_;rw[fO];obtain⟨n,hn⟩:∃n:Nat,n=(t-f).toNat:=⟨_,rfl⟩;rw[←hn,(iR:(0:Int).toNat=0)];obtain⟨h6,e_h6⟩:∃h6,h6=halloc h3 (List.replicate n (V.int .i64 0)):=⟨_,rfl⟩;have F_h6:Fr [] h3 h6:=e_h6▸Fr.halloc F3.wf _;have o_h6:Own h6 h3.next (List.replicate n (V.int .i64 0)):=e_h6▸Own.new F3.wf _;obtain⟨pre,hpre⟩:∃pre:List Int,pre=[]:=⟨_,rfl⟩;have o6':Own h6 h3.next (pre.map (V.int .i64)++List.replicate (n-pre.length) (V.int .i64 0)):=by grind
     have F16:Fr [] h h6:=F13.then F_h6;have hpl:pre.length=0:=by rw[hpre];rfl
     have hpe:pre=if(0:Int)=0∧hr<f then[hr]else[]:=by grind
     have hnn:(n:Int)=pre.length+(t-f):=oM
     simp only[evs,seval,←e_h6]
    case' inr.inr=>
     subst he0;simp(disch:=omega) only[evs,seval,ab,(oM:¬(11:Int)=0)];refine(bX _ _ _ _ _ _ _ _ oM oM oM oM).2 ?_;rw[fO];obtain⟨n,hn⟩:∃n:Nat,n=(t-f).toNat:=⟨_,rfl⟩;rw[←hn,(iR:(0:Int).toNat=0)];obtain⟨h6,e_h6⟩:∃h6,h6=halloc h3 (List.replicate n (V.int .i64 0)):=⟨_,rfl⟩;have F_h6:Fr [] h3 h6:=e_h6▸Fr.halloc F3.wf _;have o_h6:Own h6 h3.next (List.replicate n (V.int .i64 0)):=e_h6▸Own.new F3.wf _;obtain⟨pre,hpre⟩:∃pre:List Int,pre=[]:=⟨_,rfl⟩;have o6':Own h6 h3.next (pre.map (V.int .i64)++List.replicate (n-pre.length) (V.int .i64 0)):=by grind
     have F16:Fr [] h h6:=F13.then F_h6;have hpl:pre.length=0:=by rw[hpre];rfl
     have hpe:pre=if(11:Int)=0∧hr<f then[hr]else[]:=by grind
     have hnn:(n:Int)=pre.length+(t-f):=oM
     simp only[evs,seval,←e_h6]
    all_goals
     clear hee hrb hn hpre;refine az (fun k env hh=>∃j:Nat,Fr [] h hh∧env.get 15=some (.int .i64 (f+j))∧env.get 9=some (.int .i64 t)∧env.get 14=some (.slice h3.next 0 (pre.length+j) n)∧f+j≤t∧
      Own hh h3.next ((pre++rng f j).map (V.int .i64)++List.replicate (n-(pre.length+j)) (V.int .i64 0))∧k=(t-f).toNat-j) (t-f).toNat oM ?_ ?_
     ·exact⟨0,F16,iS,iS,(by simp[hpl]),oM,by simpa[rng]using o6',rfl⟩
     ·rintro k env hh ⟨j,F,g15,g9,g14,hj,oo,rfl⟩;by_cases hlt:f+(j:Int)<t
      ·let⟨h7,e_h7,F_h7,o_h7⟩:=aj F.wf [.int .i64 (f+j)];simp only[evs,seval,g15,g9,g14,hlt,←e_h7];refine pz F_h7.wf (F_h7.get oo) o_h7 (by simp[eF];omega) oM rfl ?_;intro h8 o8 F8 n8;have e8:=mw (pre++rng f j) (f+j) (n-(pre.length+j)) oM;rw[show(pre++rng f j).length=pre.length+j by simp[eF]]at e8;rw[e8,List.append_assoc,←pX]at o8;simp(disch:=omega) only[evs,seval,ab,g15];refine rqn ⟨(t-f).toNat-(j+1),oM,j+1,(F.then F_h7).fresh F8 w F13.next,oO,iX,oO,oM,by rw[(oM:n-(pre.length+(j+1))=n-(pre.length+j)-1)];exact o8,rfl⟩
       done
      ·simp only[evs,seval,g15,g9,g14,hlt];rw[if_pos ⟨k1,k2,k3,k4⟩,if_pos c2,if_neg c3];have ej:j=(t-f).toNat:=oM
       have en:n=pre.length+j:=oM
       rw[(oM:n-(pre.length+j)=0),List.replicate_zero,List.append_nil]at oo;refine⟨F,pre++rng f j,h3.next,?_,oo,F13.next,hr,_,hs',?_⟩
       ·rw[en];simp[eF]
       ·grind
  ·rw[if_neg c2];simp only[evs,seval,(oM:¬(4:Int)=0)];rw[if_pos c,if_neg c2];exact⟨F12,trivial⟩
 ·rw[if_neg c];simp only[evs,seval,(oM:¬(1:Int)=0)];rw[if_neg c];exact⟨F12,trivial⟩
structure FrF(b:Nat)(h h':Heap):Prop where
 next:h.next≤h'.next
 wf:WF h'
 own:∀x c,x≠b→(∀n m ws,ws.length=64→c≠flc n m ws)→Own h x c→Own h' x c
 pl:∀x c,x≠b→(∀n m ws,ws.length=64→c≠flc n m ws)→Pl h x c→Pl h' x c
 ro:∀x c,Rs h x c→Rs h' x c
theorem frF{h h':Heap}{b:Nat}(f:Fr [] h h'):FrF b h h':=⟨f.next,f.wf,fun _ _ _ _ o=>f.get o,fun _ _ _ _ o=>f.pl _ _ iS o,f.ro⟩
theorem Dr{h h':Heap}{b:Nat}(f:Fr [b] h h'):FrF b h h':=⟨f.next,f.wf,fun _ _ hx _ o=>f.own _ _ (eV hx) o,fun _ _ hx _ o=>f.pl _ _ (eV hx) o,f.ro⟩
theorem Kc{h h':Heap}{b c:Nat}{bs:List Bool}(f:Fr [c] h h')(fl:Fl h c bs):FrF b h h':=by let⟨ws,o,ok,_⟩:=fl;refine⟨f.next,f.wf,fun x d _ hd ox=>f.own _ _ ?_ ox,fun x d _ hd ox=>f.pl _ _ ?_ ox,f.ro⟩;simp only[List.mem_singleton];rintro rfl;exact hd _ _ _ ok.len (ox.uniq o);simp only[List.mem_singleton];rintro rfl;exact hd _ _ _ ok.len (ox.own.uniq o)
theorem FrF.trans{b:Nat}{h h1 h2:Heap}(a:FrF b h h1)(c:FrF b h1 h2):FrF b h h2:=
 ⟨Nat.le_trans a.next c.next,c.wf,fun x d hx hd o=>c.own x d hx hd (a.own x d hx hd o),fun x d hx hd o=>c.pl x d hx hd (a.pl x d hx hd o),fun x d r=>c.ro x d (a.ro x d r)⟩
theorem HA{h:Heap}(w:WF h):ao go 18 [] h fun u h'=>∃b,u=.ptr b 0∧h.next≤b∧Lo h' b [] [] []∧Own h' b [.nilp,.nils,.nilp]∧Fr [] h h':=by refine ac ?_;simp only[evs,seval];refine⟨_,rfl,Nat.le_refl _,⟨none,.nils,none,Own.new w _,rfl,⟨none,.nils,[],rfl,⟨.nil,none,rfl,rfl,rfl,iS,iS,iS⟩,.inl ⟨rfl,rfl⟩,⟨trivial,iS,fun i=>by simp[inS]⟩,rfl,iS⟩,rfl,rfl⟩,Own.new w _,Fr.halloc w _⟩
theorem Ix.frb{h h':Heap}{v:V}{l:List Int}{ks:List Bool}{b:Nat}{c:List V}(a:Ix h v l ks)(f:Fr [b] h h')(o:Own h b c)(h6:c.length≠6)(hc:∀L:List (Int×Int),0<L.length→c≠L.flatMap sp):Ix h' v l ks:=by let⟨p,vk,L,e,r,s,x⟩:=a;exact⟨p,vk,L,e,r.frb f o h6,s.frb f o hc,x⟩
theorem Ix.frf{h h':Heap}{v:V}{l:List Int}{ks:List Bool}{b:Nat}{bs:List Bool}(a:Ix h v l ks)(f:Fr [b] h h')(fl:Fl h b bs):Ix h' v l ks:=by
 let⟨ws,o,ok,_⟩:=fl;refine a.frb f o (by rw[dt,ok.len];omega) fun L p e=>?_;have hm:∀x∈flc (bs.length:Int) (bs.count true:Int) ws,∃n,x=.int .i64 n:=by rw[e];intro x hx;simp only[List.mem_flatMap,sp]at hx;let⟨s,_,hx⟩:=hx;simp at hx;obtain rfl|rfl:=hx<;>exact⟨_,rfl⟩
 cases ws with
 |nil=>have:=ok.len;simp at this
 |cons y ws=>let⟨n,hn⟩:=hm (uw y) (by simp[flc]);simp[uw]at hn
theorem CP{p:Option Nat}{vk:V}{pm:Option Nat}(hvk:∀k n,vk≠.int k n):∀x∈[pv p,vk,pv pm],∀k n,x≠.int k n:=by
 intro x hx k n;simp only[List.mem_cons,List.not_mem_nil,or_false]at hx;obtain rfl|rfl|rfl:=hx;cases p<;>simp[pv]
 exact hvk k n;cases pm<;>simp[pv]
theorem Ix.noint{h:Heap}{p:Option Nat}{vk:V}{l:List Int}{ks:List Bool}(a:Ix h (.agg [pv p,vk]) l ks):∀k n,vk≠.int k n:=by let⟨p',vk',L,e,r,s,_⟩:=a;simp only[V.agg.injEq,List.cons.injEq,and_true]at e;obtain⟨_,rfl⟩:=e;exact s.noint
theorem Ix.form{h:Heap}{c d:V}{l:List Int}{ks:List Bool}(a:Ix h (.agg [c,d]) l ks):∃p,c=pv p:=by let⟨p',vk',L,e,_⟩:=a;simp only[V.agg.injEq,List.cons.injEq,and_true]at e;exact⟨p',e.1⟩
theorem Mk.frb{h h':Heap}{pm:Option Nat}{bs:List Bool}{b:Nat}{c:List V}(a:Mk h pm bs)(f:Fr [b] h h')(o:Own h b c)(h3:c.length=3):Mk h' pm bs:=by
 cases pm with
 |none=>exact a
 |some q=>let⟨ws,oq,ok,hn⟩:=a;refine⟨ws,f.own _ _ ?_ oq,ok,hn⟩;simp only[List.mem_singleton];rintro rfl;have:=oq.uniq o;subst this;rw[dt,ok.len]at h3;omega
theorem Hz{h:Heap}{b:Nat}{l:List Int}{ks bs:List Bool}{i size:Int}{kn:Bool}(w:WF h)(a:Lo h b l ks bs)(s0:-9223372036854775808≤size)(s1:size≤9223372036854775807)(i0:-9223372036854775808≤i)(i1:i≤9223372036854775807):
 ao go 20 [.ptr b 0,.int .i64 i,.int .i64 size,.bool kn] h fun u h'=>u=.int .i64 (cS l i size)∧(if cS l i size=0 then Lo h' b (l.set i.toNat size) (ks.set i.toNat kn) bs else Lo h' b l ks bs)∧FrF b h h':=by
 have al:=a;let⟨p,vk,pm,o,v1,ix,mk,e⟩:=a;refine ac ?_;simp only[evs,seval,o.ld];refine aa (As w ix s0 s1 i0 i1) ?_;rintro _ h1 ⟨F1,c,d,rfl,hc,hd,hx⟩;let⟨h2,e_h2,F_h2,o_h2⟩:=aj F1.wf [.nilp,.nils];simp only[evs,seval,←e_h2];apply ah (c':=[c,d]) F_h2.wf o_h2 rfl (by simp[au,V.cells,hc,hd]) rfl;rintro h3 o3 F3 n3;have F13:Fr [] h1 h3:=F_h2.fresh F3 F1.wf (Nat.le_refl _);have F03:=F1.then F13;by_cases z:cS l i size=0;simp only[evs,seval,eq_true z,o3.ld];apply ah (c':=[c,d,pv pm]) F13.wf (F03.get o) rfl (by simp[au,V.cells,hc,hd]) rfl;rintro h4 o4 F4 n4;simp only[evs,seval];have ix':=hx z;obtain⟨p',rfl⟩:=ix'.form;exact⟨⟨p',d,pm,o4,hd,(ix'.fr F13).frb F4 (F03.get o) iS (CO (CP ix.noint)),(mk.fr F03).frb F4 (F03.get o) rfl,by simpa using e⟩,(frF F03).trans (Dr F4)⟩;simp only[evs,seval,eq_false z];exact⟨al.fr F03,frF F03⟩
theorem Bools.frl{h h':Heap}{v:V}{bs:List Bool}{b:Nat}{c c':List V}(a:Bools h v bs)(f:Fr [b] h h')(o:Own h b c)(o':Own h' b c')(hc:∀x,V.bool x∉c)(hl:c'.length=c.length):Bools h' v bs:=by
 refine Sl.frb a f o o' hl fun hne=>?_;cases bs with
 |nil=>simp at hne
 |cons x bs=>exact⟨.bool x,iS,hc x⟩
theorem nobool{p:Option Nat}{vk:V}{pm:Option Nat}(h:∀x,vk≠V.bool x):∀x,V.bool x∉[pv p,vk,pv pm]:=by
 intro x hx;simp only[List.mem_cons,List.not_mem_nil,or_false]at hx;obtain e|e|e:=hx;cases p<;>simp[pv]at e
 exact h x e.symm;cases pm<;>simp[pv]at e
theorem SpF.nobool{h:Heap}{v:V}{L:List (Int×Int)}(a:SpF h v L):∀x,v≠V.bool x:=by obtain⟨rfl,_⟩|⟨b,rfl,_⟩:=a<;>simp
theorem Ix.nobool{h:Heap}{p:Option Nat}{vk:V}{l:List Int}{ks:List Bool}(a:Ix h (.agg [pv p,vk]) l ks):∀x,vk≠V.bool x:=by let⟨p',vk',L,e,r,s,_⟩:=a;simp only[V.agg.injEq,List.cons.injEq,and_true]at e;obtain⟨_,rfl⟩:=e;exact s.nobool
theorem Gv{bs st:List Bool}{i j:Nat}(hi:i≤bs.length)(x:Bool)(hx:st[j]? =some x):
 (bs.take i++(st.take j++List.replicate (st.length-j) false)++bs.drop i).set (i+j) x=bs.take i++(st.take (j+1)++List.replicate (st.length-(j+1)) false)++bs.drop i:=by
 have hj:j<st.length:=by grind
 have hl:(bs.take i).length=i:=by simp;omega
 rw[List.append_assoc,List.set_append,if_neg oM,hl,Nat.add_sub_cancel_left,List.set_append,if_pos oO,uC st j x hx,List.append_assoc,List.append_assoc,List.append_assoc]
theorem Bh{bs st:List Bool}{i j:Nat}(hx:st[j]? =some false):bs.take i++(st.take j++List.replicate (st.length-j) false)++bs.drop i=bs.take i++(st.take (j+1)++List.replicate (st.length-(j+1)) false)++bs.drop i:=by
 have hj:j<st.length:=by grind
 rw[List.take_add_one,hx,(oM:st.length-j=(st.length-(j+1))+1),List.replicate_succ];simp
theorem HB{h:Heap}{b:Nat}{l m:List Int}{ks bs st:List Bool}{i:Int}{u v:V}(w:WF h)(a:Lo h b l ks bs)(am:rB h u m)(as:Bools h v st)(hm:m.length≤1000000)(hst:st.length=m.length)(i0:-9223372036854775808≤i)(i1:i≤9223372036854775807):
 ao go 19 [.ptr b 0,.int .i64 i,u,v] h fun z h'=>z=.int .i64 (dD l i m)∧FrF b h h'∧(if dD l i m=0 then Lo h' b (l.take i.toNat++m++l.drop i.toNat) (ks.take i.toNat++List.replicate m.length false++ks.drop i.toNat) (bs.take i.toNat++st++bs.drop i.toNat)else Lo h' b l ks bs):=by
 have al:=a;let⟨p,vk,pm,o,v1,ix,mk,e⟩:=a;have hle:((m.length:Nat):Int)=st.length:=oM
 refine ac ?_;simp only[evs,seval,am.len,as.len,eq_true hle,o.ld];refine aa (Hl w ix am hm i0 i1) ?_;rintro _ h1 ⟨F1,c,d,rfl,hc,hd,hx⟩;let⟨h2,e_h2,F_h2,o_h2⟩:=aj F1.wf [.nilp,.nils];simp only[evs,seval,←e_h2];apply ah (c':=[c,d]) F_h2.wf o_h2 rfl (by simp[au,V.cells,hc,hd]) rfl;rintro h3 o3 F3 n3;have F13:Fr [] h1 h3:=F_h2.fresh F3 F1.wf (Nat.le_refl _);have F03:=F1.then F13;by_cases z:dD l i m=0
 ·have ix':=hx z;obtain⟨p',rfl⟩:=ix'.form;have hi:0≤i∧i≤l.length∧l.length+m.length≤1024:=by
   unfold dD at z;by_cases c1:0≤i∧i≤l.length
   ·omega
   ·omega
  by_cases c0:(m.length:Int)=0
  ·have hm0:m=[]:=List.length_eq_zero_iff.1 oM;have hs0:st=[]:=List.length_eq_zero_iff.1 oM;subst hm0 hs0;simp only[evs,seval,eq_true z,am.len];refine⟨frF F03,?_⟩;simpa using al.fr F03
  ·obtain⟨k,rfl⟩:∃k:Nat,i=k:=⟨i.toNat,oM⟩;simp only[Int.toNat_natCast]at hx ix'⊢;have blt:b<h1.next:=Nat.lt_of_lt_of_le (o.lt w) F1.next;have niv:=ix.noint;have nbv:=ix.nobool
   -- the marks are there
   cases pm
   case' none=>
    have mk:bs=[]:=mk;simp only[evs,seval,eq_true z,am.len,eq_false c0,(F03.get o).ld1,iI];apply aa (GN F13.wf);rintro _ h4 ⟨q,rfl,hq,fl4,F4⟩;simp only[evs,seval];have F04:=F03.then F4;apply stu F4.wf (F04.get o);rintro H oH F5 n5;have FH:FrF b h H:=(frF F04).trans (Dr F5);have flH:Fl H q bs:=Mk.frb (pm:=some q) (show Mk h4 (some q) bs from mk▸fl4) F5 (F04.get o) rfl;have ixH:=(ix'.fr (F13.then F4)).frb F5 (F04.get o) iS (CO (CP niv));have oxH:=F5.own _ _ oO (F4.get o3);have stH:=Bools.frl (as.fr F04) F5 (F04.get o) oH (nobool nbv) rfl;have wfH:=F5.wf;simp only[evs,seval,oH.ld1,am.len]
   case' some q=>
    have flH:Fl h3 q bs:=Fl.fr mk F03;obtain⟨H,eH⟩:∃H,H=h3:=⟨h3,rfl⟩;have oH:Own H b [pv p,vk,.ptr q 0]:=eH▸F03.get o;have FH:FrF b h H:=eH▸frF F03;have ixH:=eH▸ix'.fr F13;have oxH:=eH▸o3;have stH:=eH▸as.fr F03;have wfH:WF H:=eH▸F13.wf;rw[←eH]at flH;simp only[evs,seval,eq_true z,am.len,eq_false c0,(F03.get o).ld1,aI];rw[←eH]
   all_goals
    have qb:q≠b:=by
     rintro rfl;let⟨ws,oq,ok,_⟩:=flH;have:=congrArg List.length (oq.uniq oH);rw[dt,ok.len]at this;simp at this
    apply aa (GO (a:=k) (n:=m.length) (v:=false) wfH flH oM oM);rintro _ h6 ⟨rfl,fl6,F6⟩;have o6b:=F6.own _ _ oO oH;have ix6:=ixH.frf F6 flH;have qx:q≠h1.next:=by
     rintro rfl;let⟨ws,oq,ok,_⟩:=flH;have:=congrArg List.length (oq.uniq oxH);rw[dt,ok.len]at this;simp at this
    have ox6:=F6.own _ _ oO oxH;have st6:Bools h6 v st:=by
     let⟨ws,oq,ok,_⟩:=flH;let⟨ws',oq',ok',_⟩:=fl6;exact Bools.frb stH F6 oq oq' (by rw[ok'.len,ok.len])
    simp only[evs,seval,ox6.ld];apply ah (c':=[pv p',d,.ptr q 0]) F6.wf o6b rfl (by simp[au,V.cells,hc,hd]) rfl;rintro h7 o7 F7 n7;have fl7:Fl h7 q _:=Mk.frb (pm:=some q) fl6 F7 o6b rfl;have ix7:=ix6.frb F7 o6b iS (CO (CP (pm:=some q) niv));have st7:=Bools.frl st6 F7 o6b o7 (nobool (pm:=some q) nbv) rfl;have F07:FrF b h h7:=(FH.trans (Kc F6 flH)).trans (Dr F7);simp only[evs,seval,st7.len];refine az (fun n env hh=>∃j:Nat,env.get 71=some (.int .i64 j)∧env.get 70=some (.int .i64 st.length)∧env.get 69=some v∧env.get 0=some (.ptr b 0)∧env.get 1=some (.int .i64 k)∧j≤st.length∧FrF b h hh∧
     Own hh b [pv p',d,.ptr q 0]∧Fl hh q (bs.take k++(st.take j++List.replicate (st.length-j) false)++bs.drop k)∧Ix hh (.agg [pv p',d]) (l.take k++m++l.drop k) (ks.take k++List.replicate m.length false++ks.drop k)∧Bools hh v st∧n=st.length-j) st.length oM ?_ ?_
    ·exact⟨0,iS,iS,iS,iS,iS,oM,F07,o7,by simpa[hst]using fl7,ix7,st7,rfl⟩
    ·rintro n env hh ⟨j,g71,g70,g69,g0,g1,hj,FF,oo,ff,ii,ss,rfl⟩;by_cases hlt:(j:Int)<st.length
     ·let⟨bb,oo',x,q1,q2,q3⟩:=ss.ix .i64 j oM hlt;simp only[Int.toNat_natCast]at q3;cases x
      ·simp(disch:=omega) only[evs,seval,ab,g71,g70,g69,hlt,q1,q2];rw[Bh q3]at ff;refine rqn ⟨st.length-(j+1),oM,j+1,iS,iX,iX,iX,iX,oM,FF,oo,ff,ii,ss,rfl⟩
       done
      ·simp(disch:=omega) only[evs,seval,ab,g71,g70,g69,g0,g1,hlt,q1,q2,oo.ld1];apply aa (GM FF.wf ff oM oM);rintro _ h8 ⟨rfl,f8,F8,n8⟩;have lf:(k:Int)+j<((bs.take k++(st.take j++List.replicate (st.length-j) false)++bs.drop k).length:Nat):=by simp;omega
       rw[if_pos ⟨oM,lf⟩,(oM:((k:Int)+j).toNat=k+j),Gv oM _ q3]at f8;simp(disch:=omega) only[evs,seval,ab,g71];have o8:=F8.own _ _ oO oo;have s8:Bools h8 v st:=by
        let⟨ws,oq,ok,_⟩:=ff;let⟨ws',oq',ok',_⟩:=f8;exact Bools.frb ss F8 oq oq' (by rw[ok'.len,ok.len])
       refine rqn ⟨st.length-(j+1),oM,j+1,iS,iX,iX,iX,iX,oM,FF.trans (Kc F8 ff),o8,f8,ii.frf F8 ff,s8,rfl⟩
       done
     ·simp only[evs,seval,g71,g70,hlt];have ej:j=st.length:=oM
      subst ej;simp only[List.take_length,Nat.sub_self,List.replicate_zero,List.append_nil]at ff;refine⟨by first|rw[z]|trivial,FF,?_⟩
      try rw[if_pos z]
      exact⟨p',d,some q,oo,hd,ii,ff,by simp;omega⟩
 ·simp only[evs,seval,eq_false z];exact⟨frF F03,al.fr F03⟩
end Go.Ev.Lay
namespace Go.Ev.St
abbrev aS:=Nat×Nat×Nat
def pth(a n j:Nat):Nat:=(a+j)%n
theorem xT{a n j:Nat}(h:0<n):pth a n j<n:=Nat.mod_lt _ h
theorem CF(a n j:Nat):(pth a n j+1)%n=pth a n (j+1):=by unfold pth;rw[Nat.mod_add_mod,Nat.add_assoc]
theorem CE(a n:Nat):pth a n 0=a%n:=by simp[pth]
theorem CG{a n i:Nat}(h:i<n):∃j,j<n∧pth a n j=i:=by refine⟨(i+(n-a%n))%n,Nat.mod_lt _ (by omega),?_⟩;unfold pth;have h1:a%n<n:=Nat.mod_lt _ (by omega);rw[Nat.add_mod_mod,←Nat.mod_add_mod,show a%n+(i+(n-a%n))=i+n by omega,Nat.add_mod_right,Nat.mod_eq_of_lt h]
structure Opn(mx:Nat→Nat)(sl:List aS):Prop where
 st:∀s∈sl,s.1=0∨s.1=1∨s.1=2
 uniq:∀i j k v w:Nat,sl[i]? =some (1,k,v)→sl[j]? =some (1,k,w)→i=j
 path:∀i k v:Nat,sl[i]? =some (1,k,v)→∃j,j<sl.length∧pth (mx k) sl.length j=i∧∀j',j'<j→∀s,sl[pth (mx k) sl.length j']? =some s→s.1≠0
 room:∃(i:Nat)(s:aS),sl[i]? =some s∧s.1=0
structure Looked(mx:Nat→Nat)(sl:List aS)(k at':Nat)(found:Bool):Prop where
 lt:at'<sl.length
 yes:found=true→∃v,sl[at']? =some (1,k,v)
 no:found=false→(∀i v:Nat,sl[i]? ≠some (1,k,v))∧(∃s:aS,sl[at']? =some s∧s.1≠1)∧∃j,j<sl.length∧pth (mx k) sl.length j=at'∧∀j',j'<j→∀s,sl[pth (mx k) sl.length j']? =some s→s.1≠0
structure Seek(mx:Nat→Nat)(sl:List aS)(k j:Nat)(g:Option Nat):Prop where
 jl:j<sl.length
 seen:∀j',j'<j→∀s,sl[pth (mx k) sl.length j']? =some s→s.1≠0∧¬(s.1=1∧s.2.1=k)
 grave:∀x,g=some x→x<sl.length∧∃j0,j0<j∧pth (mx k) sl.length j0=x∧∃s,sl[x]? =some s∧s.1=2
variable {mx : Nat → Nat} {sl : List aS} {k j : Nat} {g : Option Nat}
theorem Opn.pos(o:Opn mx sl):0<sl.length:=by let⟨i,s,h,_⟩:=o.room;have:=(List.getElem?_eq_some_iff.1 h).1;omega
theorem Seek.start(o:Opn mx sl)(k:Nat):Seek mx sl k 0 none:=⟨o.pos,fun _ h=>by omega,fun _ h=>by cases h⟩
theorem Seek.found(q:Seek mx sl k j g){v:Nat}(h:sl[pth (mx k) sl.length j]? =some (1,k,v)):Looked mx sl k (pth (mx k) sl.length j) true:=
 ⟨xT (by have:=q.jl;omega),fun _=>⟨v,h⟩,fun e=>by cases e⟩
theorem Seek.absent(o:Opn mx sl)(q:Seek mx sl k j g){s:aS}(h:sl[pth (mx k) sl.length j]? =some s)(h0:s.1=0)(i v:Nat):sl[i]? ≠some (1,k,v):=by intro hi;let⟨j1,l1,e1,p1⟩:=o.path i k v hi;obtain c|c|c:=Nat.lt_trichotomy j1 j;have:=(q.seen j1 c (1,k,v) (by rw[e1];exact hi)).2;exact this ⟨rfl,rfl⟩;grind;exact p1 j c s h h0
theorem Seek.free(o:Opn mx sl)(q:Seek mx sl k j g){s:aS}(h:sl[pth (mx k) sl.length j]? =some s)(h0:s.1=0):Looked mx sl k (g.getD (pth (mx k) sl.length j)) false:=by
 cases g with
 |none=>exact⟨xT o.pos,fun e=>(by cases e),fun _=>⟨q.absent o h h0,⟨s,h,by omega⟩,j,q.jl,rfl,fun j' hj s hs=>(q.seen j' hj s hs).1⟩⟩
 |some x=>let⟨l1,j0,l2,e,s',h1,h2⟩:=q.grave x rfl;have:=q.jl;exact⟨l1,fun e=>(by cases e),fun _=>⟨q.absent o h h0,⟨s',h1,by omega⟩,j0,by omega,e,fun j' hj s hs=>(q.seen j' (by omega) s hs).1⟩⟩
theorem Seek.next(o:Opn mx sl)(q:Seek mx sl k j g){s:aS}(h:sl[pth (mx k) sl.length j]? =some s)(h0:s.1≠0)(h1:¬(s.1=1∧s.2.1=k)):
 Seek mx sl k (j+1) (if s.1=2∧g=none then some (pth (mx k) sl.length j)else g):=by
 have jl:=q.jl;have seen:∀j',j'<j+1→∀s,sl[pth (mx k) sl.length j']? =some s→s.1≠0∧¬(s.1=1∧s.2.1=k):=by intro j' hj s' hs;by_cases c:j'=j;grind;exact q.seen j' (by omega) s' hs
 refine⟨?_,seen,?_⟩;obtain c|c:=Nat.lt_or_ge (j+1) sl.length;exact c;exfalso;let⟨i,s',hi,h'⟩:=o.room;let⟨j',l',e⟩:=CG (a:=mx k) (List.getElem?_eq_some_iff.1 hi).1;exact(seen j' (by omega) s' (by rw[e];exact hi)).1 h';intro x hx;by_cases c:s.1=2∧g=none;grind;rw[if_neg c]at hx;let⟨l1,j0,l2,e⟩:=q.grave x hx;exact⟨l1,j0,by omega,e⟩
theorem fh(sl:List aS)(a i:Nat)(x s:aS)(h:(sl.set a x)[i]? =some s):(i=a∧s=x∧a<sl.length)∨(i≠a∧sl[i]? =some s):=by grind
theorem iH{sl:List aS}{a:Nat}(x:aS)(h:a<sl.length):(sl.set a x)[a]? =some x:=List.getElem?_set_self h
theorem Opn.put(o:Opn mx sl){a:Nat}(q:Looked mx sl k a false)(v:Nat)(hr:∃(i:Nat)(s:aS),i≠a∧sl[i]? =some s∧s.1=0):Opn mx (sl.set a (1,k,v)):=by
 let⟨no,⟨s0,hs0,h0⟩,j,jl,je,jp⟩:=q.no rfl;refine⟨?_,?_,?_,?_⟩;intro s hs;obtain h|rfl:=List.mem_or_eq_of_mem_set hs;exact o.st s h;omega;intro i i' k' v' w' hi hi';obtain⟨e1,e,_⟩|⟨c,h1⟩:=fh _ _ _ _ _ hi<;>obtain⟨e2,e',_⟩|⟨c',h2⟩:=fh _ _ _ _ _ hi'
 rw[e1,e2];grind;grind;exact o.uniq _ _ _ _ _ h1 h2;intro i k' v' hi;rw[List.length_set];obtain⟨rfl,e,_⟩|⟨c,hi⟩:=fh _ _ _ _ _ hi;grind;let⟨j1,l1,e1,p1⟩:=o.path i k' v' hi;refine⟨j1,l1,e1,fun j' hj s hs=>?_⟩;obtain⟨_,rfl,_⟩|⟨_,hs⟩:=fh _ _ _ _ _ hs;simp;exact p1 j' hj s hs;let⟨i,s,c,hi,hs⟩:=hr;exact⟨i,s,by rw[List.getElem?_set_ne (Ne.symm c)];exact hi,hs⟩
theorem Opn.change(o:Opn mx sl){a w:Nat}(h:sl[a]? =some (1,k,w))(v:Nat):Opn mx (sl.set a (1,k,v)):=by
 have key:∀i k' v':Nat,(sl.set a (1,k,v))[i]? =some (1,k',v')→∃w',sl[i]? =some (1,k',w'):=by grind
 have nz:∀(i:Nat)(s:aS),(sl.set a (1,k,v))[i]? =some s→(∀s',sl[i]? =some s'→s'.1≠0)→s.1≠0:=by grind
 refine⟨?_,?_,?_,?_⟩;intro s hs;obtain h|rfl:=List.mem_or_eq_of_mem_set hs;exact o.st s h;omega;intro i i' k' v' w' hi hi';let⟨_,h1⟩:=key _ _ _ hi;let⟨_,h2⟩:=key _ _ _ hi';exact o.uniq _ _ _ _ _ h1 h2;intro i k' v' hi;rw[List.length_set];let⟨_,h1⟩:=key _ _ _ hi;let⟨j1,l1,e1,p1⟩:=o.path _ _ _ h1;exact⟨j1,l1,e1,fun j' hj s hs=>nz _ _ hs (p1 j' hj)⟩;let⟨i,s,hi,hs⟩:=o.room;refine⟨i,s,?_,hs⟩;rw[List.getElem?_set_ne];exact hi;grind
theorem Opn.drop(o:Opn mx sl){a w:Nat}(h:sl[a]? =some (1,k,w))(x y:Nat):Opn mx (sl.set a (2,x,y)):=by
 have key:∀i k' v':Nat,(sl.set a (2,x,y))[i]? =some (1,k',v')→sl[i]? =some (1,k',v'):=by grind
 refine⟨?_,?_,?_,?_⟩;intro s hs;obtain h|rfl:=List.mem_or_eq_of_mem_set hs;exact o.st s h;omega;intro i i' k' v' w' hi hi';exact o.uniq _ _ _ _ _ (key _ _ _ hi) (key _ _ _ hi');intro i k' v' hi;rw[List.length_set];let⟨j1,l1,e1,p1⟩:=o.path _ _ _ (key _ _ _ hi);refine⟨j1,l1,e1,fun j' hj s hs=>?_⟩;obtain⟨_,rfl,_⟩|⟨_,hs⟩:=fh _ _ _ _ _ hs;simp;exact p1 j' hj s hs;let⟨i,s,hi,hs⟩:=o.room;refine⟨i,s,?_,hs⟩;rw[List.getElem?_set_ne];exact hi;grind
theorem Opn.zero(mx:Nat→Nat)(n:Nat)(h:0<n):Opn mx (List.replicate n (0,0,0)):=by have e:∀(i:Nat)(s:aS),(List.replicate n ((0,0,0):aS))[i]? =some s→s=(0,0,0):=fun i s hs=>List.eq_of_mem_replicate (List.mem_of_getElem? hs);refine⟨fun s hs=>.inl (by rw[List.eq_of_mem_replicate hs]),fun i j k v w hi=>?_,fun i k v hi=>?_,⟨0,(0,0,0),by rw[List.getElem?_replicate,if_pos h],rfl⟩⟩;grind;grind
def cnS(c:Nat)(sl:List aS):Nat:=sl.countP fun s=>s.1==c
theorem iT{a c:Nat}{s x:aS}(h:sl[a]? =some s):cnS c (sl.set a x)+(if s.1=c then 1 else 0)=cnS c sl+(if x.1=c then 1 else 0):=by
 unfold cnS;induction sl generalizing a with
 |nil=>simp at h
 |cons y l ih=>
  cases a with
  |zero=>simp at h;subst h;simp only[List.set_cons_zero,List.countP_cons,beq_iff_eq];split<;>split<;>omega
  |succ a=>simp only[List.set_cons_succ,List.countP_cons,beq_iff_eq];have:=ih (a:=a) (by simpa using h);omega
theorem xf{n:Nat}(h:0<cnS 0 sl):∃(i:Nat)(s:aS),sl[i]? =some s∧s.1=0:=by unfold cnS at h;rw[List.countP_pos_iff]at h;let⟨s,hs,e⟩:=h;let⟨i,hi,e2⟩:=List.mem_iff_getElem.1 hs;exact⟨i,s,by rw[List.getElem?_eq_some_iff];exact⟨hi,e2⟩,by simpa using e⟩
theorem Ac(h:∀s∈sl,s.1=0∨s.1=1∨s.1=2):cnS 0 sl+cnS 1 sl+cnS 2 sl=sl.length:=by
 unfold cnS;induction sl with
 |nil=>rfl
 |cons y l ih=>have:=ih fun s hs=>h s (List.mem_cons_of_mem _ hs);simp only[List.countP_cons,beq_iff_eq,List.length_cons];obtain e|e|e:=h y (List.mem_cons_self ..)<;>simp only[e]<;>simp<;>omega
end Go.Ev.St
namespace Go.Ev.Lay
open Go.Ev.St
set_option maxRecDepth 4000
theorem Iu(x n m:Nat)(b:Int)(hb:b=n)(hn:n≤64)(hm:m=2^n):aP (.sh false) [.int .u64 (x:Int),.int .u64 b]=some (.int .u64 ((x/m:Nat):Int)):=by subst hb;rw[yU _ _ _ _ oM];simp only[Int.toNat_natCast,IntKind.bits,Nat.min_eq_left hn];rw[←hm];congr 2;exact Int.fdiv_eq_ediv_of_nonneg _ (Int.natCast_nonneg _)
def JO(x:Nat):Nat:=x^^^(x/2147483648)
def FU(x:Nat):Nat:=(x^^^(x/134217728)) *10723151780598845931%18446744073709551616
def FV(x:Nat):Nat:=(x^^^(x/1073741824)) *13787848793156543929%18446744073709551616
def mix(x:Nat):Nat:=JO (FU (FV x))
theorem IP{h:Heap}{x:Nat}(hx:x<18446744073709551616):ao go 207 [.int .u64 (x:Int)] h fun u h'=>u=.int .u64 (mix x:Nat)∧h'=h:=by have s1:=Iu x 30 1073741824 30 rfl oM dI;have x1:=pB x (x/1073741824) _ _ rfl rfl hx oM;have m1:=Ioa (x^^^x/1073741824) 13787848793156543929 13787848793156543929 rfl;have h1:FV x<18446744073709551616:=Nat.mod_lt _ oM;change _=some (V.int .u64 ((FV x:Nat):Int))at m1;unfold mix;generalize FV x=y at h1 m1;have s2:=Iu y 27 134217728 27 rfl oM dI;have x2:=pB y (y/134217728) _ _ rfl rfl h1 oM;have m2:=Ioa (y^^^y/134217728) 10723151780598845931 10723151780598845931 rfl;have h2:FU y<18446744073709551616:=Nat.mod_lt _ oM;change _=some (V.int .u64 ((FU y:Nat):Int))at m2;generalize FU y=z at h2 m2;have s3:=Iu z 31 2147483648 31 rfl oM dI;have x3:=pB z (z/2147483648) _ _ rfl rfl h2 oM;change _=some (V.int .u64 ((JO z:Nat):Int))at x3;refine ac ?_;simp only[evs,seval,s1,x1,m1,s2,x2,m2,s3,x3]
def sc(s:aS):List V:=[.int .u8 (s.1:Int),.int .u64 (s.2.1:Int),.int .i64 (s.2.2:Int)]
theorem pV(s:aS):(sc s).length=3:=rfl
def Tb(h:Heap)(v:V)(S:Nat)(sl:List aS):Prop:=(v=.slice S 0 sl.length sl.length∨v=.sliceU S 0 sl.length 3)∧Own h S (sl.flatMap sc)
theorem oG(sl:List aS):(sl.flatMap sc).length=sl.length*3:=aC pV sl
theorem Tb.recs{h:Heap}{v:V}{S:Nat}{sl:List aS}(t:Tb h v S sl):Recs sc 3 h v sl:=by obtain⟨rfl|rfl,o⟩:=t;exact⟨oG sl,rfl,Nat.le_refl _,_,o,by rw[oG];omega,by rw[List.drop_zero,List.take_of_length_le (by rw[oG];omega)]⟩;exact⟨oG sl,rfl,rfl,_,o,by rw[oG];omega,by rw[List.drop_zero,List.take_of_length_le (by rw[oG];omega)]⟩
theorem Tb.ix{h:Heap}{v:V}{S:Nat}{sl:List aS}(t:Tb h v S sl)(i:Nat)(hi:i<sl.length):aP (.ixs 3) [v,.int .i64 (i:Int)]=some (.ptr S (i*3)):=by obtain⟨rfl|rfl,o⟩:=t;have:=cL 3 S 0 sl.length sl.length .i64 (i:Int) oM oM;simpa using this;have:=q8 3 S 0 sl.length 3 .i64 (i:Int) oM oM;simpa using this
theorem Tb.fr{h h':Heap}{v:V}{S:Nat}{sl:List aS}(t:Tb h v S sl)(f:Fr [] h h'):Tb h' v S sl:=⟨t.1,f.get t.2⟩
def gi:Option Nat→Int
 |none=>-1
 |some x=>x
theorem Cq(p n:Nat)(h:n≠0):aP (.ib .rem) [.int .i64 ((p:Int)+1),.int .i64 (n:Int)]=some (.int .i64 (((p+1)%n:Nat):Int)):=by rw[iW _ _ _ oM];congr 2
theorem qo{mx:Nat→Nat}{h:Heap}{env:T V}{b S j key:Nat}{v M U:V}{sl:List aS}{g:Option Nat}{Q:Ex→T V→Heap→Prop}(w:WF h)(ob:Own h b [v,M,U])(tb:Tb h v S sl)(op:Opn mx sl)(q:Seek mx sl key j g)(hn:sl.length<1000000)
 (g0:env.get 0=some (.ptr b 0)) (g1:env.get 1=some (.int .u64 (key:Int))) (g4:env.get 4=some (.int .i64 (pth (mx key) sl.length j:Nat))) (g5:env.get 5=some (.bool false)) (g6:env.get 6=some (.int .i64 (gi g)))
 (Ky:∀env' h' at' found,env'.get 4=some (.int .i64 ((at':Nat):Int))→env'.get 5=some (.bool found)→Looked mx sl key at' found→Fr [] h h'→Q .ret env' h')
 (Kg:∀env' h' g',Seek mx sl key (j+1) g'→env'.get 0=some (.ptr b 0)→env'.get 1=some (.int .u64 (key:Int))→env'.get 4=some (.int .i64 (pth (mx key) sl.length (j+1):Nat))→env'.get 5=some (.bool false)→env'.get 6=some (.int .i64 (gi g'))→Fr [] h h'→Q (.goto 0) env' h'):
 W go uJ env h Q:=by
 have jl:=q.jl;have hp:pth (mx key) sl.length j<sl.length:=xT oM;have hx:=tb.ix _ hp;let⟨b1,o1,x,e1,_,e3,e4⟩:=Recs.ix pV tb.recs .i64 (pth (mx key) sl.length j:Nat) oM oM;rw[hx]at e1;obtain⟨rfl,rfl⟩:S=b1∧pth (mx key) sl.length j*3=o1:=by simpa using e1
 simp only[Int.toNat_natCast]at e4;have l0:ag h b 0=some v:=ob.ld1 0;let⟨s,ky,vl⟩:=x;have hs:=op.st _ (List.mem_of_getElem? e4);simp only[evs,seval,uJ,g0,g4,l0,hx,e3];apply stu (w.halloc _) (Own.new w _);rintro h1 o1 F1 n1;have F:Fr [] h h1:=(Fr.halloc w _).trans F1 w (fun _ hx=>by simp at hx) (fun x hx=>.inr (by simp at hx;omega));have q0:ag h1 h.next 0=some (.int .u8 (s:Int)):=o1.ld1 0;have q1:ag h1 h.next 1=some (.int .u64 (ky:Int)):=o1.ld1 1;have l1:ag h1 b 0=some v:=(F.get ob).ld1 0;have len:=(tb.fr F).recs.len;have rm:=Cq (pth (mx key) sl.length j) sl.length oM;rw[CF]at rm;have go':(hz:s≠0)→(hk:¬(s=1∧ky=key))→∀env':T V,env'.get 0=some (.ptr b 0)→env'.get 1=some (.int .u64 (key:Int))→env'.get 4=some (.int .i64 (pth (mx key) sl.length (j+1):Nat))→env'.get 5=some (.bool false)→
  env'.get 6=some (.int .i64 (gi (if s=2∧g=none then some (pth (mx key) sl.length j)else g)))→Q (.goto 0) env' h1:=fun hz hk env' a b c d e=>
  Kg env' h1 _ (q.next op e4 hz hk) a b c d e F
 obtain hs|hs|hs:=hs;have hs:s=0:=hs;subst hs;replace q0:ag h1 h.next 0=some (.int .u8 0):=q0;have fr:=q.free op e4 rfl;cases g with
 |none=>simp only[evs,seval,q0,g4,g6,(oM:¬(0:Int)=1),gi,(oM:¬(0:Int)≤-1)];refine Ky _ _ _ _ ?_ ?_ fr F<;>simp
 |some x=>simp only[evs,seval,q0,g6,(oM:¬(0:Int)=1),gi,eq_true (oM:(0:Int)≤(x:Int))];refine Ky _ _ _ _ ?_ ?_ fr F<;>simp
 have hs:s=1:=hs;subst hs;replace q0:ag h1 h.next 0=some (.int .u8 1):=q0;by_cases hk:ky=key;subst hk;have fo:=q.found e4;simp only[evs,seval,q0,q1,g1,g4];refine Ky _ _ _ _ ?_ ?_ fo F<;>simp
 have hk':¬(ky:Int)=(key:Int):=oM;have G:=go' oM (fun x=>hk x.2);rw[if_neg iS]at G;simp(disch:=omega) only[evs,seval,ab,q0,q1,g0,g1,g4,eq_false hk',(oM:¬(1:Int)=0),(oM:¬(1:Int)=2),l1,len,rm];refine G _ ?_ ?_ ?_ ?_ ?_<;>simp[g0,g1,g5,g6,gi]
 have hs:s=2:=hs;subst hs;replace q0:ag h1 h.next 0=some (.int .u8 2):=q0;have G:=go' oM oM;cases g with
 |none=>rw[if_pos ⟨rfl,rfl⟩]at G;simp(disch:=omega) only[evs,seval,ab,q0,g0,g4,g6,(oM:¬(2:Int)=1),(oM:¬(2:Int)=0),gi,(oM:(-1:Int)<0),l1,len,rm];refine G _ ?_ ?_ ?_ ?_ ?_<;>simp[g0,g1,g5,gi]
 |some x=>rw[if_neg iS]at G;simp(disch:=omega) only[evs,seval,ab,q0,g0,g4,g6,(oM:¬(2:Int)=1),(oM:¬(2:Int)=0),gi,eq_false (oM:¬(x:Int)<0),l1,len,rm];refine G _ ?_ ?_ ?_ ?_ ?_<;>simp[g0,g1,g5,g6,gi]
theorem Fq(a n:Nat)(b:Int)(hb:b=n)(h:n≠0):aP (.ib .rem) [.int .u64 (a:Int),.int .u64 b]=some (.int .u64 ((a%n:Nat):Int)):=by subst hb;rw[iW _ _ _ oM];congr 2
theorem j4{h:Heap}{b S key:Nat}{v M U:V}{sl:List aS}(w:WF h)(ob:Own h b [v,M,U])(tb:Tb h v S sl)(op:Opn mix sl)(hn:sl.length<1000000)(hk:key<18446744073709551616):
 ao go 184 [.ptr b 0,.int .u64 (key:Int)] h fun u h'=>∃at' found,u=.tup [.int .i64 ((at':Nat):Int),.bool found]∧Looked mix sl key at' found∧Fr [] h h':=by
 have l0:ag h b 0=some v:=ob.ld1 0;have len:=tb.recs.len;have pos:=op.pos;have mok:=IP (h:=h) hk;generalize mix=mx at op mok;have rm:=Fq (mx key) sl.length (sl.length:Nat) rfl oM;have rl:mx key%sl.length<sl.length:=Nat.mod_lt _ pos;refine ac ?_;simp only[evs,seval];refine pD (fun k env hh=>Fr [] h hh∧∃j g,Seek mx sl key j g∧env.get 0=some (.ptr b 0)∧env.get 1=some (.int .u64 (key:Int))∧env.get 4=some (.int .i64 (pth (mx key) sl.length j:Nat))∧env.get 5=some (.bool false)∧
  env.get 6=some (.int .i64 (gi g))∧k=sl.length-j) (sl.length-1) oM ?_ ?_
 simp only[evs,seval,eff];refine aa mok ?_;rintro _ _ ⟨rfl,hh⟩;replace hh:=hh.symm;subst hh;have cv1:bD .u64 (sl.length:Int)=(sl.length:Int):=bH _ oM oM;simp(disch:=omega) only[evs,seval,DF,eff,ab,l0,len,cv1,rm];refine qo w ob tb op (Seek.start op key) hn ?_ ?_ ?_ ?_ ?_ ?_ ?_;simp;simp;rw[CE];simp;simp;simp[gi];intro env' h' at' found e4 e5 L F;show jg _ _ _ _ _;simp only[evs,e4,e5];exact⟨_,_,rfl,L,F⟩;grind;rintro k env hh ⟨F,j,g,q,g0,g1,g4,g5,g6,rfl⟩;have jl:=q.jl;refine qo F.wf (F.get ob) (tb.fr F) op q hn g0 g1 g4 g5 g6 ?_ ?_;intro env' h' at' found e4 e5 L F';show jg _ _ _ _ _;simp only[evs,e4,e5];exact⟨_,_,rfl,L,F.then F'⟩;intro env' h' g' q1 a0 a1 a4 a5 a6 F';exact⟨rfl,sl.length-(j+1),oM,F.then F',j+1,g',q1,a0,a1,a4,a5,a6,rfl⟩
structure KmT(h:Heap)(b S:Nat)(v:V)(sl:List aS)(m:Nat→Option Nat)(c t:Nat):Prop where
 ob:Own h b [v,.int .i64 (c:Int),.int .i64 (t:Int)]
 tb:Tb h v S sl
 op:Opn mix sl
 n8:8≤sl.length
 nb:sl.length≤20000
 c1:cnS 1 sl=c
 c2:cnS 2 sl=t
 mp:∀k x:Nat,m k=some x↔∃i:Nat,sl[i]? =some (1,k,x)
 kb:∀s∈sl,s.2.1<18446744073709551616∧s.2.2<4611686018427387904
def Km(h:Heap)(b S:Nat)(m:Nat→Option Nat)(c:Nat):Prop:=
 (Own h b [.nils,.int .i64 0,.int .i64 0]∧c=0∧∀k,m k=none)∨∃v sl t,KmT h b S v sl m c t∧4*(c+t)≤3*sl.length
theorem KmT.fr{h h':Heap}{b S:Nat}{v:V}{sl:List aS}{m:Nat→Option Nat}{c t:Nat}(k:KmT h b S v sl m c t)(f:Fr [] h h'):KmT h' b S v sl m c t:={k with ob:=f.get k.ob,tb:=k.tb.fr f}
theorem Km.fr{h h':Heap}{b S:Nat}{m:Nat→Option Nat}{c:Nat}(k:Km h b S m c)(f:Fr [] h h'):Km h' b S m c:=by obtain⟨o,x⟩|⟨v,sl,t,k,x⟩:=k;exact .inl ⟨f.get o,x⟩;exact .inr ⟨v,sl,t,k.fr f,x⟩
theorem KmT.sum{h:Heap}{b S:Nat}{v:V}{sl:List aS}{m:Nat→Option Nat}{c t:Nat}(k:KmT h b S v sl m c t):cnS 0 sl+c+t=sl.length:=by have:=Ac k.op.st;rw[k.c1,k.c2]at this;exact this
theorem KmT.ne{h:Heap}{b S:Nat}{v:V}{sl:List aS}{m:Nat→Option Nat}{c t:Nat}(k:KmT h b S v sl m c t):b≠S:=by rintro rfl;have e:=k.ob.uniq k.tb.2;have:=congrArg List.length e;rw[oG]at this;have:=k.n8;simp at *;omega
theorem KmT.some_c{h:Heap}{b S:Nat}{v:V}{sl:List aS}{m:Nat→Option Nat}{c t:Nat}(k:KmT h b S v sl m c t){key x:Nat}(e:m key=some x):0<c:=by let⟨i,hi⟩:=(k.mp key x).1 e;rw[←k.c1];unfold cnS;rw[List.countP_pos_iff];exact⟨_,List.mem_of_getElem? hi,iS⟩
theorem Gk{h:Heap}(w:WF h):ao go 100 [] h fun u h'=>∃b,u=.ptr b 0∧h.next≤b∧Km h' b b (fun _=>none) 0∧Fr [] h h':=by refine ac ?_;simp only[evs,seval];exact⟨_,rfl,Nat.le_refl _,.inl ⟨Own.new w _,rfl,fun _=>rfl⟩,Fr.halloc w _⟩
theorem Gl{h:Heap}{b S:Nat}{m:Nat→Option Nat}{c:Nat}(k:Km h b S m c):ao go 183 [.ptr b 0] h fun u h'=>u=.int .i64 (c:Int)∧h'=h:=by
 have q:ag h b 1=some (.int .i64 (c:Int)):=by obtain⟨o,rfl,_⟩|⟨v,sl,t,k,_⟩:=k;exact o.ld1 1;exact k.ob.ld1 1
 refine ac ?_;simp only[evs,seval,q]
def mj(o:Option Nat):V:=match o with
 |some x=>.tup [.int .i64 (x:Int),.bool true]
 |none=>.tup [.int .i64 0,.bool false]
theorem Gm{h:Heap}{b S key:Nat}{m:Nat→Option Nat}{c:Nat}(w:WF h)(k:Km h b S m c)(hk:key<18446744073709551616):ao go 152 [.ptr b 0,.int .u64 (key:Int)] h fun u h'=>u=mj (m key)∧Fr [] h h':=by
 have k0:=k;refine ac ?_;simp only[evs,seval];refine aa (Gl k) ?_;rintro _ _ ⟨rfl,hh⟩;replace hh:=hh.symm;subst hh;by_cases hc:(c:Int)=0;have e:m key=none:=by
  obtain⟨o,_,h1⟩|⟨v,sl,t,k,_⟩:=k;exact h1 key;cases e:m key with
  |none=>rfl
  |some x=>have:=k.some_c e;omega
 rw[e];simp only[evs,seval,hc];exact⟨rfl,Fr.refl w⟩;obtain⟨o,h0,h1⟩|⟨v,sl,t,k,_⟩:=k;exact absurd oM hc;simp only[evs,seval,eq_false hc];refine aa (j4 w k.ob k.tb k.op (by have:=k.nb;omega) hk) ?_;rintro _ h2 ⟨at',found,rfl,L,F⟩;cases found;have e:m key=none:=by
  cases e:m key with
  |none=>rfl
  |some x=>let⟨i,hi⟩:=(k.mp key x).1 e;exact absurd hi ((L.no rfl).1 i x)
 rw[e];simp only[evs,seval];exact⟨rfl,F⟩;let⟨x,hx⟩:=L.yes rfl;have e:m key=some x:=(k.mp key x).2 ⟨_,hx⟩;have k2:=k.fr F;have ix:=k2.tb.ix _ L.lt;have l0:ag h2 b 0=some v:=k2.ob.ld1 0;have l2:ag h2 S (at'*3+2)=some (.int .i64 (x:Int)):=by
  let⟨b1,o1,y,e1,e2,_,e4⟩:=Recs.ix pV k2.tb.recs .i64 (at':Nat) oM (by have:=L.lt;omega);rw[ix]at e1;obtain⟨rfl,rfl⟩:S=b1∧at'*3=o1:=by simpa using e1
  simp only[Int.toNat_natCast]at e4;rw[hx]at e4;cases e4;exact(e2 2 oM).trans rfl
 rw[e];simp only[evs,seval,l0,ix,l2];exact⟨rfl,F⟩
theorem mq(x:aS):∀(sl:List aS)(i:Nat),i<sl.length→aX (sl.flatMap sc) (i*3) (sc x)=some ((sl.set i x).flatMap sc)
 |[],i,h=>by simp at h
 |y::l,0,_=>by show aX (V.int .u8 (y.1:Int)::V.int .u64 (y.2.1:Int)::V.int .i64 (y.2.2:Int)::l.flatMap sc) 0 [V.int .u8 (x.1:Int),V.int .u64 (x.2.1:Int),V.int .i64 (x.2.2:Int)]=_;rw[aO,aO,aO,jV];rfl
 |y::l,i+1,h=>by have ih:=mq x l i (eV h);rw[(oM:(i+1) *3=i*3+1+1+1)];show aX (V.int .u8 (y.1:Int)::V.int .u64 (y.2.1:Int)::V.int .i64 (y.2.2:Int)::l.flatMap sc) (i*3+1+1+1) (sc x)=_;rw[bj,bj,bj,ih];rfl
theorem sX(k v v':Nat):∀(sl:List aS)(i:Nat),sl[i]? =some (1,k,v)→aX (sl.flatMap sc) (i*3+2) [V.int .i64 (v':Int)]=some ((sl.set i (1,k,v')).flatMap sc)
 |[],i,h=>by simp at h
 |y::l,0,h=>by simp at h;subst h;show aX (V.int .u8 ((1:Nat):Int)::V.int .u64 (k:Int)::V.int .i64 (v:Int)::l.flatMap sc) (0+1+1) [V.int .i64 (v':Int)]=_;rw[bj,bj,aO,jV];rfl
 |y::l,i+1,h=>by have ih:=sX k v v' l i (eV h);rw[(oM:(i+1) *3+2=i*3+2+1+1+1)];show aX (V.int .u8 (y.1:Int)::V.int .u64 (y.2.1:Int)::V.int .i64 (y.2.2:Int)::l.flatMap sc) (i*3+2+1+1+1) [V.int .i64 (v':Int)]=_;rw[bj,bj,bj,ih];rfl
theorem Tb.put{h h1:Heap}{v:V}{S i:Nat}{sl:List aS}{x:aS}(t:Tb h v S sl)(o:Own h1 S ((sl.set i x).flatMap sc)):Tb h1 v S (sl.set i x):=⟨by rw[List.length_set];exact t.1,o⟩
theorem k7{sl:List aS}{i:Nat}{x:aS}(kb:∀s∈sl,s.2.1<18446744073709551616∧s.2.2<4611686018427387904)(hx:x.2.1<18446744073709551616∧x.2.2<4611686018427387904):∀s∈sl.set i x,s.2.1<18446744073709551616∧s.2.2<4611686018427387904:=by grind
theorem HL{sl:List aS}(h:2≤cnS 0 sl)(a:Nat):∃(i:Nat)(s:aS),i≠a∧sl[i]? =some s∧s.1=0:=by
 by_cases ha:a<sl.length;have e:=iT (c:=0) (x:=((1,0,0):aS)) (List.getElem?_eq_getElem ha);have h2:0<cnS 0 (sl.set a (1,0,0)):=by grind
 let⟨i,s,hi,hs⟩:=xf (n:=0) h2;obtain⟨_,rfl,_⟩|⟨ci,hi⟩:=fh _ _ _ _ _ hi;cases hs;grind;let⟨i,s,hi,hs⟩:=xf (n:=0) (sl:=sl) oM;have:=(List.getElem?_eq_some_iff.1 hi).1;exact⟨i,s,oM,hi,hs⟩
theorem qJ{c i:Nat}{sl:List aS}{s:aS}(h:sl[i]? =some s):cnS c (sl.take (i+1))=cnS c (sl.take i)+(if s.1=c then 1 else 0):=by unfold cnS;rw[List.take_add_one,h,List.countP_append];simp[List.countP_cons]
theorem xe(c i:Nat)(sl:List aS):cnS c (sl.take i)≤cnS c sl:=by unfold cnS;exact List.Sublist.countP_le (List.take_sublist i sl)
def Old(h:Heap)(b S:Nat)(v:V)(ol:List aS):Prop:=(v=.nils∧ol=[])∨(Tb h v S ol∧b≠S∧S<h.next)
theorem Old.recs{h:Heap}{b S:Nat}{v:V}{ol:List aS}(o:Old h b S v ol):Recs sc 3 h v ol:=by obtain⟨rfl,rfl⟩|⟨t,_⟩:=o;exact Recs.nil;exact t.recs
theorem Old.fr{h h':Heap}{b S:Nat}{v:V}{ol:List aS}(o:Old h b S v ol)(f:Fr [b] h h'):Old h' b S v ol:=by obtain o|⟨t,ne,lt⟩:=o;exact .inl o;exact .inr ⟨⟨t.1,f.own S _ (by simp;exact fun e=>ne e.symm) t.2⟩,ne,Nat.lt_of_lt_of_le lt f.next⟩
structure Moved(sl ol:List aS)(i:Nat):Prop where
 op:Opn mix sl
 c1:cnS 1 sl=cnS 1 (ol.take i)
 c2:cnS 2 sl=0
 mp:∀k x:Nat,(∃j:Nat,sl[j]? =some (1,k,x))↔∃j:Nat,j<i∧ol[j]? =some (1,k,x)
 kb:∀s∈sl,s.2.1<18446744073709551616∧s.2.2<4611686018427387904
theorem Moved.skip{sl ol:List aS}{i:Nat}{s:aS}(m:Moved sl ol i)(h:ol[i]? =some s)(hs:s.1≠1):Moved sl ol (i+1):=by refine{m with c1:=by rw[qJ h,if_neg hs];exact m.c1,mp:=fun k x=>(m.mp k x).trans ⟨fun⟨j,a,b⟩=>⟨j,oM,b⟩,fun⟨j,a,b⟩=>?_⟩};refine⟨j,?_,b⟩;obtain q|q:=Nat.lt_or_ge j i;exact q;have:j=i:=oM;subst this;rw[h]at b;cases b;exact absurd rfl hs
theorem Moved.put{sl ol:List aS}{i k x a:Nat}(m:Moved sl ol i)(h:ol[i]? =some (1,k,x))(L:Looked mix sl k a false)(hk:k<18446744073709551616)(hx:x<4611686018427387904)(rm:2≤cnS 0 sl):Moved (sl.set a (1,k,x)) ol (i+1):=by
 let⟨no,⟨s0,hs0,h0⟩,_⟩:=L.no rfl;have z2:s0.1≠2:=by intro e;have:=m.c2;unfold cnS at this;rw[List.countP_eq_zero]at this;exact this s0 (List.mem_of_getElem? hs0) iX
 have e1:=iT (c:=1) (x:=((1,k,x):aS)) hs0;have e2:=iT (c:=2) (x:=((1,k,x):aS)) hs0;simp only[if_neg h0,if_neg z2,if_true]at e1 e2;refine⟨m.op.put L x (HL rm a),?_,?_,fun k' x'=>⟨?_,?_⟩,k7 m.kb ⟨hk,hx⟩⟩;rw[qJ h,if_pos rfl,←m.c1];omega;have:=m.c2;simp at e2;omega;rintro⟨j,hj⟩;obtain⟨_,e,_⟩|⟨cj,hj⟩:=fh _ _ _ _ _ hj;grind;let⟨j',l',e'⟩:=(m.mp k' x').1 ⟨j,hj⟩;exact⟨j',oM,e'⟩;rintro⟨j,lj,hj⟩;by_cases c:j=i;subst c;rw[h]at hj;cases hj;exact⟨a,iH _ L.lt⟩;let⟨j',hj'⟩:=(m.mp k' x').2 ⟨j,oM,hj⟩;refine⟨j',?_⟩;rw[List.getElem?_set_ne];exact hj';grind
theorem AW(n:Nat):bq [V.int .u8 0,V.int .u64 0,V.int .i64 0] n=(List.replicate n ((0,0,0):aS)).flatMap sc:=by
 induction n with
 |zero=>rfl
 |succ n ih=>show[V.int .u8 0,V.int .u64 0,V.int .i64 0]++bq _ n=_;rw[ih,List.replicate_succ];rfl
theorem xd(c n:Nat)(hc:c≠0):cnS c (List.replicate n (0,0,0))=0:=by unfold cnS;rw[List.countP_eq_zero];intro s hs;rw[List.eq_of_mem_replicate hs];simp;omega
theorem vD{h:Heap}{b S q c:Nat}{ov T0:V}{ol:List aS}(w:WF h)(ob:Own h b [ov,.int .i64 (c:Int),T0])(old:Old h b S ov ol)(o1:ov.one=true)(t1:T0.one=true)(hl:ol.length≤20000)
 (uq:∀i j k v w:Nat,ol[i]? =some (1,k,v)→ol[j]? =some (1,k,w)→i=j) (oc:cnS 1 ol=c) (kb:∀s∈ol,s.2.1<18446744073709551616∧s.2.2<4611686018427387904) (hc:c≤q) (q1:1≤q) (q2:q≤4097):
 ao go 185 [.ptr b 0,.int .i64 (q:Int)] h fun u h'=>u=.tup []∧∃n S' sl,h.next≤S'∧sl.length=n∧8≤n∧n≤20000∧2*q≤n∧Own h' b [.slice S' 0 n n,.int .i64 (c:Int),.int .i64 0]∧Tb h' (.slice S' 0 n n) S' sl∧Moved sl ol ol.length∧Fr [b] h h':=by
 have bl:=ob.lt w;refine ac ?_;simp only[evs,seval];refine az (fun k env hh=>h=hh∧∃n:Nat,env.get 0=some (.ptr b 0)∧env.get 1=some (.int .i64 (q:Int))∧env.get 4=some (.int .i64 (n:Int))∧8≤n∧n≤16388∧k=2*q-n) (2*q-8) oM ?_ ?_
 ·exact⟨rfl,8,iS,iS,iS,oM,oM,rfl⟩
 rintro k env hh ⟨rfl,n,g0,g1,g4,n8,nb,rfl⟩;by_cases hn:(n:Int)<2*(q:Int)
 ·simp(disch:=omega) only[evs,seval,ab,g1,g4,eq_true hn];refine rqn ⟨2*q-n*2,oM,rfl,n*2,iX,iX,iS,oM,oM,rfl⟩
  done
 have l0:ag h b 0=some ov:=ob.ld1 0;have ms:=AW n;have mk:tD h [V.int .u8 0,V.int .u64 0,V.int .i64 0] 24 (.int .i64 (n:Int)) (.int .i64 (n:Int))=some (.slice h.next 0 n n,halloc h ((List.replicate n ((0,0,0):aS)).flatMap sc)):=by
  rw[←ms];show(bif Nat.ble n n&&Nat.blt n 9223372036854775808&&Nat.ble (24*n) 281474976710656 then some (V.slice h.next 0 n n,halloc h (bq [V.int .u8 0,V.int .u64 0,V.int .i64 0] n))else none)=_;rw[show Nat.ble n n=true by rw[Nat.ble_eq];omega,show Nat.blt n 9223372036854775808=true by rw[Nat.blt_eq];omega,show Nat.ble (24*n) 281474976710656=true by rw[Nat.ble_eq];omega];rfl
 simp(disch:=omega) only[evs,seval,ab,g0,g1,g4,eq_false hn,l0,mk];have w0:=w.halloc ((List.replicate n ((0,0,0):aS)).flatMap sc);refine stu w0 (ob.halloc w _) ?_;rintro h1 ob1 F1 n1;simp only[evs,seval,g0];refine stu F1.wf ob1 ?_;rintro h2 ob2 F2 n2;have bn:h.next≠b:=oM
 have ot2:Own h2 h.next ((List.replicate n ((0,0,0):aS)).flatMap sc):=F2.own _ _ (eV bn) (F1.own _ _ (eV bn) (Own.new w _));have Fa:Fr [b] h h2:=((Fr.halloc w _).trans (F1.trans F2 w0 (T:=[b]) (fun x hx=>.inl hx) (fun x hx=>.inl hx)) w (fun x hx=>by simp at hx) (fun x hx=>.inl hx));have len:=old.recs.len;simp only[evs,seval,len];refine az (fun k env hh=>∃(i:Nat)(sl:List aS),Fr [b] h hh∧Own hh b [.slice h.next 0 n n,.int .i64 (c:Int),.int .i64 0]∧Tb hh (.slice h.next 0 n n) h.next sl∧sl.length=n∧Moved sl ol i∧env.get 0=some (.ptr b 0)∧env.get 28=some ov∧
  env.get 29=some (.int .i64 (ol.length:Int))∧env.get 30=some (.int .i64 (i:Int))∧i≤ol.length∧k=ol.length-i) ol.length oM ?_ ?_
 ·refine⟨0,List.replicate n (0,0,0),Fa,ob2,⟨.inl iS,ot2⟩,iS,⟨Opn.zero _ _ oM,?_,xd 2 n oM,fun k x=>⟨?_,?_⟩,?_⟩,iX,iS,iS,iS,oM,rfl⟩
  ·rw[xd 1 n oM];simp[cnS]
  ·grind
  ·omega
  ·grind
 clear ob1 F1 n1 ob2 F2 n2 ot2 Fa w0 g0 g1 g4 l0 mk ms;rintro k env hh ⟨i,sl,F,oB,tB,sn,mv,g0,g28,g29,g30,hi,rfl⟩;by_cases hlt:(i:Int)<(ol.length:Int)
 ·have wh:=F.wf;let⟨b1,p1,⟨s,ky,vl⟩,e1,_,e3,e4⟩:=Recs.ix pV (old.fr F).recs .i64 (i:Int) oM hlt;simp only[Int.toNat_natCast]at e4;have hk:=kb _ (List.mem_of_getElem? e4);simp only[evs,seval,g28,g29,g30,eq_true hlt,e1,e3];refine stu (wh.halloc _) (Own.new wh _) ?_;rintro h3 o3 F3 n3;have Fx:Fr [] hh h3:=(Fr.halloc wh _).trans F3 wh (fun _ hx=>by simp at hx) (fun x hx=>.inr (by simp at hx;omega));by_cases hs:(s:Int)=1
  ·have hs1:s=1:=oM
   subst hs1;have q0:ag h3 hh.next 0=some (.int .u8 1):=o3.ld1 0;have q1':ag h3 hh.next 1=some (.int .u64 (ky:Int)):=o3.ld1 1;simp only[evs,seval,q0,q1',g0];refine aa (j4 Fx.wf (Fx.get oB) (tB.fr Fx) mv.op oM hk.1) ?_;rintro _ h4 ⟨at',found,rfl,L,F4⟩;cases found;case true=>
    let⟨x,hx⟩:=L.yes rfl;let⟨j,lj,hj⟩:=(mv.mp ky x).1 ⟨_,hx⟩;have:=uq _ _ _ _ _ hj e4;omega
   have Fy:=Fx.then F4;have l0:ag h4 b 0=some (.slice h.next 0 n n):=(Fy.get oB).ld1 0;have q3:ai h4 hh.next 0 3=some (sc (1,ky,vl)):=by rw[(F4.get o3).ld];rfl
   have ix:=(tB.fr Fy).ix at' L.lt;simp only[evs,seval,eff,g0,l0,q3,ix];refine ah (c':=(sl.set at' (1,ky,vl)).flatMap sc) Fy.wf (tB.fr Fy).2 rfl rfl (mq (1,ky,vl) sl at' L.lt) ?_;rintro h5 o5 F5 n5;have room:2≤cnS 0 sl:=by
    have e:=Ac mv.op.st;have:=mv.c2;have a1:=mv.c1;have a2:=qJ (c:=1) e4;have a3:=xe 1 (i+1) ol;simp only[if_true]at a2;omega
   simp(disch:=omega) only[evs,seval,DF,ab,g30,l0,q3];refine rqn ⟨ol.length-(i+1),oM,i+1,sl.set at' (1,ky,vl),(F.trans Fy w (fun x hx=>.inl hx) (fun x hx=>by simp at hx)).trans F5 w (fun x hx=>.inl hx) (fun x hx=>.inr (by simp at hx;omega)),F5.own b _ (by simpa using Ne.symm bn) (Fy.get oB),⟨by rw[List.length_set];exact tB.1,o5⟩,by rw[List.length_set];exact sn,
    mv.put e4 L hk.1 hk.2 room,iX,iX,iX,iS,oM,rfl⟩
   done
  ·have q0:ag h3 hh.next 0=some (.int .u8 (s:Int)):=o3.ld1 0;simp(disch:=omega) only[evs,seval,ab,q0,eq_false hs,g30];refine rqn ⟨ol.length-(i+1),oM,i+1,sl,F.trans Fx w (fun x hx=>.inl hx) (fun x hx=>by simp at hx),Fx.get oB,tB.fr Fx,sn,mv.skip e4 (by simp only[];omega),iX,iX,iX,iS,oM,rfl⟩
   done
 ·have:i=ol.length:=oM
  subst this;simp only[evs,seval,g29,g30,eq_false hlt];exact⟨n,h.next,sl,Nat.le_refl _,sn,n8,oM,oM,oB,tB,mv,F⟩
def i9(m:Nat→Option Nat)(key x:Nat):Nat→Option Nat:=fun k=>if k=key then some x else m k
theorem KmT.put{h h':Heap}{b S key x a t':Nat}{v:V}{sl:List aS}{m:Nat→Option Nat}{c t:Nat}(k:KmT h b S v sl m c t)(L:Looked mix sl key a false)(hk:key<18446744073709551616)(hx:x<4611686018427387904)(fill:4*(c+t+1)≤3*sl.length)
 (ob:Own h' b [v,.int .i64 ((c+1:Nat):Int),.int .i64 (t':Int)]) (o:Own h' S ((sl.set a (1,key,x)).flatMap sc)) (ht:∀s:aS,sl[a]? =some s→t'+(if s.1=2 then 1 else 0)=t):KmT h' b S v (sl.set a (1,key,x)) (i9 m key x) (c+1) t':=by
 let⟨no,⟨s0,hs0,h0⟩,_⟩:=L.no rfl;have e1:=iT (c:=1) (x:=((1,key,x):aS)) hs0;have e2:=iT (c:=2) (x:=((1,key,x):aS)) hs0;simp only[if_neg h0,if_true]at e1;have ht:=ht s0 hs0;have c1:=k.c1;have c2:=k.c2;have rm:2≤cnS 0 sl:=by have:=k.sum;have:=k.n8;omega
 refine⟨ob,⟨by rw[List.length_set];exact k.tb.1,o⟩,k.op.put L x (HL rm a),by rw[List.length_set];exact k.n8,by rw[List.length_set];exact k.nb,oM,?_,fun k' x'=>⟨?_,?_⟩,k7 k.kb ⟨hk,hx⟩⟩;grind;intro e;unfold i9 at e;by_cases ck:k'=key;rw[if_pos ck]at e;cases e;subst ck;exact⟨a,iH _ L.lt⟩;rw[if_neg ck]at e;let⟨i,hi⟩:=(k.mp k' x').1 e;refine⟨i,?_⟩;rw[List.getElem?_set_ne];exact hi;grind;rintro⟨i,hi⟩;unfold i9;obtain⟨_,e,_⟩|⟨ci,hj⟩:=fh _ _ _ _ _ hi;grind;by_cases ck:k'=key;grind;rw[if_neg ck];exact(k.mp k' x').2 ⟨i,hj⟩
theorem zC{h:Heap}{env:T V}{b S key x:Nat}{v:V}{sl:List aS}{m:Nat→Option Nat}{c t:Nat}{R:V→Heap→Prop}(w:WF h)(k:KmT h b S v sl m c t)(hk:key<18446744073709551616)(hx:x<4611686018427387904)(hm:m key=none)(fill:4*(c+t+1)≤3*sl.length)
 (g0:env.get 0=some (.ptr b 0)) (g1:env.get 1=some (.int .u64 (key:Int))) (g2:env.get 2=some (.int .i64 (x:Int)))
 (K:∀h' sl' t',KmT h' b S v sl' (i9 m key x) (c+1) t'→sl'.length=sl.length→t'≤t→Fr [b,S] h h'→R (.int .i64 0) h'):W go Fv env h (jg [.t 6] R):=by
 have cb:=k.sum;have nb:=k.nb;have ne:=k.ne;simp only[evs,Fv,g0,g1];apply aa (j4 w k.ob k.tb k.op oM hk);rintro _ h2 ⟨at',found,rfl,L,F⟩;cases found;case true=>
  let⟨y,hy⟩:=L.yes rfl;have:=(k.mp key y).2 ⟨_,hy⟩;rw[hm]at this;cases this
 have k2:=k.fr F;have ix:=k2.tb.ix _ L.lt;have l0:ag h2 b 0=some v:=k2.ob.ld1 0;let⟨no,⟨s0,hs0,h0⟩,_⟩:=L.no rfl;have l3:ag h2 S (at'*3)=some (.int .u8 (s0.1:Int)):=by
  let⟨b1,o1,y,e1,e2,_,e4⟩:=Recs.ix pV k2.tb.recs .i64 (at':Nat) oM (by have:=L.lt;omega);rw[ix]at e1;obtain⟨rfl,rfl⟩:S=b1∧at'*3=o1:=by simpa using e1
  simp only[Int.toNat_natCast]at e4;rw[hs0]at e4;cases e4;exact(e2 0 oM).trans rfl
 by_cases ht:(s0.1:Int)=2;have t1:1≤t:=by
  rw[←k.c2];have:0<cnS 2 sl:=by unfold cnS;rw[List.countP_pos_iff];exact⟨s0,List.mem_of_getElem? hs0,by simp;omega⟩
  exact this
 have l2:ag h2 b 2=some (.int .i64 (t:Int)):=k2.ob.ld1 2;simp(disch:=omega) only[evs,seval,ab,l0,ix,l3,eq_true ht,g0,l2];apply stu F.wf k2.ob;rintro h3 o3 F3 n3;have tb3:Tb h3 v S sl:=⟨k2.tb.1,F3.own S _ (by simpa using Ne.symm ne) k2.tb.2⟩;have l0':ag h3 b 0=some v:=o3.ld1 0;have ix':=tb3.ix _ L.lt;simp only[evs,seval,g0,g1,g2,l0',ix'];apply ah (c':=(sl.set at' (1,key,x)).flatMap sc) F3.wf tb3.2 rfl rfl (mq (1,key,x) sl at' L.lt);rintro h4 o4 F4 n4;have ob4:=F4.own b _ (eV ne) o3;have l1:ag h4 b 1=some (.int .i64 (c:Int)):=ob4.ld1 1;simp(disch:=omega) only[evs,seval,ab,g0,l1];apply stu F4.wf ob4;rintro h5 o5 F5 n5;simp only[evs,seval];refine K h5 (sl.set at' (1,key,x)) (t-1) (k.put L hk hx fill ?_ (F5.own S _ (by simpa using Ne.symm ne) o4) ?_) (List.length_set ..) oM ?_;rw[(oM:((t-1:Nat):Int)=(t:Int)-1)];exact o5;intro s hs;rw[hs0]at hs;cases hs;rw[if_pos oM];omega;have A:Fr [b,S] h2 h4:=F3.trans F4 F.wf (fun x hx=>.inl (by simp at hx;simp[hx])) (fun x hx=>.inl (by simp at hx;simp[hx]));have B:Fr [b,S] h2 h5:=A.trans F5 F.wf (fun x hx=>.inl hx) (fun x hx=>.inl (by simp at hx;simp[hx]));exact F.trans B w (fun x hx=>by simp at hx) (fun x hx=>.inl hx);simp only[evs,seval,l0,ix,l3,eq_false ht,g0,g1,g2];apply ah (c':=(sl.set at' (1,key,x)).flatMap sc) F.wf k2.tb.2 rfl rfl (mq (1,key,x) sl at' L.lt);rintro h4 o4 F4 n4;have ob4:=F4.own b _ (eV ne) k2.ob;have l1:ag h4 b 1=some (.int .i64 (c:Int)):=ob4.ld1 1;simp(disch:=omega) only[evs,seval,ab,g0,l1];apply stu F4.wf ob4;rintro h5 o5 F5 n5;simp only[evs,seval];refine K h5 (sl.set at' (1,key,x)) t (k.put L hk hx fill o5 (F5.own S _ (by simpa using Ne.symm ne) o4) ?_) (List.length_set ..) oM ?_;intro s hs;rw[hs0]at hs;cases hs;rw[if_neg oM];omega;have B:Fr [b,S] h2 h5:=F4.trans F5 F.wf (fun x hx=>.inl (by simp at hx;simp[hx])) (fun x hx=>.inl (by simp at hx;simp[hx]));exact F.trans B w (fun x hx=>by simp at hx) (fun x hx=>.inl hx)
end Go.Ev.Lay
