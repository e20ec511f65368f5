/- An evaluator of the program, and contracts over it: LayP to StP. -/
import Derived.Test.YtdbfhmneijcjbaaGreatP04
import Derived.Test.YtdbfhmneijcjbaaGreatP06
set_option linter.unusedSimpArgs false
set_option linter.unusedVariables false
set_option linter.constructorNameAsVariable false
set_option linter.unnecessarySimpa false
namespace Go.Ev.Lay
variable{h':Heap}{bs ks:List Bool}{pm:Option Nat}{vk:V}
set_option maxRecDepth 4000
theorem IW(k:IntKind)(x:Nat)(b:Int)(n:Nat)(h:b=n)(Z:n<=64):aP (.sh false) [ZX (x:Int),.int k b]=some (ZX ((x/2^n:Nat):Int)):=by subst h;rw[AV _ _ _ _ oM];simp only[RX,IntKind.bits,TM Z];congr 2;rw[Int.fdiv_eq_ediv_of_nonneg _ (VM _),Int.natCast_ediv]
theorem LM(w x y:Nat):(BitVec.ofInt w (x:Int)&&&BitVec.ofInt w (y:Int)).toNat=(x%2^w)&&&(y%2^w):=by simp[BitVec.toNat_and]
theorem LL(w x y:Nat):(BitVec.ofInt w (x:Int)^^^BitVec.ofInt w (y:Int)).toNat=(x%2^w)^^^(y%2^w):=by simp[BitVec.toNat_xor]
theorem G8(k:IntKind)(a b:Int):aP (.ib .and) [.int k a,.int k b]=some (.int k (bX k (BitVec.toNat (BitVec.ofInt k.bits a&&&BitVec.ofInt k.bits b)))):=by simp only[aP,ce,cond_true,iK]
theorem KF(k:IntKind)(a b:Int):aP (.ib .xor) [.int k a,.int k b]=some (.int k (bX k (BitVec.toNat (BitVec.ofInt k.bits a^^^BitVec.ofInt k.bits b)))):=by simp only[aP,ce,cond_true,iK]
theorem p64:2^IntKind.u64.bits=18446744073709551616:=rfl
theorem IX(x y:Nat)(a b:Int)(ha:a=x)(K:b=y)(Z:x<18446744073709551616)(hy:y<18446744073709551616):aP (.ib .and) [ZX a,ZX b]=some (ZX ((x&&&y:Nat):Int)):=by subst ha K;have ac:x&&&y<18446744073709551616:=Nat.lt_of_le_of_lt Nat.and_le_left Z;rw[G8,LM,p64,UN Z,UN hy,dG _ oM oM]
theorem qO(x y:Nat)(a b:Int)(ha:a=x)(hb:b=y)(Z:x<18446744073709551616)(K:y<18446744073709551616):aP (.ib .xor) [ZX a,ZX b]=some (ZX ((x^^^y:Nat):Int)):=by subst ha hb;have ac:x^^^y<2^64:=Nat.xor_lt_two_pow (eV Z) (eV K);rw[KF,LL,p64,UN Z,UN K,dG _ oM oM]
def uw(x:Nat):V:=ZX (x:Int)
def flc(n m:Int)(ws:List Nat):List V:=ZZ n::ZZ m::ws.map uw
structure WOK(ws:List Nat)(bs:List Bool):Prop where
 len:ws.length=64
 w:∀k,k<64->∃x,ws[k]? =some x/\x<18446744073709551616/\∀j,j<64->x.testBit j=bs.getD (64*k+j) false
def Fl(h:Heap)(b:Nat)(bs:List Bool):Prop:=∃ws,Own h b (flc bs.length (bs.count true) ws)/\WOK ws bs/\bs.length<=4096
theorem Fl.fr{h:Heap}{b:Nat}(a:Fl h b bs)(f:Fr [] h h'):Fl h' b bs:=by let⟨ws,o,x⟩:=a;exact⟨ws,f.get o,x⟩
theorem BE(n m:Int)(Z:List Nat)(k:Nat):nth (flc n m Z) (2+k)=(Z[k]?).map uw:=by rw[j3,UH];simp[flc]
theorem Jq(i:Nat):aP (.ib .quo) [ZZ (i:Int),ZZ 64]=some (ZZ ((i/64:Nat):Int))\/i>9000000:=by by_cases h:i>9000000;exact .inr h;left;rw[pZ _ _ 64 dI,show Int.tdiv (i:Int) 64=((i/64:Nat):Int)from(Int.ofNat_tdiv i 64).symm,ah _ oM oM]
theorem Jp(i:Nat):aP (.ib .rem) [ZZ (i:Int),ZZ 64]=some (ZZ ((i%64:Nat):Int)):=by rw[nm _ _ 64 dI,show Int.tmod (i:Int) 64=((i%64:Nat):Int)from(Int.ofNat_tmod i 64).symm]
theorem Mo(x j:Nat):decide (((x/2^j&&&1:Nat):Int)=1)=x.testBit j:=by grind
theorem Fk{h:Heap}{b:Nat}{i:Nat}(f:Fl h b bs)(hi:i<bs.length):ao go 211 [.ptr b 0,ZZ (i:Int)] h fun u h'=>u=.bool (bs.getD i false)/\h'=h:=by
 let⟨ws,o,ok,hn⟩:=f;let⟨x,e1,e2,e3⟩:=ok.w (i/64) oM;have q1:=(Jq i).resolve_right oM;have K:=Jp i;have Z:=xM 1 b 2 64 .i64 ((i/64:Nat):Int) oM oM;have q4:ab h b (2+(i/64) *1)=some (ZX (x:Int)):=by rw[o.ld1,Uh,BE,e1];rfl
 have q5:=IW .i64 x ((i%64:Nat):Int) (i%64) rfl oM;have q6:=IX (x/2^(i%64)) 1 _ 1 rfl rfl (Nat.lt_of_le_of_lt (Nat.div_le_self _ _) e2) oM;simp only[RX]at Z;refine ag ?_;simp only[Ce,Cc,Cf,jt,xN,I5,I4,HX,qQ,qP,EC,xO,fO,wT,wS,ql,iB,BI,dE,gu,cU,bR,cQ,lO,hU,TF,pc,pa,nW,w9,lh,BZ,tI,jm,AY,seval,Tj,q1,K,Z,q4,q5,q6,Mo];rw[e3 (i%64) oM,(oM:64*(i/64)+i%64=i)];exact⟨rfl,trivial⟩
theorem Dh:∀(bs:List Bool)(i:Nat)(v:Bool),i<bs.length->bs.getD i false≠v->((bs.set i v).count true:Int)=bs.count true+if v=true then 1 else-1
 |b::bs,0,v,_,h=>by cases b<;>cases v<;>simp at h|- <;>omega
 |b::bs,i+1,v,hi,h=>by grind
theorem yd:∀(bs:List Bool)(i:Nat),bs.set i (bs.getD i false)=bs
 |[],_=>rfl
 |b::bs,0=>by simp
 |b::bs,i+1=>by have:=yd bs i;simp at this⊢;exact this
theorem WOK.flip{Z:List Nat}(ok:WOK Z bs){i x:Nat}{v:Bool}(hi:i<bs.length)(h4:bs.length<=4096)(hx:Z[i/64]? =some x)(hv:bs.getD i false≠v):WOK (Z.set (i/64) (x^^^2^(i%64))) (bs.set i v):=by refine⟨by rw[Ta];exact ok.len,fun k hk=>?_⟩;let⟨y,K,e2,e3⟩:=ok.w k hk;by_cases c:k=i/64;subst c;rw[hx]at K;cases K;refine⟨x^^^2^(i%64),by simp[ok.len,hk],?_,fun j hj=>?_⟩;have:=Nat.xor_lt_two_pow (n:=64) (x:=x) (y:=2^(i%64)) (eV e2) (VE oM oM);simpa using this;grind;grind
theorem Iy(n m:Int)(Z:List Nat)(k y:Nat):(flc n m Z).set (2+k) (ZX (y:Int))=flc n m (Z.set k y):=by rw[UH];simp[flc,List.map_set,uw]
theorem dL(n m:Int)(Z:List Nat):(flc n m Z).length=Z.length+2:=by simp[flc]
theorem kW(l:List V):bu l 0 []=some l:=by cases l<;>rfl
theorem yS(n m Z:Int)(K:List Nat):bu (flc n m K) 1 [ZZ Z]=some (flc n Z K):=by show bu (ZZ n::ZZ m::K.map uw) (0+1) [ZZ Z]=_;rw[bI,aV,kW];rfl
theorem Fv(n Z m:Int)(K:List Nat):bu (flc n m K) 0 [ZZ Z]=some (flc Z m K):=by show bu (ZZ n::ZZ m::K.map uw) 0 [ZZ Z]=_;rw[aV,kW];rfl
theorem HY(k:IntKind)(j:Nat)(Z:j<64):aP (.sh true) [ZX 1,.int k (j:Int)]=some (ZX ((2^j:Nat):Int)):=by have K:2^j<2^64:=VE oM Z;rw[KG _ _ _ _ oM];simp only[RX,IntKind.bits,TM (oM:j<=64),Int.one_mul];rw[dG _ (VM _) (Int.ofNat_le.2 (Nat.le_of_lt_succ (eV K)))]
theorem BD{h:Heap}{b:Nat}{i:Nat}{v:Bool}(w:WF h)(f:Fl h b bs)(hi:i<bs.length):ao go 212 [.ptr b 0,ZZ (i:Int),.bool v] h fun u h'=>u=.tup []/\Fl h' b (bs.set i v)/\Fr [b] h h'/\h'.next=h.next:=by
 have f0:=f;let⟨ws,o,ok,hn⟩:=f;let⟨x,e1,e2,e3⟩:=ok.w (i/64) oM;have q1:=(Jq i).resolve_right oM;have q2:=Jp i;have q3:=xM 1 b 2 64 .i64 ((i/64:Nat):Int) oM oM;simp only[RX,Uh]at q3;have q4:ab h b (2+i/64)=some (ZX (x:Int)):=by rw[o.ld1,BE,e1];rfl
 have q5:=HY .i64 (i%64) oM;have h2:2^(i%64)<2^64:=VE oM oM;have q6:=qO x (2^(i%64)) _ _ rfl rfl e2 (eV h2);have ng:bs.count true<=bs.length:=List.count_le_length;refine ag ?_;simp only[evs,seval];refine aa (Fk f0 hi) ?_;rintro _ _ ⟨rfl,hh⟩;subst hh;by_cases hv:bs.getD i false=v;simp only[evs,seval,eq_true hv];rw[<-hv,yd];exact⟨f0,Sn w⟩;simp only[evs,seval,eff,eq_false hv,q1,q2,q3,q4,q5,q6];refine ai (c':=flc bs.length (bs.count true) (ws.set (i/64) (x^^^2^(i%64)))) w o rfl rfl ?_ ?_;rw[(iR:V.cells (ZX ((x^^^2^(i%64):Nat):Int))=[ZX ((x^^^2^(i%64):Nat):Int)]),kV _ _ _ (by rw[dL,ok.len];omega),Iy];rintro h1 o1 F1 n1;have cs:=Dh bs i v hi hv;have K:=ok.flip hi hn e1 hv;have ln:((bs.set i v).length:Int)=bs.length:=by simp
 cases v;simp(disch:=omega) only[evs,seval,DF,ah,q4,o1.ld1,flc];apply ai (c':=flc bs.length ((bs.count true:Int)-1) (ws.set (i/64) (x^^^2^(i%64)))) F1.wf o1 rfl rfl (yS _ _ _ _);rintro h2 o2 F2 n2;simp only[evs];simp only[SP,if_false]at cs;refine⟨⟨_,by rw[ln,cs,(oM:(bs.count true:Int)+-1=bs.count true-1)];exact o2,K,by simpa using hn⟩,F1.trans F2 w (fun x Z=>.inl Z) (fun x Z=>.inl Z),n2.trans n1⟩;simp(disch:=omega) only[evs,seval,DF,ah,q4,o1.ld1,flc];apply ai (c':=flc bs.length ((bs.count true:Int)+1) (ws.set (i/64) (x^^^2^(i%64)))) F1.wf o1 rfl rfl (yS _ _ _ _);rintro h2 o2 F2 n2;simp only[evs];simp only[if_true]at cs;refine⟨⟨_,by rw[ln,cs];exact o2,K,by simpa using hn⟩,F1.trans F2 w (fun x Z=>.inl Z) (fun x Z=>.inl Z),n2.trans n1⟩
def qD(n:Nat)(a k:Int):Int:=if a<0\/k<0\/n<a\/n-a<k then 4 else 0
theorem lJ{h:Heap}{b:Nat}{a k:Int}(f:Fl h b bs)(a0:-9223372036854775808<=a)(a1:a<=9223372036854775807):ao go 150 [.ptr b 0,ZZ a,ZZ k] h fun u h'=>u=ZZ (qD bs.length a k)/\h'=h:=by let⟨ws,o,ok,hn⟩:=f;have q:ab h b 0=some (ZZ (bs.length:Int)):=o.ld1 0;unfold qD;by_cases c1:a<0;refine ag ?_;simp only[evs,seval,c1];simp;by_cases c2:k<0;refine ag ?_;simp only[evs,seval,c1,c2];simp;by_cases Z:(bs.length:Int)<a;refine ag ?_;simp only[evs,seval,q,c1,c2,Z];simp;by_cases K:(bs.length:Int)-a<k;refine ag ?_;simp(disch:=omega) only[evs,seval,ah,q,c1,c2,Z,K];simp;refine ag ?_;simp(disch:=omega) only[evs,seval,ah,q,c1,c2,Z,K];simp
theorem BH{h:Heap}{b:Nat}{i:Int}{v:Bool}(w:WF h)(f:Fl h b bs)(a0:-9223372036854775808<=i)(a1:i<=9223372036854775807):ao go 178 [.ptr b 0,ZZ i,.bool v] h fun u h'=>
 (u=ZZ (if 0<=i/\i<bs.length then 0 else 4))/\Fl h' b (if 0<=i/\i<bs.length then bs.set i.toNat v else bs)/\Fr [b] h h'/\h'.next=h.next:=by
 refine ag ?_;simp only[evs,seval];refine aa (lJ f a0 a1) ?_;rintro _ _ ⟨rfl,K⟩;subst K;by_cases c:0<=i/\i<bs.length;have e:qD bs.length i 1=0:=by unfold qD;rw[if_neg oM]
 obtain⟨j,rfl⟩:∃j:Nat,i=j:=⟨i.toNat,oM⟩;rw[e,if_pos c,if_pos c];simp only[evs,seval];apply aa (BD w f oM);rintro _ h1 ⟨rfl,f1,Z,n1⟩;simp only[evs,seval,RX];exact⟨f1,Z,n1⟩;have e:qD bs.length i 1=4:=by unfold qD;rw[if_pos oM]
 rw[e,if_neg c,if_neg c];simp only[evs,seval,(oM:¬(4:Int)=0)];exact⟨f,Sn w⟩
theorem K4(h:Heap):WOK (List.replicate 64 0) []:=⟨iS,fun k hk=>⟨0,by rw[UM,if_pos hk],oM,fun j _=>by simp⟩⟩
theorem IE{h:Heap}(w:WF h):ao go 224 [ZZ 0] h fun u h'=>∃b,u=.tup [.ptr b 0,ZZ 0]/\h.next<=b/\Fl h' b []/\Fr [] h h':=by refine ag ?_;simp only[evs,seval,(oM:¬(0:Int)<0),(oM:¬(4096:Int)<0)];exact⟨_,rfl,RW _,⟨List.replicate 64 0,Ts w _,K4 h,iS⟩,SO w _⟩
theorem Sl.frb{h:Heap}{esz:Nat}{v:V}{n:Nat}{cs:List V}{b:Nat}{c c':List V}(a:Sl h esz v n cs)(f:Fr [b] h h')(o:Own h b c)(o':Own h' b c')(hl:c'.length=c.length)(hd:cs≠[]->∃x∈cs,x∉c):Sl h' esz v n cs:=by
 let⟨e1,e2⟩:=a;have K:∀(bb Z:Nat),(∃d,Own h bb d/\Z+n*esz<=d.length/\cs=(d.drop Z).take (n*esz))->∃d,Own h' bb d/\Z+n*esz<=d.length/\cs=(d.drop Z).take (n*esz):=by rintro bb Z ⟨d,od,h1,h2⟩;by_cases e:bb=b;subst e;have:=od.uniq o;subst this;by_cases hL:cs=[];grind;grind;exact⟨d,f.own _ _ (eV e) od,h1,h2⟩
 refine⟨e1,?_⟩;cases v with
 |slice bb Z len cap=>let⟨x1,x2,x3⟩:=e2;exact⟨x1,x2,K bb Z x3⟩
 |sliceU bb Z len cap=>let⟨x1,x2,x3⟩:=e2;exact⟨x1,x2,K bb Z x3⟩
 |_=>exact e2
theorem Bools.frb{h:Heap}{v:V}{b:Nat}{n m n' m':Int}{ws Z:List Nat}(a:Bools h v bs)(f:Fr [b] h h')(o:Own h b (flc n m ws))(o':Own h' b (flc n' m' Z))(hl:Z.length=ws.length):Bools h' v bs:=by
 refine Sl.frb a f o o' (by simp[dL,hl]) fun K=>?_;cases bs with
 |nil=>simp at K
 |cons x bs=>exact⟨.bool x,iS,by simp[flc,uw]⟩
theorem HL(bs:List Bool)(i:Nat)(x:Bool)(h:bs[i]? =some x):((bs.take i).map V.bool++List.replicate (bs.length-i) (V.bool false)).set i (V.bool x)=(bs.take (i+1)).map V.bool++List.replicate (bs.length-(i+1)) (V.bool false):=by
 have K:i<bs.length:=by grind
 have Z:((bs.take i).map V.bool).length=i:=by simp;omega
 rw[Vr,if_neg oM,Z,TN,(oM:bs.length-i=(bs.length-(i+1))+1),Ud,UQ,Sr,h];simp
theorem sI{h:Heap}{b:Nat}(w:WF h)(f:Fl h b bs):ao go 151 [.ptr b 0] h fun u h'=>Bools h' u bs/\(∃c,u=.slice c 0 bs.length bs.length/\h.next<=c)/\Fr [] h h':=by
 have f0:=f;let⟨ws,o,ok,hn⟩:=f;have q:ab h b 0=some (ZZ (bs.length:Int)):=o.ld1 0;refine ag ?_;simp only[evs,seval,q];refine(de _ _ _ _ _ _ _ _ oM oM oM oM).2 ?_;simp only[RX];rw[rL];obtain⟨h1,Z⟩:∃h1,h1=halloc h (List.replicate bs.length (.bool false)):=⟨_,rfl⟩;have af:Fr [] h h1:=Z▸SO w _;have ae:Own h1 h.next (List.replicate bs.length (.bool false)):=Z▸Ts w _;simp only[evs,seval,<-Z];refine aC (fun k env hh=>∃i:Nat,env.get 12=some (ZZ i)/\env.get 11=some (ZZ bs.length)/\env.get 3=some (.slice h.next 0 bs.length bs.length)/\env.get 0=some (.ptr b 0)/\i<=bs.length/\Fr [] h hh/\
  Own hh h.next ((bs.take i).map V.bool++List.replicate (bs.length-i) (.bool false))/\k=bs.length-i) bs.length oM ?_ ?_
 ·exact⟨0,iS,iS,iS,iS,oM,af,by simpa using ae,rfl⟩
 ·rintro k env hh ⟨i,K,ak,g3,g0,hi,F,oo,rfl⟩;by_cases ac:(i:Int)<bs.length
  ·have ei:bs[i]? =some (bs.getD i false):=by simp[List.getD,(oM:i<bs.length)]
   simp only[evs,seval,K,ak,g0,ac];apply aa (Fk (f0.fr F) oM);rintro _ _ ⟨rfl,an⟩;subst an;have ix:=gw 1 h.next 0 bs.length bs.length .i64 i oM ac;simp only[RX,Uh,Tj]at ix;simp only[evs,seval,g3,ix];refine ai (c':=(bs.take (i+1)).map V.bool++List.replicate (bs.length-(i+1)) (.bool false)) F.wf oo rfl rfl ?_ ?_
   ·show bu _ i [.bool (bs.getD i false)]=_;rw[kV _ _ _ oO,HL bs i _ ei]
   rintro h2 o2 F2 n2;simp(disch:=omega) only[evs,seval,ah,K];refine rqn ⟨bs.length-(i+1),oM,i+1,iS,iX,iX,iX,oM,F.fresh F2 w (RW _),o2,rfl⟩
   done
  ·simp only[evs,seval,K,ak,g3,ac];have:i=bs.length:=oM
   subst this;simp only[TZ,TN,Vj,Tq]at oo;exact⟨TH oo iS,⟨_,rfl,RW _⟩,F⟩
theorem Be(B:List Bool)(k:Nat)(x:Bool)(h:B[k]? =some x):(B.take k++List.replicate (B.length-k) false).set k x=B.take (k+1)++List.replicate (B.length-(k+1)) false:=by
 have K:k<B.length:=by grind
 have Z:(B.take k).length=k:=by simp;omega
 rw[Vr,if_neg oM,Z,TN,(oM:B.length-k=(B.length-(k+1))+1),Ud,UQ,Sr,h];simp
theorem Fl.falses{h:Heap}{b N:Nat}(o:Own h b (flc N 0 (List.replicate 64 0)))(Z:N<=4096):Fl h b (List.replicate N false):=by refine⟨List.replicate 64 0,by simpa[List.count_replicate]using o,⟨iS,fun k K=>⟨0,by rw[UM,if_pos K],oM,fun j _=>?_⟩⟩,by simpa using Z⟩;simp only[Nat.zero_testBit,Tf,UM];split<;>rfl
theorem Bools.noint{h:Heap}{v:V}(a:Bools h v bs):∀k n,v≠.int k n:=by rintro k n rfl;exact a.2
theorem pV{h:Heap}{b:Nat}{bm:List Bool}{vl:V}{Ls:List (V×List Bool)}(w:WF h)(f:Fl h b bm)(a:Vals Prod.fst h vl Ls)(al:∀p∈Ls,Bools h p.1 p.2)(hN:(Ls.flatMap Prod.snd).length<=4096)(hl:Ls.length<=100):
 ao go 152 [.ptr b 0,vl] h fun u h'=>u=.tup []/\Fl h' b (Ls.flatMap Prod.snd)/\Fr [b] h h':=by
 let⟨ws,o,ok,hn⟩:=f;obtain⟨B,hB⟩:∃B,B=Ls.flatMap Prod.snd:=⟨_,rfl⟩;rw[<-hB]at hN|-;have an:∀{Z:Heap}{n' m':Int}{az:List Nat},Fr [b] h Z->Own Z b (flc n' m' az)->az.length=64->Vals Prod.fst Z vl Ls/\∀p∈Ls,Bools Z p.1 p.2:=by
  intro Z n' m' az F o' a9;refine⟨Sl.frb a F o o' (by rw[dL,dL,a9,ok.len]) fun bg=>?_,fun p hp=>Bools.frb (al p hp) F o o' (by rw[a9,ok.len])⟩;cases Ls with
  |nil=>simp at bg
  |cons p Ls=>
   refine⟨p.1,iS,?_⟩;have:=(al p iS).noint;simp only[flc,Sk,SX,not_or,not_exists,not_and];exact⟨this _ _,this _ _,fun x _ hx=>this _ _ hx.symm⟩
 have af:∀{Z:Heap}{bs:List Bool},Fr [b] h Z->Fl Z b bs->Vals Prod.fst Z vl Ls/\∀p∈Ls,Bools Z p.1 p.2:=fun F ⟨_,o',ok',_⟩=>an F o' ok'.len;refine ag ?_;simp only[evs,seval];refine ai (c':=flc 0 0 (List.replicate 64 0)) w o rfl rfl ?_ ?_
 ·rw[bQ _ _ _ (by rw[dL,ok.len];simp[V.cells])];simp only[Vy,TO,V.cells];rw[So (by rw[dL,ok.len];simp)];rfl
 rintro h1 o1 F1 n1;let⟨a1,al1⟩:=an F1 o1 iS;simp only[evs,seval,a1.len];refine aC (fun k env Z=>∃i:Nat,env.get 16=some (ZZ i)/\env.get 15=some (ZZ Ls.length)/\env.get 14=some vl/\env.get 0=some (.ptr b 0)/\env.get 1=some vl/\i<=Ls.length/\Fr [b] h Z/\
  Own Z b (flc ((Ls.take i).flatMap Prod.snd).length 0 (List.replicate 64 0))/\k=Ls.length-i) Ls.length oM ?_ ?_
 ·exact⟨0,iS,iS,iS,iS,iS,oM,F1,by simpa using o1,rfl⟩
 rintro k env Z ⟨i,ay,a8,bi,g0,g1,hi,F,oo,rfl⟩;let⟨a2,al2⟩:=an F oo iS;by_cases ae:(i:Int)<Ls.length
 ·let⟨bb,po,p,e1,e2,e3⟩:=a2.ix .i64 i oM ae;simp only[RX]at e3;have lp:=al2 p (RZ e3);have tk:(Ls.take (i+1)).flatMap Prod.snd=(Ls.take i).flatMap Prod.snd++p.2:=by rw[Sr,e3];simp
  have bc:((Ls.take (i+1)).flatMap Prod.snd).length<=B.length:=by
   rw[hB];conv=>rhs;rw[<-SB (i+1) Ls]
   rw[Tz,Sv];omega
  rw[tk,Sv]at bc;simp(disch:=omega) only[evs,seval,ah,ay,a8,bi,g0,ae,e1,e2,oo.ld1,flc,lp.len];refine ai (c':=flc ((Ls.take (i+1)).flatMap Prod.snd).length 0 (List.replicate 64 0)) F.wf oo rfl rfl ?_ ?_
  ·rw[tk,Sv,Int.natCast_add];exact Fv _ _ _ _
  rintro h2 o2 F2 n2;simp(disch:=omega) only[evs,seval,ah,ay];refine rqn ⟨Ls.length-(i+1),oM,i+1,iS,iX,iX,iX,iX,oM,F.trans F2 w (fun x hx=>.inl hx) (fun x hx=>.inl hx),o2,rfl⟩
  done
 ·have:i=Ls.length:=oM
  subst this;rw[TZ,<-hB]at oo;have bj:=Fl.falses oo hN;simp only[evs,seval,ay,a8,g1,ae,a2.len];refine aC (fun k env Z=>∃j:Nat,env.get 32=some (ZZ j)/\env.get 31=some (ZZ Ls.length)/\env.get 30=some vl/\env.get 0=some (.ptr b 0)/\
   env.get 6=some (ZZ ((Ls.take j).flatMap Prod.snd).length)/\j<=Ls.length/\Fr [b] h Z/\Fl Z b (B.take ((Ls.take j).flatMap Prod.snd).length++List.replicate (B.length-((Ls.take j).flatMap Prod.snd).length) false)/\k=Ls.length-j) Ls.length oM ?_ ?_
  ·exact⟨0,iS,iS,iS,iX,iS,oM,F,by simpa using bj,rfl⟩
  rintro k env Z ⟨j,ar,ax,aH,g0,g6,hj,F,fj,rfl⟩;let⟨a3,al3⟩:=af F fj;by_cases ae:(j:Int)<Ls.length
  ·let⟨bb,po,p,e1,e2,e3⟩:=a3.ix .i64 j oM ae;simp only[RX]at e3;have lp:=al3 p (RZ e3);obtain⟨K,hK⟩:∃K,K=((Ls.take j).flatMap Prod.snd).length:=⟨_,rfl⟩;rw[<-hK]at g6 fj;have tk:((Ls.take (j+1)).flatMap Prod.snd).length=K+p.2.length:=by rw[Sr,e3,hK];simp
   have eB:B=(Ls.take j).flatMap Prod.snd++(p.2++(Ls.drop (j+1)).flatMap Prod.snd):=by
    rw[hB];conv=>lhs;rw[<-SB j Ls,aK e3]
    rw[Tz,SL]
   have lB:K+p.2.length<=B.length:=by grind
   have nB:∀q,q<p.2.length->B[K+q]? =p.2[q]? :=fun q hq=>by grind
   simp only[evs,seval,ar,ax,aH,ae,e1,e2,lp.len];refine aC (fun k ac Z=>(∀s,s=32\/s=31\/s=30\/s=0->ac.get s=env.get s)/\∃q:Nat,ac.get 38=some (ZZ q)/\ac.get 37=some (ZZ p.2.length)/\ac.get 36=some p.1/\ac.get 6=some (ZZ ((K+q:Nat):Int))/\q<=p.2.length/\Fr [b] h Z/\
    Fl Z b (B.take (K+q)++List.replicate (B.length-(K+q)) false)/\k=p.2.length-q) p.2.length oM ?_ ?_
   ·exact⟨fun s hs=>by obtain rfl|rfl|rfl|rfl:=hs<;>simp,0,iS,iS,iS,iX,oM,F,by simpa using fj,rfl⟩
   rintro k bn Z ⟨same,q,a0,a7,ba,a6,hq,F,fq,rfl⟩;have a5:=(same 32 iS).trans ar;have bk:=(same 31 iS).trans ax;have bh:=(same 30 iS).trans aH;have n0:=(same 0 iS).trans g0;let⟨a4,al4⟩:=af F fq;have bf:=al4 p (RZ e3);by_cases ak:(q:Int)<p.2.length
   ·let⟨b5,p5,x,d1,d2,d3⟩:=bf.ix .i64 q oM ak;simp only[RX]at d3;simp only[evs,seval,n0,a0,a7,ba,a6,ak,d1,d2];apply aa (BD F.wf fq oO);rintro _ h5 ⟨rfl,f5,F5,n5⟩;rw[Be B (K+q) x ((nB q oM).trans d3)]at f5;simp(disch:=omega) only[evs,seval,ah,a0,a6];refine rqn ⟨p.2.length-(q+1),oM,fun s hs=>by obtain rfl|rfl|rfl|rfl:=hs<;>simp[a5,bk,bh,n0,ar,ax,aH,g0],q+1,iS,iX,iX,oO,oM,F.trans F5 w (fun x hx=>.inl hx) (fun x hx=>.inl hx),f5,rfl⟩
    done
   ·have:q=p.2.length:=oM
    subst this;simp(disch:=omega) only[evs,seval,ah,a5,a0,a7,ak];refine rqn ⟨Ls.length-(j+1),oM,j+1,iS,iX,iX,iX,iX,oM,F,by rw[tk];exact fq,rfl⟩
    done
  ·have:j=Ls.length:=oM
   subst this;rw[TZ,<-hB]at fj;simp only[TZ,TN,Vj,Tq]at fj;simp only[evs,seval,ar,ax,ae];exact⟨fj,F⟩
theorem Ej(n i:Nat)(v:Bool)(K:i<n):((List.replicate i v).map V.bool++List.replicate (n-i) (V.bool false)).set i (V.bool v)=(List.replicate (i+1) v).map V.bool++List.replicate (n-(i+1)) (V.bool false):=by
 have Z:((List.replicate i v).map V.bool).length=i:=by simp
 rw[Vr,if_neg oM,Z,TN,(oM:n-i=(n-(i+1))+1),Ud,UQ,List.replicate_succ'];simp
theorem Vals.one{α:Type}{f:α->V}{h:Heap}{v:V}{l:List α}(a:Vals f h v l):v.one=true:=TI a
theorem IG{h:Heap}{b:Nat}{a n:Nat}{v:Bool}(w:WF h)(f:Fl h b bs)(ha:a<=bs.length)(hn:n+bs.length<=4096):
 ao go 225 [.ptr b 0,ZZ (a:Int),ZZ (n:Int),.bool v] h fun u h'=>u=ZZ 0/\Fl h' b (bs.take a++List.replicate n v++bs.drop a)/\Fr [b] h h':=by
 have f0:=f;let⟨ws,o,ok,hn0⟩:=f;have q:ab h b 0=some (ZZ (bs.length:Int)):=o.ld1 0;refine ag ?_;simp only[evs,seval];refine aa (lJ f0 oM oM) ?_;rintro _ _ ⟨rfl,K⟩;replace K:=K.symm;subst K;have e:qD bs.length a 0=0:=by unfold qD;rw[if_neg oM]
 rw[e];simp(disch:=omega) only[evs,seval,ah,(oM:¬(n:Int)<0),q,(oM:¬4096-(bs.length:Int)<n)];refine(de _ _ _ _ _ _ _ _ oM oM oM oM).2 ?_;simp only[RX];rw[rL];obtain⟨h0,e0⟩:∃h0,h0=h:=⟨h,rfl⟩;subst e0;obtain⟨h1,Z⟩:∃h1,h1=halloc h0 (List.replicate n (V.bool false)):=⟨_,rfl⟩;have ak:Fr [] h0 h1:=Z▸SO w _;have af:Own h1 h0.next (List.replicate n (V.bool false)):=Z▸Ts w _;rw[<-Z];simp only[evs,seval];refine aC (fun k env K=>∃i:Nat,env.get 34=some (ZZ i)/\env.get 33=some (ZZ n)/\env.get 10=some (.slice h0.next 0 n n)/\env.get 0=some (.ptr b 0)/\env.get 1=some (ZZ a)/\env.get 3=some (.bool v)/\i<=n/\Fr [] h0 K/\
  Own K h0.next ((List.replicate i v).map V.bool++List.replicate (n-i) (V.bool false))/\k=n-i) n oM ?_ ?_
 ·exact⟨0,iS,iS,iS,iS,iS,iS,oM,ak,by simpa using af,rfl⟩
 ·rintro k env K ⟨i,ae,ax,ar,g0,g1,g3,hi,F,oo,rfl⟩;by_cases ac:(i:Int)<n
  ·have ix:=gw 1 h0.next 0 n n .i64 i oM ac;simp only[RX,Uh,Tj]at ix;simp only[evs,seval,ae,ax,ar,g3,ac,ix];refine ai (c':=(List.replicate (i+1) v).map V.bool++List.replicate (n-(i+1)) (V.bool false)) F.wf oo rfl rfl ?_ ?_
   ·show bu _ i [.bool v]=_;rw[kV _ _ _ oO,Ej _ _ _ oM]
   rintro h2 o2 F2 n2;simp(disch:=omega) only[evs,seval,ah,ae];refine rqn ⟨n-(i+1),oM,i+1,iS,iX,iX,iX,iX,iX,oM,F.fresh F2 w (RW _),o2,rfl⟩
   done
  ·have:i=n:=oM
   subst this;simp only[TN,Vj,Tq]at oo;have bm:Bools K (.slice h0.next 0 i i) (List.replicate i v):=by
    have:=TH (esz:=1) (n:=i) oo iS;show Sl K 1 _ _ _;simpa using this
   simp only[evs,seval,ae,ax,g0,ac];apply aa (sI F.wf (f0.fr F));rintro _ h2 ⟨bl,⟨c,rfl,ay⟩,F2⟩;let⟨v1,s1,b1⟩:=bl.upto iS .i64 a oM oM;let⟨v3,s3,b3⟩:=bl.from' iS .i64 a oM oM;simp only[RX]at b1 b3;have c1:=aw (Vals.one b1);have c3:=aw (Vals.one b3);let⟨h3,e_h3,F_h3,o_h3⟩:=aq F2.wf [v1,.slice h0.next 0 i i,v3];have e3:halloc h2 [v1,.slice h0.next 0 i i,v3]=h3:=e_h3.symm;simp only[evs,seval,eff,ar,g0,g1,s1,s3,c1,c3,e3];have an:=(F.then F2).then F_h3;refine aa (pV (Ls:=[(v1,bs.take a),(.slice h0.next 0 i i,List.replicate i v),(v3,bs.drop a)]) F_h3.wf (f0.fr an) (TH (n:=3) o_h3 rfl) ?_ ?_ iS) ?_
   ·intro p hp;simp only[Sk,SH,or_false]at hp;obtain rfl|rfl|rfl:=hp
    ·exact b1.fr F_h3
    ·exact bm.fr (F2.then F_h3)
    ·exact b3.fr F_h3
   ·simp;omega
   rintro _ h4 ⟨rfl,f4,F4⟩;simp only[evs,seval,DF];refine⟨by simpa[SL]using f4,an.trans F4 w iS (fun x hx=>.inl hx)⟩
def Glb(h:Heap):Prop:=Pl h 0 Ma
theorem Ki(n:Nat):bX .u64 (n:Int)=((n%18446744073709551616:Nat):Int):=by rw[dW];simp only[IntKind.wrap,IntKind.bits,IntKind.signed];simp
theorem Lc(x y:Nat)(b:Int)(Z:b=y):aP (.ib .mul) [ZX (x:Int),ZX b]=some (ZX ((x*y%18446744073709551616:Nat):Int)):=by subst Z;rw[AW,<-Int.natCast_mul,Ki]
theorem GP(l:List V)(k:IntKind)(n i:Nat)(Z:i<n):aP (.ixarr n 1 false) [.agg l,.int k (i:Int)]=nth l i:=by
 have:kP (.int k (i:Int)) n=some i:=by show(bif Nat.blt i n then some i else none)=_;rw[(SI ..).mpr Z];rfl
 simp only[aP,this,SZ,cond_false,Uh]
def Sel(bs:List Bool)(k p:Nat):Prop:=p<bs.length/\bs.getD p false=true/\(bs.take p).count true=k
def Mk(h:Heap)(pm:Option Nat)(bs:List Bool):Prop:=match pm with
 |none=>bs=[]
 |some c=>Fl h c bs
theorem Mk.fr{h:Heap}(a:Mk h pm bs)(f:Fr [] h h'):Mk h' pm bs:=by
 cases pm with
 |none=>exact a
 |some c=>exact Fl.fr a f
def Lo(h:Heap)(b:Nat)(l:List Int)(ks bs:List Bool):Prop:=∃p vk pm,Own h b [pv p,vk,pv pm]/\vk.one=true/\Ix h (.agg [pv p,vk]) l ks/\Mk h pm bs/\bs.length=l.length
theorem Lo.fr{h:Heap}{b:Nat}{l:List Int}(a:Lo h b l ks bs)(f:Fr [] h h'):Lo h' b l ks bs:=by let⟨p,vk,pm,o,v1,ix,mk,e⟩:=a;exact⟨p,vk,pm,f.get o,v1,ix.fr f,mk.fr f,e⟩
theorem Glb.fr{h:Heap}(a:Glb h)(f:Fr [] h h'):Glb h':=f.pl _ _ iS a
theorem Cm{h:Heap}{b:Nat}{l:List Int}(w:WF h)(a:Lo h b l ks bs):ao go 62 [.ptr b 0] h fun u h'=>u=ZZ l.length/\Fr [] h h':=by let⟨p,vk,pm,o,v1,ix,mk,e⟩:=a;refine ag ?_;simp only[evs,seval,o.ld];refine aa (jJ w ix) ?_;rintro _ K ⟨rfl,Z⟩;simp only[evs,seval];exact Z
theorem Ix.rp{h:Heap}{p:Option Nat}{l:List Int}(a:Ix h (.agg [pv p,vk]) l ks):Rp h (.agg [pv p]) l:=by let⟨p',vk',L,e,r,_⟩:=a;simp only[V.agg.injEq,Sw,and_true]at e;rw[e.1];exact r
theorem DK{h:Heap}{b:Nat}{l:List Int}(w:WF h)(a:Lo h b l ks bs):ao go 14 [.ptr b 0] h fun u h'=>u=ZZ l.sum/\Fr [] h h':=by let⟨p,vk,pm,o,v1,ix,mk,e⟩:=a;have r:=ix.rp;refine ag ?_;simp only[evs,seval,o.ld];refine aa (oY w r) ?_;rintro _ K ⟨rfl,Z⟩;simp only[evs,seval];exact Z
theorem zV{h:Heap}{b:Nat}{l:List Int}{i:Int}(w:WF h)(a:Lo h b l ks bs):
 ao go 76 [.ptr b 0,ZZ i] h fun u h'=>(u=if 0<=i/\i<l.length then .tup [ZZ (l.getD i.toNat 0),ZZ 0]else .tup [ZZ 0,ZZ 4])/\Fr [] h h':=by
 let⟨p,vk,pm,o,v1,ix,mk,e⟩:=a;refine ag ?_;simp only[evs,seval,o.ld];refine aa (Hb w ix) ?_;rintro _ K ⟨rfl,Z⟩;by_cases c:0<=i/\i<l.length;simp only[if_pos c];simp only[evs,seval];exact Z;simp only[if_neg c];simp only[evs,seval];exact Z
theorem DM{h:Heap}{b:Nat}{l:List Int}{i:Int}(w:WF h)(a:Lo h b l ks bs):
 ao go 77 [.ptr b 0,ZZ i] h fun u h'=>(u=if 0<=i/\i<l.length then .tup [.bool (ks.getD i.toNat false),ZZ 0]else .tup [.bool false,ZZ 4])/\Fr [] h h':=by
 let⟨p,vk,pm,o,v1,ix,mk,e⟩:=a;refine ag ?_;simp only[evs,seval,o.ld];refine aa (Dy w ix) ?_;rintro _ K ⟨rfl,Z⟩;by_cases c:0<=i/\i<l.length;simp only[if_pos c];simp only[evs,seval];exact Z;simp only[if_neg c];simp only[evs,seval];exact Z
def okF(view over:Int):Prop:=1<=view/\view<=2147483648/\0<=over/\over<=16
instance(view over:Int):Decidable (okF view over):=by unfold okF;infer_instance
def HeadS(l:List Int)(bs:List Bool)(s r e:Int):Prop:=
 if l=[]/\s=0 then r=0/\e=11 else if 0<=s/\s<l.sum then if(bs.take ((wQ l s).1+1)).count true=0 then r=0/\e=11 else e=0/\∃p:Nat,r=p/\Sel bs ((bs.take ((wQ l s).1+1)).count true-1) p else r=0/\e=4
theorem HeadS.zero{l:List Int}{s r e:Int}(a:HeadS l bs s r e)(h:e=0):0<=s/\s<l.sum/\∃p:Nat,r=p/\p<bs.length:=by unfold HeadS at a;split at a;omega;split at a;rename_i c;split at a;omega;let⟨_,p,e1,e2⟩:=a;exact⟨c.1,c.2,p,e1,e2.1⟩;omega
structure FrF(b:Nat)(h h':Heap):Prop where
 next:h.next<=h'.next
 wf:WF h'
 own:∀x c,x≠b->(∀n m ws,ws.length=64->c≠flc n m ws)->Own h x c->Own h' x c
 pl:∀x c,x≠b->(∀n m ws,ws.length=64->c≠flc n m ws)->Pl h x c->Pl h' x c
 ro:∀x c,Rs h x c->Rs h' x c
theorem FrF.trans{b:Nat}{h h1 h2:Heap}(a:FrF b h h1)(c:FrF b h1 h2):FrF b h h2:=
 ⟨SD a.next c.next,c.wf,fun x d hx hd o=>c.own x d hx hd (a.own x d hx hd o),fun x d hx hd o=>c.pl x d hx hd (a.pl x d hx hd o),fun x d r=>c.ro x d (a.ro x d r)⟩
theorem Jf{h:Heap}(w:WF h):ao go 43 [] h fun u h'=>∃b,u=.ptr b 0/\h.next<=b/\Lo h' b [] [] []/\Own h' b [.nilp,.nils,.nilp]/\Fr [] h h':=by refine ag ?_;simp only[evs,seval];refine⟨_,rfl,RW _,⟨none,.nils,none,Ts w _,rfl,⟨none,.nils,[],rfl,⟨.nil,none,rfl,rfl,rfl,iS,iS,iS⟩,.inl ⟨rfl,rfl⟩,⟨trivial,iS,fun i=>by simp[inS]⟩,rfl,iS⟩,rfl,rfl⟩,Ts w _,SO w _⟩
theorem Ix.frb{h:Heap}{v:V}{l:List Int}{b:Nat}{c:List V}(a:Ix h v l ks)(f:Fr [b] h h')(o:Own h b c)(K:c.length≠6)(Z:∀L:List (Int×Int),0<L.length->c≠L.flatMap sp):Ix h' v l ks:=by let⟨p,vk,L,e,r,s,x⟩:=a;exact⟨p,vk,L,e,r.frb f o K,s.frb f o Z,x⟩
theorem Ix.frf{h:Heap}{v:V}{l:List Int}{b:Nat}(a:Ix h v l ks)(f:Fr [b] h h')(fl:Fl h b bs):Ix h' v l ks:=by
 let⟨K,o,ok,_⟩:=fl;refine a.frb f o (by rw[dL,ok.len];omega) fun L p e=>?_;have hm:∀x∈flc (bs.length:Int) (bs.count true:Int) K,∃n,x=ZZ n:=by rw[e];intro x Z;simp only[List.mem_flatMap,sp]at Z;let⟨s,_,Z⟩:=Z;simp at Z;obtain rfl|rfl:=Z<;>exact⟨_,rfl⟩
 cases K with
 |nil=>have:=ok.len;simp at this
 |cons y K=>let⟨n,hn⟩:=hm (uw y) (by simp[flc]);simp[uw]at hn
theorem uO{p:Option Nat}(Z:∀k n,vk≠.int k n):∀x∈[pv p,vk,pv pm],∀k n,x≠.int k n:=by
 intro x K k n;simp only[Sk,SH,or_false]at K;obtain rfl|rfl|rfl:=K;cases p<;>simp[pv]
 exact Z k n;cases pm<;>simp[pv]
theorem Ix.noint{h:Heap}{p:Option Nat}{l:List Int}(a:Ix h (.agg [pv p,vk]) l ks):∀k n,vk≠.int k n:=by let⟨p',vk',L,e,r,s,_⟩:=a;simp only[V.agg.injEq,Sw,and_true]at e;obtain⟨_,rfl⟩:=e;exact s.noint
theorem Ix.form{h:Heap}{c d:V}{l:List Int}(a:Ix h (.agg [c,d]) l ks):∃p,c=pv p:=by let⟨p',vk',L,e,_⟩:=a;simp only[V.agg.injEq,Sw,and_true]at e;exact⟨p',e.1⟩
theorem Mk.frb{h:Heap}{b:Nat}{c:List V}(a:Mk h pm bs)(f:Fr [b] h h')(o:Own h b c)(Z:c.length=3):Mk h' pm bs:=by
 cases pm with
 |none=>exact a
 |some q=>let⟨ws,oq,ok,hn⟩:=a;refine⟨ws,f.own _ _ ?_ oq,ok,hn⟩;simp only[Su];rintro rfl;have:=oq.uniq o;subst this;rw[dL,ok.len]at Z;omega
theorem Bools.frl{h:Heap}{v:V}{b:Nat}{c c':List V}(a:Bools h v bs)(f:Fr [b] h h')(o:Own h b c)(K:Own h' b c')(hc:∀x,V.bool x∉c)(hl:c'.length=c.length):Bools h' v bs:=by
 refine Sl.frb a f o K hl fun Z=>?_;cases bs with
 |nil=>simp at Z
 |cons x bs=>exact⟨.bool x,iS,hc x⟩
theorem nobool{p:Option Nat}(h:∀x,vk≠V.bool x):∀x,V.bool x∉[pv p,vk,pv pm]:=by
 intro x Z;simp only[Sk,SH,or_false]at Z;obtain e|e|e:=Z;cases p<;>simp[pv]at e
 exact h x e.symm;cases pm<;>simp[pv]at e
theorem SpF.nobool{h:Heap}{v:V}{L:List (Int×Int)}(a:SpF h v L):∀x,v≠V.bool x:=by obtain⟨rfl,_⟩|⟨b,rfl,_⟩:=a<;>simp
theorem Ix.nobool{h:Heap}{p:Option Nat}{l:List Int}(a:Ix h (.agg [pv p,vk]) l ks):∀x,vk≠V.bool x:=by let⟨p',vk',L,e,r,s,_⟩:=a;simp only[V.agg.injEq,Sw,and_true]at e;obtain⟨_,rfl⟩:=e;exact s.nobool
theorem Ir{st:List Bool}{i j:Nat}(hi:i<=bs.length)(x:Bool)(Z:st[j]? =some x):
 (bs.take i++(st.take j++List.replicate (st.length-j) false)++bs.drop i).set (i+j) x=bs.take i++(st.take (j+1)++List.replicate (st.length-(j+1)) false)++bs.drop i:=by
 have hj:j<st.length:=by grind
 have K:(bs.take i).length=i:=by simp;omega
 rw[SM,Vr,if_neg oM,K,UK,Vr,if_pos oO,Be st j x Z,SM,SM,SM]
theorem C4{st:List Bool}{i j:Nat}(Z:st[j]? =some false):bs.take i++(st.take j++List.replicate (st.length-j) false)++bs.drop i=bs.take i++(st.take (j+1)++List.replicate (st.length-(j+1)) false)++bs.drop i:=by
 have K:j<st.length:=by grind
 rw[Sr,Z,(oM:st.length-j=(st.length-(j+1))+1),Ud];simp
end Go.Ev.Lay
namespace Go.Ev.St
abbrev aX:=Nat×Nat×Nat
def pth(a n j:Nat):Nat:=(a+j)%n
theorem Ah{a n j:Nat}(h:0<n):pth a n j<n:=TY _ h
theorem Ew(a n j:Nat):(pth a n j+1)%n=pth a n (j+1):=by unfold pth;rw[Nat.mod_add_mod,TC]
theorem Eu(a n:Nat):pth a n 0=a%n:=by simp[pth]
theorem Ey{a n i:Nat}(h:i<n):∃j,j<n/\pth a n j=i:=by refine⟨(i+(n-a%n))%n,TY _ (by omega),?_⟩;unfold pth;have Z:a%n<n:=TY _ (by omega);rw[Nat.add_mod_mod,<-Nat.mod_add_mod,show a%n+(i+(n-a%n))=i+n by omega,Nat.add_mod_right,UN h]
structure Opn(mx:Nat->Nat)(sl:List aX):Prop where
 st:∀s∈sl,s.1=0\/s.1=1\/s.1=2
 uniq:∀i j k v w:Nat,sl[i]? =some (1,k,v)->sl[j]? =some (1,k,w)->i=j
 path:∀i k v:Nat,sl[i]? =some (1,k,v)->∃j,j<sl.length/\pth (mx k) sl.length j=i/\∀j',j'<j->∀s,sl[pth (mx k) sl.length j']? =some s->s.1≠0
 room:∃(i:Nat)(s:aX),sl[i]? =some s/\s.1=0
structure Looked(mx:Nat->Nat)(sl:List aX)(k at':Nat)(found:Bool):Prop where
 lt:at'<sl.length
 yes:found=true->∃v,sl[at']? =some (1,k,v)
 no:found=false->(∀i v:Nat,sl[i]? ≠some (1,k,v))/\(∃s:aX,sl[at']? =some s/\s.1≠1)/\∃j,j<sl.length/\pth (mx k) sl.length j=at'/\∀j',j'<j->∀s,sl[pth (mx k) sl.length j']? =some s->s.1≠0
structure Seek(mx:Nat->Nat)(sl:List aX)(k j:Nat)(g:Option Nat):Prop where
 jl:j<sl.length
 seen:∀j',j'<j->∀s,sl[pth (mx k) sl.length j']? =some s->s.1≠0/\¬(s.1=1/\s.2.1=k)
 grave:∀x,g=some x->x<sl.length/\∃j0,j0<j/\pth (mx k) sl.length j0=x/\∃s,sl[x]? =some s/\s.1=2
variable {mx : Nat -> Nat} {sl : List aX} {k j : Nat} {g : Option Nat}
theorem Opn.pos(o:Opn mx sl):0<sl.length:=by let⟨i,s,h,_⟩:=o.room;have:=(Ss.1 h).1;omega
theorem Seek.start(o:Opn mx sl)(k:Nat):Seek mx sl k 0 none:=⟨o.pos,fun _ h=>by omega,fun _ h=>by cases h⟩
theorem Seek.found(q:Seek mx sl k j g){v:Nat}(h:sl[pth (mx k) sl.length j]? =some (1,k,v)):Looked mx sl k (pth (mx k) sl.length j) true:=
 ⟨Ah (by have:=q.jl;omega),fun _=>⟨v,h⟩,fun e=>by cases e⟩
theorem Seek.absent(o:Opn mx sl)(q:Seek mx sl k j g){s:aX}(h:sl[pth (mx k) sl.length j]? =some s)(h0:s.1=0)(i v:Nat):sl[i]? ≠some (1,k,v):=by intro Z;let⟨j1,l1,e1,p1⟩:=o.path i k v Z;obtain c|c|c:=Vv j1 j;have:=(q.seen j1 c (1,k,v) (by rw[e1];exact Z)).2;exact this ⟨rfl,rfl⟩;grind;exact p1 j c s h h0
theorem Seek.free(o:Opn mx sl)(q:Seek mx sl k j g){s:aX}(h:sl[pth (mx k) sl.length j]? =some s)(h0:s.1=0):Looked mx sl k (g.getD (pth (mx k) sl.length j)) false:=by
 cases g with
 |none=>exact⟨Ah o.pos,fun e=>(by cases e),fun _=>⟨q.absent o h h0,⟨s,h,by omega⟩,j,q.jl,rfl,fun j' hj s hs=>(q.seen j' hj s hs).1⟩⟩
 |some x=>let⟨l1,j0,l2,e,s',h1,h2⟩:=q.grave x rfl;have:=q.jl;exact⟨l1,fun e=>(by cases e),fun _=>⟨q.absent o h h0,⟨s',h1,by omega⟩,j0,by omega,e,fun j' hj s hs=>(q.seen j' (by omega) s hs).1⟩⟩
theorem Seek.next(o:Opn mx sl)(q:Seek mx sl k j g){s:aX}(h:sl[pth (mx k) sl.length j]? =some s)(h0:s.1≠0)(h1:¬(s.1=1/\s.2.1=k)):
 Seek mx sl k (j+1) (if s.1=2/\g=none then some (pth (mx k) sl.length j)else g):=by
 have jl:=q.jl;have seen:∀Z,Z<j+1->∀s,sl[pth (mx k) sl.length Z]? =some s->s.1≠0/\¬(s.1=1/\s.2.1=k):=by intro Z hj s' hs;by_cases c:Z=j;grind;exact q.seen Z (by omega) s' hs
 refine⟨?_,seen,?_⟩;obtain c|c:=TB (j+1) sl.length;exact c;exfalso;let⟨i,s',hi,h'⟩:=o.room;let⟨Z,l',e⟩:=Ey (a:=mx k) (Ss.1 hi).1;exact(seen Z (by omega) s' (by rw[e];exact hi)).1 h';intro x K;by_cases c:s.1=2/\g=none;grind;rw[if_neg c]at K;let⟨l1,j0,l2,e⟩:=q.grave x K;exact⟨l1,j0,by omega,e⟩
theorem fQ(sl:List aX)(a i:Nat)(x s:aX)(h:(sl.set a x)[i]? =some s):(i=a/\s=x/\a<sl.length)\/(i≠a/\sl[i]? =some s):=by grind
theorem jv{sl:List aX}{a:Nat}(x:aX)(h:a<sl.length):(sl.set a x)[a]? =some x:=Vt h
theorem Opn.put(o:Opn mx sl){a:Nat}(q:Looked mx sl k a false)(v:Nat)(hr:∃(i:Nat)(s:aX),i≠a/\sl[i]? =some s/\s.1=0):Opn mx (sl.set a (1,k,v)):=by
 let⟨no,⟨s0,hs0,h0⟩,j,jl,je,jp⟩:=q.no rfl;refine⟨?_,?_,?_,?_⟩;intro s Z;obtain h|rfl:=TR Z;exact o.st s h;omega;intro i i' k' v' w' K ac;obtain⟨e1,e,_⟩|⟨c,h1⟩:=fQ _ _ _ _ _ K<;>obtain⟨e2,e',_⟩|⟨c',h2⟩:=fQ _ _ _ _ _ ac
 rw[e1,e2];grind;grind;exact o.uniq _ _ _ _ _ h1 h2;intro i k' v' K;rw[Ta];obtain⟨rfl,e,_⟩|⟨c,K⟩:=fQ _ _ _ _ _ K;grind;let⟨j1,l1,e1,p1⟩:=o.path i k' v' K;refine⟨j1,l1,e1,fun j' hj s Z=>?_⟩;obtain⟨_,rfl,_⟩|⟨_,Z⟩:=fQ _ _ _ _ _ Z;simp;exact p1 j' hj s Z;let⟨i,s,c,K,Z⟩:=hr;exact⟨i,s,by rw[Tx (Ub c)];exact K,Z⟩
theorem Opn.change(o:Opn mx sl){a w:Nat}(h:sl[a]? =some (1,k,w))(v:Nat):Opn mx (sl.set a (1,k,v)):=by
 have key:∀i k' v':Nat,(sl.set a (1,k,v))[i]? =some (1,k',v')->∃w',sl[i]? =some (1,k',w'):=by grind
 have nz:∀(i:Nat)(s:aX),(sl.set a (1,k,v))[i]? =some s->(∀s',sl[i]? =some s'->s'.1≠0)->s.1≠0:=by grind
 refine⟨?_,?_,?_,?_⟩;intro s Z;obtain h|rfl:=TR Z;exact o.st s h;omega;intro i i' k' v' w' K ac;let⟨_,h1⟩:=key _ _ _ K;let⟨_,h2⟩:=key _ _ _ ac;exact o.uniq _ _ _ _ _ h1 h2;intro i k' v' K;rw[Ta];let⟨_,h1⟩:=key _ _ _ K;let⟨j1,l1,e1,p1⟩:=o.path _ _ _ h1;exact⟨j1,l1,e1,fun j' hj s Z=>nz _ _ Z (p1 j' hj)⟩;let⟨i,s,K,Z⟩:=o.room;refine⟨i,s,?_,Z⟩;rw[Tx];exact K;grind
theorem Opn.drop(o:Opn mx sl){a w:Nat}(h:sl[a]? =some (1,k,w))(x y:Nat):Opn mx (sl.set a (2,x,y)):=by
 have key:∀i k' v':Nat,(sl.set a (2,x,y))[i]? =some (1,k',v')->sl[i]? =some (1,k',v'):=by grind
 refine⟨?_,?_,?_,?_⟩;intro s Z;obtain h|rfl:=TR Z;exact o.st s h;omega;intro i i' k' v' w' K ac;exact o.uniq _ _ _ _ _ (key _ _ _ K) (key _ _ _ ac);intro i k' v' K;rw[Ta];let⟨j1,l1,e1,p1⟩:=o.path _ _ _ (key _ _ _ K);refine⟨j1,l1,e1,fun j' hj s Z=>?_⟩;obtain⟨_,rfl,_⟩|⟨_,Z⟩:=fQ _ _ _ _ _ Z;simp;exact p1 j' hj s Z;let⟨i,s,K,Z⟩:=o.room;refine⟨i,s,?_,Z⟩;rw[Tx];exact K;grind
theorem Opn.zero(mx:Nat->Nat)(n:Nat)(h:0<n):Opn mx (List.replicate n (0,0,0)):=by have e:∀(i:Nat)(s:aX),(List.replicate n ((0,0,0):aX))[i]? =some s->s=(0,0,0):=fun i s Z=>Vl (RZ Z);refine⟨fun s Z=>.inl (by rw[Vl Z]),fun i j k v w hi=>?_,fun i k v hi=>?_,⟨0,(0,0,0),by rw[UM,if_pos h],rfl⟩⟩;grind;grind
def cnS(c:Nat)(sl:List aX):Nat:=sl.countP fun s=>s.1==c
theorem gE{a c:Nat}{s x:aX}(h:sl[a]? =some s):cnS c (sl.set a x)+(if s.1=c then 1 else 0)=cnS c sl+(if x.1=c then 1 else 0):=by
 unfold cnS;induction sl generalizing a with
 |nil=>simp at h
 |cons y l ih=>
  cases a with
  |zero=>simp at h;subst h;simp only[List.set_cons_zero,List.countP_cons,beq_iff_eq];split<;>split<;>omega
  |succ a=>simp only[List.set_cons_succ,List.countP_cons,beq_iff_eq];have:=ih (a:=a) (by simpa using h);omega
theorem zt{n:Nat}(h:0<cnS 0 sl):∃(i:Nat)(s:aX),sl[i]? =some s/\s.1=0:=by unfold cnS at h;rw[VJ]at h;let⟨s,hs,e⟩:=h;let⟨i,hi,e2⟩:=List.mem_iff_getElem.1 hs;exact⟨i,s,by rw[Ss];exact⟨hi,e2⟩,by simpa using e⟩
theorem BM(h:∀s∈sl,s.1=0\/s.1=1\/s.1=2):cnS 0 sl+cnS 1 sl+cnS 2 sl=sl.length:=by
 unfold cnS;induction sl with
 |nil=>rfl
 |cons y l ih=>have:=ih fun s hs=>h s (TE _ hs);simp only[VC,beq_iff_eq,SG];obtain e|e|e:=h y (List.mem_cons_self ..)<;>simp only[e]<;>simp<;>omega
end Go.Ev.St
namespace Go.Ev.Lay
variable{h':Heap}{env:T V}{key:Nat}{α:Type}
open Go.Ev.St
set_option maxRecDepth 4000
theorem JV(x n m:Nat)(b:Int)(K:b=n)(hn:n<=64)(Z:m=2^n):aP (.sh false) [ZX (x:Int),ZX b]=some (ZX ((x/m:Nat):Int)):=by subst K;rw[AV _ _ _ _ oM];simp only[RX,IntKind.bits,TM hn];rw[<-Z];congr 2;exact Int.fdiv_eq_ediv_of_nonneg _ (VM _)
def Ld(x:Nat):Nat:=x^^^(x/2147483648)
def Ib(x:Nat):Nat:=(x^^^(x/134217728)) *10723151780598845931%18446744073709551616
def Ic(x:Nat):Nat:=(x^^^(x/1073741824)) *13787848793156543929%18446744073709551616
def mix(x:Nat):Nat:=Ld (Ib (Ic x))
theorem J9{h:Heap}{x:Nat}(hx:x<18446744073709551616):ao go 179 [.int .u64 (x:Int)] h fun u h'=>u=.int .u64 (mix x:Nat)∧h'=h:=by have s1:=JV x 30 1073741824 30 rfl oM dI;have x1:=qO x (x/1073741824) _ _ rfl rfl hx oM;have m1:=Lc (x^^^x/1073741824) 13787848793156543929 13787848793156543929 rfl;have h1:Ic x<18446744073709551616:=Nat.mod_lt _ oM;change _=some (V.int .u64 ((Ic x:Nat):Int))at m1;unfold mix;generalize Ic x=y at h1 m1;have s2:=JV y 27 134217728 27 rfl oM dI;have x2:=qO y (y/134217728) _ _ rfl rfl h1 oM;have m2:=Lc (y^^^y/134217728) 10723151780598845931 10723151780598845931 rfl;have h2:Ib y<18446744073709551616:=Nat.mod_lt _ oM;change _=some (V.int .u64 ((Ib y:Nat):Int))at m2;generalize Ib y=z at h2 m2;have s3:=JV z 31 2147483648 31 rfl oM dI;have x3:=qO z (z/2147483648) _ _ rfl rfl h2 oM;change _=some (V.int .u64 ((Ld z:Nat):Int))at x3;refine ag ?_;simp only[evs,seval,s1,x1,m1,s2,x2,m2,s3,x3]
def sc(s:aX):List V:=[ZY (s.1:Int),ZX (s.2.1:Int),ZZ (s.2.2:Int)]
theorem rF(s:aX):(sc s).length=3:=rfl
def Tb(h:Heap)(v:V)(S:Nat)(sl:List aX):Prop:=(v=.slice S 0 sl.length sl.length\/v=.sliceU S 0 sl.length 3)/\Own h S (sl.flatMap sc)
theorem nU(sl:List aX):(sl.flatMap sc).length=sl.length*3:=aJ rF sl
theorem Tb.recs{h:Heap}{v:V}{S:Nat}{sl:List aX}(t:Tb h v S sl):Recs sc 3 h v sl:=by obtain⟨rfl|rfl,o⟩:=t;exact⟨nU sl,rfl,RW _,_,o,by rw[nU];omega,by rw[UA,Sf (by rw[nU];omega)]⟩;exact⟨nU sl,rfl,rfl,_,o,by rw[nU];omega,by rw[UA,Sf (by rw[nU];omega)]⟩
theorem Tb.ix{h:Heap}{v:V}{S:Nat}{sl:List aX}(t:Tb h v S sl)(i:Nat)(Z:i<sl.length):aP (.ixs 3) [v,ZZ (i:Int)]=some (.ptr S (i*3)):=by obtain⟨rfl|rfl,o⟩:=t;have:=gw 3 S 0 sl.length sl.length .i64 (i:Int) oM oM;simpa using this;have:=nr 3 S 0 sl.length 3 .i64 (i:Int) oM oM;simpa using this
theorem Tb.fr{h:Heap}{v:V}{S:Nat}{sl:List aX}(t:Tb h v S sl)(f:Fr [] h h'):Tb h' v S sl:=⟨t.1,f.get t.2⟩
def gi:Option Nat->Int
 |none=>-1
 |some x=>x
theorem En(p n:Nat)(h:n≠0):aP (.ib .rem) [ZZ ((p:Int)+1),ZZ (n:Int)]=some (ZZ (((p+1)%n:Nat):Int)):=by rw[nm _ _ _ oM];congr 2
theorem r7{mx:Nat->Nat}{h:Heap}{b S j:Nat}{v M U:V}{sl:List aX}{g:Option Nat}{Q:Ex->T V->Heap->Prop}(w:WF h)(ob:Own h b [v,M,U])(tb:Tb h v S sl)(op:Opn mx sl)(q:Seek mx sl key j g)(hn:sl.length<1000000)
 (g0:env.get 0=some (.ptr b 0)) (g1:env.get 1=some (ZX (key:Int))) (g4:env.get 4=some (ZZ (pth (mx key) sl.length j:Nat))) (g5:env.get 5=some (.bool false)) (g6:env.get 6=some (ZZ (gi g)))
 (Ky:∀env' h' at' found,env'.get 4=some (ZZ ((at':Nat):Int))->env'.get 5=some (.bool found)->Looked mx sl key at' found->Fr [] h h'->Q .ret env' h')
 (Kg:∀env' h' g',Seek mx sl key (j+1) g'->env'.get 0=some (.ptr b 0)->env'.get 1=some (ZX (key:Int))->env'.get 4=some (ZZ (pth (mx key) sl.length (j+1):Nat))->env'.get 5=some (.bool false)->env'.get 6=some (ZZ (gi g'))->Fr [] h h'->Q (.goto 0) env' h'):
 W go wP env h Q:=by
 have jl:=q.jl;have hp:pth (mx key) sl.length j<sl.length:=Ah oM;have hx:=tb.ix _ hp;let⟨b1,o1,x,e1,_,e3,e4⟩:=Vi rF tb.recs .i64 (pth (mx key) sl.length j:Nat) oM oM;rw[hx]at e1;obtain⟨rfl,rfl⟩:S=b1/\pth (mx key) sl.length j*3=o1:=by simpa using e1
 simp only[RX]at e4;have l0:ab h b 0=some v:=ob.ld1 0;let⟨s,ky,vl⟩:=x;have Z:=op.st _ (RZ e4);simp only[evs,seval,wP,g0,g4,l0,hx,e3];apply stu (w.halloc _) (Ts w _);rintro h1 o1 F1 n1;have F:Fr [] h h1:=(SO w _).trans F1 w (fun _ hx=>by simp at hx) (fun x hx=>.inr (by simp at hx;omega));have K:ab h1 h.next 0=some (ZY (s:Int)):=o1.ld1 0;have q1:ab h1 h.next 1=some (ZX (ky:Int)):=o1.ld1 1;have l1:ab h1 b 0=some v:=(F.get ob).ld1 0;have len:=(tb.fr F).recs.len;have rm:=En (pth (mx key) sl.length j) sl.length oM;rw[Ew]at rm;have ac:(hz:s≠0)->(hk:¬(s=1/\ky=key))->∀env':T V,env'.get 0=some (.ptr b 0)->env'.get 1=some (ZX (key:Int))->env'.get 4=some (ZZ (pth (mx key) sl.length (j+1):Nat))->env'.get 5=some (.bool false)->
  env'.get 6=some (ZZ (gi (if s=2/\g=none then some (pth (mx key) sl.length j)else g)))->Q (.goto 0) env' h1:=fun hz hk env' a b c d e=>
  Kg env' h1 _ (q.next op e4 hz hk) a b c d e F
 obtain Z|Z|Z:=Z;have Z:s=0:=Z;subst Z;replace K:ab h1 h.next 0=some (ZY 0):=K;have fr:=q.free op e4 rfl;cases g with
 |none=>simp only[evs,seval,K,g4,g6,(oM:¬(0:Int)=1),gi,(oM:¬(0:Int)<=-1)];refine Ky _ _ _ _ ?_ ?_ fr F<;>simp
 |some x=>simp only[evs,seval,K,g6,(oM:¬(0:Int)=1),gi,eq_true (oM:(0:Int)<=(x:Int))];refine Ky _ _ _ _ ?_ ?_ fr F<;>simp
 have Z:s=1:=Z;subst Z;replace K:ab h1 h.next 0=some (ZY 1):=K;by_cases hk:ky=key;subst hk;have fo:=q.found e4;simp only[evs,seval,K,q1,g1,g4];refine Ky _ _ _ _ ?_ ?_ fo F<;>simp
 have ae:¬(ky:Int)=(key:Int):=oM;have G:=ac oM (fun x=>hk x.2);rw[if_neg iS]at G;simp(disch:=omega) only[evs,seval,ah,K,q1,g0,g1,g4,eq_false ae,(oM:¬(1:Int)=0),(oM:¬(1:Int)=2),l1,len,rm];refine G _ ?_ ?_ ?_ ?_ ?_<;>simp[g0,g1,g5,g6,gi]
 have Z:s=2:=Z;subst Z;replace K:ab h1 h.next 0=some (ZY 2):=K;have G:=ac oM oM;cases g with
 |none=>rw[if_pos ⟨rfl,rfl⟩]at G;simp(disch:=omega) only[evs,seval,ah,K,g0,g4,g6,(oM:¬(2:Int)=1),(oM:¬(2:Int)=0),gi,(oM:(-1:Int)<0),l1,len,rm];refine G _ ?_ ?_ ?_ ?_ ?_<;>simp[g0,g1,g5,gi]
 |some x=>rw[if_neg iS]at G;simp(disch:=omega) only[evs,seval,ah,K,g0,g4,g6,(oM:¬(2:Int)=1),(oM:¬(2:Int)=0),gi,eq_false (oM:¬(x:Int)<0),l1,len,rm];refine G _ ?_ ?_ ?_ ?_ ?_<;>simp[g0,g1,g5,g6,gi]
theorem HR(a n:Nat)(b:Int)(Z:b=n)(h:n≠0):aP (.ib .rem) [ZX (a:Int),ZX b]=some (ZX ((a%n:Nat):Int)):=by subst Z;rw[nm _ _ _ oM];congr 2
theorem nL{h:Heap}{b S:Nat}{v M U:V}{sl:List aX}(w:WF h)(ob:Own h b [v,M,U])(tb:Tb h v S sl)(op:Opn mix sl)(hn:sl.length<1000000)(hk:key<18446744073709551616):
 ao go 108 [.ptr b 0,ZX (key:Int)] h fun u h'=>∃at' found,u=.tup [ZZ ((at':Nat):Int),.bool found]/\Looked mix sl key at' found/\Fr [] h h':=by
 have l0:ab h b 0=some v:=ob.ld1 0;have len:=tb.recs.len;have pos:=op.pos;have ac:=J9 (h:=h) hk;generalize mix=mx at op ac;have rm:=HR (mx key) sl.length (sl.length:Nat) rfl oM;have rl:mx key%sl.length<sl.length:=TY _ pos;refine ag ?_;simp only[evs,seval];refine Cd (fun k env K=>Fr [] h K/\∃j g,Seek mx sl key j g/\env.get 0=some (.ptr b 0)/\env.get 1=some (ZX (key:Int))/\env.get 4=some (ZZ (pth (mx key) sl.length j:Nat))/\env.get 5=some (.bool false)/\
  env.get 6=some (ZZ (gi g))/\k=sl.length-j) (sl.length-1) oM ?_ ?_
 simp only[evs,seval,eff];refine aa ac ?_;rintro _ _ ⟨rfl,K⟩;replace K:=K.symm;subst K;have ae:bX .u64 (sl.length:Int)=(sl.length:Int):=dG _ oM oM;simp(disch:=omega) only[evs,seval,DF,eff,ah,l0,len,ae,rm];refine r7 w ob tb op (Seek.start op key) hn ?_ ?_ ?_ ?_ ?_ ?_ ?_;simp;simp;rw[Eu];simp;simp;simp[gi];intro Z h' at' found e4 e5 L F;show iO _ _ _ _ _;simp only[evs,e4,e5];exact⟨_,_,rfl,L,F⟩;grind;rintro k env K ⟨F,j,g,q,g0,g1,g4,g5,g6,rfl⟩;have jl:=q.jl;refine r7 F.wf (F.get ob) (tb.fr F) op q hn g0 g1 g4 g5 g6 ?_ ?_;intro Z h' at' found e4 e5 L F';show iO _ _ _ _ _;simp only[evs,e4,e5];exact⟨_,_,rfl,L,F.then F'⟩;intro Z h' g' q1 a0 a1 a4 a5 a6 F';exact⟨rfl,sl.length-(j+1),oM,F.then F',j+1,g',q1,a0,a1,a4,a5,a6,rfl⟩
structure KmT(h:Heap)(b S:Nat)(v:V)(sl:List aX)(m:Nat->Option Nat)(c t:Nat):Prop where
 ob:Own h b [v,ZZ (c:Int),ZZ (t:Int)]
 tb:Tb h v S sl
 op:Opn mix sl
 n8:8<=sl.length
 nb:sl.length<=20000
 c1:cnS 1 sl=c
 c2:cnS 2 sl=t
 mp:∀k x:Nat,m k=some x↔∃i:Nat,sl[i]? =some (1,k,x)
 kb:∀s∈sl,s.2.1<18446744073709551616/\s.2.2<4611686018427387904
def Km(h:Heap)(b S:Nat)(m:Nat->Option Nat)(c:Nat):Prop:=
 (Own h b [.nils,ZZ 0,ZZ 0]/\c=0/\∀k,m k=none)\/∃v sl t,KmT h b S v sl m c t/\4*(c+t)<=3*sl.length
theorem KmT.fr{h:Heap}{b S:Nat}{v:V}{sl:List aX}{m:Nat->Option Nat}{c t:Nat}(k:KmT h b S v sl m c t)(f:Fr [] h h'):KmT h' b S v sl m c t:={k with ob:=f.get k.ob,tb:=k.tb.fr f}
theorem Km.fr{h:Heap}{b S:Nat}{m:Nat->Option Nat}{c:Nat}(k:Km h b S m c)(f:Fr [] h h'):Km h' b S m c:=by obtain⟨o,x⟩|⟨v,sl,t,k,x⟩:=k;exact .inl ⟨f.get o,x⟩;exact .inr ⟨v,sl,t,k.fr f,x⟩
theorem KmT.sum{h:Heap}{b S:Nat}{v:V}{sl:List aX}{m:Nat->Option Nat}{c t:Nat}(k:KmT h b S v sl m c t):cnS 0 sl+c+t=sl.length:=by have:=BM k.op.st;rw[k.c1,k.c2]at this;exact this
theorem KmT.ne{h:Heap}{b S:Nat}{v:V}{sl:List aX}{m:Nat->Option Nat}{c t:Nat}(k:KmT h b S v sl m c t):b≠S:=by rintro rfl;have e:=k.ob.uniq k.tb.2;have:=congrArg List.length e;rw[nU]at this;have:=k.n8;simp at *;omega
theorem KmT.some_c{h:Heap}{b S:Nat}{v:V}{sl:List aX}{m:Nat->Option Nat}{c t:Nat}(k:KmT h b S v sl m c t){key x:Nat}(e:m key=some x):0<c:=by let⟨i,hi⟩:=(k.mp key x).1 e;rw[<-k.c1];unfold cnS;rw[VJ];exact⟨_,RZ hi,iS⟩
theorem In{h:Heap}(w:WF h):ao go 42 [] h fun u h'=>∃b,u=.ptr b 0/\h.next<=b/\Km h' b b (fun _=>none) 0/\Fr [] h h':=by refine ag ?_;simp only[evs,seval];exact⟨_,rfl,RW _,.inl ⟨Ts w _,rfl,fun _=>rfl⟩,SO w _⟩
theorem Bv{h:Heap}{b S:Nat}{m:Nat->Option Nat}{c:Nat}(k:Km h b S m c):ao go 107 [.ptr b 0] h fun u h'=>u=ZZ (c:Int)/\h'=h:=by
 have q:ab h b 1=some (ZZ (c:Int)):=by obtain⟨o,rfl,_⟩|⟨v,sl,t,k,_⟩:=k;exact o.ld1 1;exact k.ob.ld1 1
 refine ag ?_;simp only[evs,seval,q]
def nR(o:Option Nat):V:=match o with
 |some x=>.tup [ ZZ (x:Int),.bool true]
 |none=>.tup [ZZ 0,.bool false]
theorem wU{h:Heap}{b S:Nat}{m:Nat->Option Nat}{c:Nat}(w:WF h)(k:Km h b S m c)(hk:key<18446744073709551616):ao go 51 [.ptr b 0,ZX (key:Int)] h fun u h'=>u=nR (m key)/\Fr [] h h':=by
 have k0:=k;refine ag ?_;simp only[evs,seval];refine aa (Bv k) ?_;rintro _ _ ⟨rfl,Z⟩;replace Z:=Z.symm;subst Z;by_cases K:(c:Int)=0;have e:m key=none:=by
  obtain⟨o,_,h1⟩|⟨v,sl,t,k,_⟩:=k;exact h1 key;cases e:m key with
  |none=>rfl
  |some x=>have:=k.some_c e;omega
 rw[e];simp only[evs,seval,K];exact⟨rfl,Sn w⟩;obtain⟨o,h0,h1⟩|⟨v,sl,t,k,_⟩:=k;exact absurd oM K;simp only[evs,seval,eq_false K];refine aa (nL w k.ob k.tb k.op (by have:=k.nb;omega) hk) ?_;rintro _ h2 ⟨at',found,rfl,L,F⟩;cases found;have e:m key=none:=by
  cases e:m key with
  |none=>rfl
  |some x=>let⟨i,hi⟩:=(k.mp key x).1 e;exact absurd hi ((L.no rfl).1 i x)
 rw[e];simp only[evs,seval];exact⟨rfl,F⟩;let⟨x,hx⟩:=L.yes rfl;have e:m key=some x:=(k.mp key x).2 ⟨_,hx⟩;have k2:=k.fr F;have ix:=k2.tb.ix _ L.lt;have l0:ab h2 b 0=some v:=k2.ob.ld1 0;have l2:ab h2 S (at'*3+2)=some (ZZ (x:Int)):=by
  let⟨b1,o1,y,e1,e2,_,e4⟩:=Vi rF k2.tb.recs .i64 (at':Nat) oM (by have:=L.lt;omega);rw[ix]at e1;obtain⟨rfl,rfl⟩:S=b1/\at'*3=o1:=by simpa using e1
  simp only[RX]at e4;rw[hx]at e4;cases e4;exact(e2 2 oM).trans rfl
 rw[e];simp only[evs,seval,l0,ix,l2];exact⟨rfl,F⟩
theorem kB(x:aX):∀(sl:List aX)(i:Nat),i<sl.length→bu (sl.flatMap sc) (i*3) (sc x)=some ((sl.set i x).flatMap sc)
 |[],i,h=>by simp at h
 |y::l,0,_=>by show bu (V.int .u8 (y.1:Int)::V.int .u64 (y.2.1:Int)::V.int .i64 (y.2.2:Int)::l.flatMap sc) 0 [V.int .u8 (x.1:Int),V.int .u64 (x.2.1:Int),V.int .i64 (x.2.2:Int)]=_;rw[aV,aV,aV,kW];rfl
 |y::l,i+1,h=>by have ih:=kB x l i (eV h);rw[(oM:(i+1) *3=i*3+1+1+1)];show bu (V.int .u8 (y.1:Int)::V.int .u64 (y.2.1:Int)::V.int .i64 (y.2.2:Int)::l.flatMap sc) (i*3+1+1+1) (sc x)=_;rw[bI,bI,bI,ih];rfl
theorem vq(k v v':Nat):∀(sl:List aX)(i:Nat),sl[i]? =some (1,k,v)→bu (sl.flatMap sc) (i*3+2) [V.int .i64 (v':Int)]=some ((sl.set i (1,k,v')).flatMap sc)
 |[],i,h=>by simp at h
 |y::l,0,h=>by simp at h;subst h;show bu (V.int .u8 ((1:Nat):Int)::V.int .u64 (k:Int)::V.int .i64 (v:Int)::l.flatMap sc) (0+1+1) [V.int .i64 (v':Int)]=_;rw[bI,bI,aV,kW];rfl
 |y::l,i+1,h=>by have ih:=vq k v v' l i (eV h);rw[(oM:(i+1) *3+2=i*3+2+1+1+1)];show bu (V.int .u8 (y.1:Int)::V.int .u64 (y.2.1:Int)::V.int .i64 (y.2.2:Int)::l.flatMap sc) (i*3+2+1+1+1) [V.int .i64 (v':Int)]=_;rw[bI,bI,bI,ih];rfl
theorem Tb.put{h h1:Heap}{v:V}{S i:Nat}{sl:List aX}{x:aX}(t:Tb h v S sl)(o:Own h1 S ((sl.set i x).flatMap sc)):Tb h1 v S (sl.set i x):=⟨by rw[Ta];exact t.1,o⟩
theorem jA{sl:List aX}{i:Nat}{x:aX}(kb:∀s∈sl,s.2.1<18446744073709551616/\s.2.2<4611686018427387904)(Z:x.2.1<18446744073709551616/\x.2.2<4611686018427387904):∀s∈sl.set i x,s.2.1<18446744073709551616/\s.2.2<4611686018427387904:=by grind
theorem Jo{sl:List aX}(h:2<=cnS 0 sl)(a:Nat):∃(i:Nat)(s:aX),i≠a/\sl[i]? =some s/\s.1=0:=by
 by_cases ha:a<sl.length;have e:=gE (c:=0) (x:=((1,0,0):aX)) (Sm ha);have h2:0<cnS 0 (sl.set a (1,0,0)):=by grind
 let⟨i,s,Z,K⟩:=zt (n:=0) h2;obtain⟨_,rfl,_⟩|⟨ci,Z⟩:=fQ _ _ _ _ _ Z;cases K;grind;let⟨i,s,Z,K⟩:=zt (n:=0) (sl:=sl) oM;have:=(Ss.1 Z).1;exact⟨i,s,oM,Z,K⟩
theorem sZ{c i:Nat}{sl:List aX}{s:aX}(h:sl[i]? =some s):cnS c (sl.take (i+1))=cnS c (sl.take i)+(if s.1=c then 1 else 0):=by unfold cnS;rw[Sr,h,List.countP_append];simp[VC]
theorem zr(c i:Nat)(sl:List aX):cnS c (sl.take i)<=cnS c sl:=by unfold cnS;exact List.Sublist.countP_le (UF i sl)
def Old(h:Heap)(b S:Nat)(v:V)(ol:List aX):Prop:=(v=.nils/\ol=[])\/(Tb h v S ol/\b≠S/\S<h.next)
theorem Old.recs{h:Heap}{b S:Nat}{v:V}{ol:List aX}(o:Old h b S v ol):Recs sc 3 h v ol:=by obtain⟨rfl,rfl⟩|⟨t,_⟩:=o;exact VL;exact t.recs
theorem Old.fr{h:Heap}{b S:Nat}{v:V}{ol:List aX}(o:Old h b S v ol)(f:Fr [b] h h'):Old h' b S v ol:=by obtain o|⟨t,ne,lt⟩:=o;exact .inl o;exact .inr ⟨⟨t.1,f.own S _ (by simp;exact fun e=>ne e.symm) t.2⟩,ne,Ty lt f.next⟩
structure Moved(sl ol:List aX)(i:Nat):Prop where
 op:Opn mix sl
 c1:cnS 1 sl=cnS 1 (ol.take i)
 c2:cnS 2 sl=0
 mp:∀k x:Nat,(∃j:Nat,sl[j]? =some (1,k,x))↔∃j:Nat,j<i/\ol[j]? =some (1,k,x)
 kb:∀s∈sl,s.2.1<18446744073709551616/\s.2.2<4611686018427387904
theorem Moved.skip{sl ol:List aX}{i:Nat}{s:aX}(m:Moved sl ol i)(h:ol[i]? =some s)(Z:s.1≠1):Moved sl ol (i+1):=by refine{m with c1:=by rw[sZ h,if_neg Z];exact m.c1,mp:=fun k x=>(m.mp k x).trans ⟨fun⟨j,a,b⟩=>⟨j,oM,b⟩,fun⟨j,a,b⟩=>?_⟩};refine⟨j,?_,b⟩;obtain q|q:=TB j i;exact q;have:j=i:=oM;subst this;rw[h]at b;cases b;exact absurd rfl Z
theorem Moved.put{sl ol:List aX}{i k x a:Nat}(m:Moved sl ol i)(h:ol[i]? =some (1,k,x))(L:Looked mix sl k a false)(hk:k<18446744073709551616)(hx:x<4611686018427387904)(rm:2<=cnS 0 sl):Moved (sl.set a (1,k,x)) ol (i+1):=by
 let⟨no,⟨s0,hs0,h0⟩,_⟩:=L.no rfl;have z2:s0.1≠2:=by intro e;have:=m.c2;unfold cnS at this;rw[List.countP_eq_zero]at this;exact this s0 (RZ hs0) iX
 have e1:=gE (c:=1) (x:=((1,k,x):aX)) hs0;have e2:=gE (c:=2) (x:=((1,k,x):aX)) hs0;simp only[if_neg h0,if_neg z2,if_true]at e1 e2;refine⟨m.op.put L x (Jo rm a),?_,?_,fun k' K=>⟨?_,?_⟩,jA m.kb ⟨hk,hx⟩⟩;rw[sZ h,if_pos rfl,<-m.c1];omega;have:=m.c2;simp at e2;omega;rintro⟨j,Z⟩;obtain⟨_,e,_⟩|⟨cj,Z⟩:=fQ _ _ _ _ _ Z;grind;let⟨j',l',e'⟩:=(m.mp k' K).1 ⟨j,Z⟩;exact⟨j',oM,e'⟩;rintro⟨j,lj,Z⟩;by_cases c:j=i;subst c;rw[h]at Z;cases Z;exact⟨a,jv _ L.lt⟩;let⟨j',hj'⟩:=(m.mp k' K).2 ⟨j,oM,Z⟩;refine⟨j',?_⟩;rw[Tx];exact hj';grind
theorem CL(n:Nat):aU [V.int .u8 0,V.int .u64 0,V.int .i64 0] n=(List.replicate n ((0,0,0):aX)).flatMap sc:=by
 induction n with
 |zero=>rfl
 |succ n ih=>show[V.int .u8 0,V.int .u64 0,V.int .i64 0]++aU _ n=_;rw[ih,List.replicate_succ];rfl
theorem zq(c n:Nat)(K:c≠0):cnS c (List.replicate n (0,0,0))=0:=by unfold cnS;rw[List.countP_eq_zero];intro s Z;rw[Vl Z];simp;omega
theorem xQ{h:Heap}{b S q c:Nat}{ov T0:V}{ol:List aX}(w:WF h)(ob:Own h b [ov,.int .i64 (c:Int),T0])(old:Old h b S ov ol)(o1:ov.one=true)(t1:T0.one=true)(hl:ol.length≤20000)
 (uq:∀i j k v w:Nat,ol[i]? =some (1,k,v)→ol[j]? =some (1,k,w)→i=j) (oc:cnS 1 ol=c) (kb:∀s∈ol,s.2.1<18446744073709551616∧s.2.2<4611686018427387904) (hc:c≤q) (q1:1≤q) (q2:q≤4097):
 ao go 226 [.ptr b 0,.int .i64 (q:Int)] h fun u h'=>u=.tup []∧∃n S' sl,h.next≤S'∧sl.length=n∧8≤n∧n≤20000∧2*q≤n∧Own h' b [.slice S' 0 n n,.int .i64 (c:Int),.int .i64 0]∧Tb h' (.slice S' 0 n n) S' sl∧Moved sl ol ol.length∧Fr [b] h h':=by
 have bl:=ob.lt w;refine ag ?_;simp only[evs,seval];refine aC (fun k env hh=>h=hh∧∃n:Nat,env.get 0=some (.ptr b 0)∧env.get 1=some (.int .i64 (q:Int))∧env.get 4=some (.int .i64 (n:Int))∧8≤n∧n≤16388∧k=2*q-n) (2*q-8) oM ?_ ?_
 ·exact⟨rfl,8,iS,iS,iS,oM,oM,rfl⟩
 rintro k env hh ⟨rfl,n,g0,g1,g4,n8,nb,rfl⟩;by_cases hn:(n:Int)<2*(q:Int)
 ·simp(disch:=omega) only[evs,seval,ah,g1,g4,eq_true hn];refine rqn ⟨2*q-n*2,oM,rfl,n*2,iX,iX,iS,oM,oM,rfl⟩
  done
 have l0:ab h b 0=some ov:=ob.ld1 0;have ms:=CL n;have mk:vZ h [V.int .u8 0,V.int .u64 0,V.int .i64 0] 24 (.int .i64 (n:Int)) (.int .i64 (n:Int))=some (.slice h.next 0 n n,halloc h ((List.replicate n ((0,0,0):aX)).flatMap sc)):=by
  rw[←ms];show(bif Nat.ble n n&&Nat.blt n 9223372036854775808&&Nat.ble (24*n) 281474976710656 then some (V.slice h.next 0 n n,halloc h (aU [V.int .u8 0,V.int .u64 0,V.int .i64 0] n))else none)=_;rw[show Nat.ble n n=true by rw[Nat.ble_eq];omega,show Nat.blt n 9223372036854775808=true by rw[Nat.blt_eq];omega,show Nat.ble (24*n) 281474976710656=true by rw[Nat.ble_eq];omega];rfl
 simp(disch:=omega) only[evs,seval,ah,g0,g1,g4,eq_false hn,l0,mk];have w0:=w.halloc ((List.replicate n ((0,0,0):aX)).flatMap sc);refine stu w0 (ob.halloc w _) ?_;rintro h1 ob1 F1 n1;simp only[evs,seval,g0];refine stu F1.wf ob1 ?_;rintro h2 ob2 F2 n2;have bn:h.next≠b:=oM
 have ot2:Own h2 h.next ((List.replicate n ((0,0,0):aX)).flatMap sc):=F2.own _ _ (eV bn) (F1.own _ _ (eV bn) (Own.new w _));have Fa:Fr [b] h h2:=((Fr.halloc w _).trans (F1.trans F2 w0 (T:=[b]) (fun x hx=>.inl hx) (fun x hx=>.inl hx)) w (fun x hx=>by simp at hx) (fun x hx=>.inl hx));have len:=old.recs.len;simp only[evs,seval,len];refine aC (fun k env hh=>∃(i:Nat)(sl:List aX),Fr [b] h hh∧Own hh b [.slice h.next 0 n n,.int .i64 (c:Int),.int .i64 0]∧Tb hh (.slice h.next 0 n n) h.next sl∧sl.length=n∧Moved sl ol i∧env.get 0=some (.ptr b 0)∧env.get 28=some ov∧
  env.get 29=some (.int .i64 (ol.length:Int))∧env.get 30=some (.int .i64 (i:Int))∧i≤ol.length∧k=ol.length-i) ol.length oM ?_ ?_
 ·refine⟨0,List.replicate n (0,0,0),Fa,ob2,⟨.inl iS,ot2⟩,iS,⟨Opn.zero _ _ oM,?_,zq 2 n oM,fun k x=>⟨?_,?_⟩,?_⟩,iX,iS,iS,iS,oM,rfl⟩
  ·rw[zq 1 n oM];simp[cnS]
  ·grind
  ·omega
  ·grind
 clear ob1 F1 n1 ob2 F2 n2 ot2 Fa w0 g0 g1 g4 l0 mk ms;rintro k env hh ⟨i,sl,F,oB,tB,sn,mv,g0,g28,g29,g30,hi,rfl⟩;by_cases hlt:(i:Int)<(ol.length:Int)
 ·have wh:=F.wf;let⟨b1,p1,⟨s,ky,vl⟩,e1,_,e3,e4⟩:=Recs.ix rF (old.fr F).recs .i64 (i:Int) oM hlt;simp only[Int.toNat_natCast]at e4;have hk:=kb _ (List.mem_of_getElem? e4);simp only[evs,seval,g28,g29,g30,eq_true hlt,e1,e3];refine stu (wh.halloc _) (Own.new wh _) ?_;rintro h3 o3 F3 n3;have Fx:Fr [] hh h3:=(Fr.halloc wh _).trans F3 wh (fun _ hx=>by simp at hx) (fun x hx=>.inr (by simp at hx;omega));by_cases hs:(s:Int)=1
  ·have hs1:s=1:=oM
   subst hs1;have q0:ab h3 hh.next 0=some (.int .u8 1):=o3.ld1 0;have q1':ab h3 hh.next 1=some (.int .u64 (ky:Int)):=o3.ld1 1;simp only[evs,seval,q0,q1',g0];refine aa (nL Fx.wf (Fx.get oB) (tB.fr Fx) mv.op oM hk.1) ?_;rintro _ h4 ⟨at',found,rfl,L,F4⟩;cases found;case true=>
    let⟨x,hx⟩:=L.yes rfl;let⟨j,lj,hj⟩:=(mv.mp ky x).1 ⟨_,hx⟩;have:=uq _ _ _ _ _ hj e4;omega
   have Fy:=Fx.then F4;have l0:ab h4 b 0=some (.slice h.next 0 n n):=(Fy.get oB).ld1 0;have q3:aj h4 hh.next 0 3=some (sc (1,ky,vl)):=by rw[(F4.get o3).ld];rfl
   have ix:=(tB.fr Fy).ix at' L.lt;simp only[evs,seval,eff,g0,l0,q3,ix];refine ai (c':=(sl.set at' (1,ky,vl)).flatMap sc) Fy.wf (tB.fr Fy).2 rfl rfl (kB (1,ky,vl) sl at' L.lt) ?_;rintro h5 o5 F5 n5;have room:2≤cnS 0 sl:=by
    have e:=BM mv.op.st;have:=mv.c2;have a1:=mv.c1;have a2:=sZ (c:=1) e4;have a3:=zr 1 (i+1) ol;simp only[if_true]at a2;omega
   simp(disch:=omega) only[evs,seval,DF,ah,g30,l0,q3];refine rqn ⟨ol.length-(i+1),oM,i+1,sl.set at' (1,ky,vl),(F.trans Fy w (fun x hx=>.inl hx) (fun x hx=>by simp at hx)).trans F5 w (fun x hx=>.inl hx) (fun x hx=>.inr (by simp at hx;omega)),F5.own b _ (by simpa using Ne.symm bn) (Fy.get oB),⟨by rw[List.length_set];exact tB.1,o5⟩,by rw[List.length_set];exact sn,
    mv.put e4 L hk.1 hk.2 room,iX,iX,iX,iS,oM,rfl⟩
   done
  ·have q0:ab h3 hh.next 0=some (.int .u8 (s:Int)):=o3.ld1 0;simp(disch:=omega) only[evs,seval,ah,q0,eq_false hs,g30];refine rqn ⟨ol.length-(i+1),oM,i+1,sl,F.trans Fx w (fun x hx=>.inl hx) (fun x hx=>by simp at hx),Fx.get oB,tB.fr Fx,sn,mv.skip e4 (by simp only[];omega),iX,iX,iX,iS,oM,rfl⟩
   done
 ·have:i=ol.length:=oM
  subst this;simp only[evs,seval,g29,g30,eq_false hlt];exact⟨n,h.next,sl,Nat.le_refl _,sn,n8,oM,oM,oB,tB,mv,F⟩
def j7(m:Nat->Option Nat)(key x:Nat):Nat->Option Nat:=fun k=>if k=key then some x else m k
theorem KmT.put{h:Heap}{b S x a Z:Nat}{v:V}{sl:List aX}{m:Nat->Option Nat}{c t:Nat}(k:KmT h b S v sl m c t)(L:Looked mix sl key a false)(hk:key<18446744073709551616)(hx:x<4611686018427387904)(fill:4*(c+t+1)<=3*sl.length)
 (ob:Own h' b [v,ZZ ((c+1:Nat):Int),ZZ (Z:Int)]) (o:Own h' S ((sl.set a (1,key,x)).flatMap sc)) (ht:∀s:aX,sl[a]? =some s->Z+(if s.1=2 then 1 else 0)=t):KmT h' b S v (sl.set a (1,key,x)) (j7 m key x) (c+1) Z:=by
 let⟨no,⟨s0,hs0,h0⟩,_⟩:=L.no rfl;have e1:=gE (c:=1) (x:=((1,key,x):aX)) hs0;have e2:=gE (c:=2) (x:=((1,key,x):aX)) hs0;simp only[if_neg h0,if_true]at e1;have ht:=ht s0 hs0;have c1:=k.c1;have c2:=k.c2;have rm:2<=cnS 0 sl:=by have:=k.sum;have:=k.n8;omega
 refine⟨ob,⟨by rw[Ta];exact k.tb.1,o⟩,k.op.put L x (Jo rm a),by rw[Ta];exact k.n8,by rw[Ta];exact k.nb,oM,?_,fun k' x'=>⟨?_,?_⟩,jA k.kb ⟨hk,hx⟩⟩;grind;intro e;unfold j7 at e;by_cases ck:k'=key;rw[if_pos ck]at e;cases e;subst ck;exact⟨a,jv _ L.lt⟩;rw[if_neg ck]at e;let⟨i,K⟩:=(k.mp k' x').1 e;refine⟨i,?_⟩;rw[Tx];exact K;grind;rintro⟨i,K⟩;unfold j7;obtain⟨_,e,_⟩|⟨ci,hj⟩:=fQ _ _ _ _ _ K;grind;by_cases ck:k'=key;grind;rw[if_neg ck];exact(k.mp k' x').2 ⟨i,hj⟩
theorem Bg{h:Heap}{env:T V}{b S key x:Nat}{v:V}{sl:List aX}{m:Nat→Option Nat}{c t:Nat}{R:V→Heap→Prop}(w:WF h)(k:KmT h b S v sl m c t)(hk:key<18446744073709551616)(hx:x<4611686018427387904)(hm:m key=none)(fill:4*(c+t+1)≤3*sl.length)
 (g0:env.get 0=some (.ptr b 0)) (g1:env.get 1=some (.int .u64 (key:Int))) (g2:env.get 2=some (.int .i64 (x:Int)))
 (K:∀h' sl' t',KmT h' b S v sl' (j7 m key x) (c+1) t'→sl'.length=sl.length→t'≤t→Fr [b,S] h h'→R (.int .i64 0) h'):W go HU env h (iO [.t 6] R):=by
 have cb:=k.sum;have nb:=k.nb;have ne:=k.ne;simp only[evs,HU,g0,g1];apply aa (nL w k.ob k.tb k.op oM hk);rintro _ h2 ⟨at',found,rfl,L,F⟩;cases found;case true=>
  let⟨y,hy⟩:=L.yes rfl;have:=(k.mp key y).2 ⟨_,hy⟩;rw[hm]at this;cases this
 have k2:=k.fr F;have ix:=k2.tb.ix _ L.lt;have l0:ab h2 b 0=some v:=k2.ob.ld1 0;let⟨no,⟨s0,hs0,h0⟩,_⟩:=L.no rfl;have l3:ab h2 S (at'*3)=some (.int .u8 (s0.1:Int)):=by
  let⟨b1,o1,y,e1,e2,_,e4⟩:=Recs.ix rF k2.tb.recs .i64 (at':Nat) oM (by have:=L.lt;omega);rw[ix]at e1;obtain⟨rfl,rfl⟩:S=b1∧at'*3=o1:=by simpa using e1
  simp only[Int.toNat_natCast]at e4;rw[hs0]at e4;cases e4;exact(e2 0 oM).trans rfl
 by_cases ht:(s0.1:Int)=2;have t1:1≤t:=by
  rw[←k.c2];have:0<cnS 2 sl:=by unfold cnS;rw[List.countP_pos_iff];exact⟨s0,List.mem_of_getElem? hs0,by simp;omega⟩
  exact this
 have l2:ab h2 b 2=some (.int .i64 (t:Int)):=k2.ob.ld1 2;simp(disch:=omega) only[evs,seval,ah,l0,ix,l3,eq_true ht,g0,l2];apply stu F.wf k2.ob;rintro h3 o3 F3 n3;have tb3:Tb h3 v S sl:=⟨k2.tb.1,F3.own S _ (by simpa using Ne.symm ne) k2.tb.2⟩;have l0':ab h3 b 0=some v:=o3.ld1 0;have ix':=tb3.ix _ L.lt;simp only[evs,seval,g0,g1,g2,l0',ix'];apply ai (c':=(sl.set at' (1,key,x)).flatMap sc) F3.wf tb3.2 rfl rfl (kB (1,key,x) sl at' L.lt);rintro h4 o4 F4 n4;have ob4:=F4.own b _ (eV ne) o3;have l1:ab h4 b 1=some (.int .i64 (c:Int)):=ob4.ld1 1;simp(disch:=omega) only[evs,seval,ah,g0,l1];apply stu F4.wf ob4;rintro h5 o5 F5 n5;simp only[evs,seval];refine K h5 (sl.set at' (1,key,x)) (t-1) (k.put L hk hx fill ?_ (F5.own S _ (by simpa using Ne.symm ne) o4) ?_) (List.length_set ..) oM ?_;rw[(oM:((t-1:Nat):Int)=(t:Int)-1)];exact o5;intro s hs;rw[hs0]at hs;cases hs;rw[if_pos oM];omega;have A:Fr [b,S] h2 h4:=F3.trans F4 F.wf (fun x hx=>.inl (by simp at hx;simp[hx])) (fun x hx=>.inl (by simp at hx;simp[hx]));have B:Fr [b,S] h2 h5:=A.trans F5 F.wf (fun x hx=>.inl hx) (fun x hx=>.inl (by simp at hx;simp[hx]));exact F.trans B w (fun x hx=>by simp at hx) (fun x hx=>.inl hx);simp only[evs,seval,l0,ix,l3,eq_false ht,g0,g1,g2];apply ai (c':=(sl.set at' (1,key,x)).flatMap sc) F.wf k2.tb.2 rfl rfl (kB (1,key,x) sl at' L.lt);rintro h4 o4 F4 n4;have ob4:=F4.own b _ (eV ne) k2.ob;have l1:ab h4 b 1=some (.int .i64 (c:Int)):=ob4.ld1 1;simp(disch:=omega) only[evs,seval,ah,g0,l1];apply stu F4.wf ob4;rintro h5 o5 F5 n5;simp only[evs,seval];refine K h5 (sl.set at' (1,key,x)) t (k.put L hk hx fill o5 (F5.own S _ (by simpa using Ne.symm ne) o4) ?_) (List.length_set ..) oM ?_;intro s hs;rw[hs0]at hs;cases hs;rw[if_neg oM];omega;have B:Fr [b,S] h2 h5:=F4.trans F5 F.wf (fun x hx=>.inl (by simp at hx;simp[hx])) (fun x hx=>.inl (by simp at hx;simp[hx]));exact F.trans B w (fun x hx=>by simp at hx) (fun x hx=>.inl hx)
theorem Moved.kmt{b S' n:Nat}{sl ol:List aX}{m:Nat->Option Nat}{c:Nat}(M:Moved sl ol ol.length)(Z:sl.length=n)(n8:8<=n)(nb:n<=20000)(ob:Own h' b [.slice S' 0 n n,ZZ (c:Int),ZZ 0])(tb:Tb h' (.slice S' 0 n n) S' sl)
 (oc:cnS 1 ol=c) (mp:∀k x:Nat,m k=some x↔∃i:Nat,ol[i]? =some (1,k,x)):KmT h' b S' (.slice S' 0 n n) sl m c 0:=by
 refine⟨ob,tb,M.op,oM,oM,by rw[M.c1,TZ];exact oc,M.c2,fun k x=>(mp k x).trans ⟨fun⟨i,hi⟩=>(M.mp k x).2 ⟨i,(Ss.1 hi).1,hi⟩,fun q=>?_⟩,M.kb⟩;let⟨j,_,hj⟩:=(M.mp k x).1 q;exact⟨j,hj⟩
theorem Bh{h:Heap}{b S x:Nat}{m:Nat->Option Nat}{c:Nat}{R:V->Heap->Prop}(w:WF h)(k:Km h b S m c)(hc:c<4096)(hk:key<18446744073709551616)(hx:x<4611686018427387904)(hm:m key=none)
 (g0:env.get 0=some (.ptr b 0)) (g1:env.get 1=some (ZX (key:Int))) (g2:env.get 2=some (ZZ (x:Int)))
 (K:∀h' S',(S'=S\/h.next<=S')->Km h' b S' (j7 m key x) (c+1)->Fr [b,S] h h'->R (ZZ 0) h'):W go Es env h (iO [.t 6] R):=by
 have ae:∀{h2:Heap}{Z:T V}{S':Nat}{v:V}{sl:List aX}{t:Nat},Fr [b] h h2->h.next<=S'->KmT h2 b S' v sl m c t->4*(c+t+1)<=3*sl.length->Z.get 0=some (.ptr b 0)->Z.get 1=some (ZX (key:Int))->Z.get 2=some (ZZ (x:Int))->W go HU Z h2 (iO [.t 6] R):=by
  intro h2 Z S' v sl t F hS k2 fill a0 a1 a2;refine Bg F.wf k2 hk hx hm fill a0 a1 a2 fun h' ac t' k' e1 e2 F'=>K h' S' (.inr hS) (.inr ⟨v,ac,t',k',oM⟩) ?_;exact F.trans F' w (fun x hx=>.inl (by simp at hx;simp[hx])) (fun x hx=>by
   simp at hx;obtain rfl|rfl:=hx;exact .inl iS;exact .inr hS)
 obtain⟨o,rfl,h1⟩|⟨v,sl,t,k,_⟩:=k;have l0:ab h b 0=some .nils:=o.ld1 0;have l1:ab h b 1=some (ZZ 0):=o.ld1 1;have l2:ab h b 2=some (ZZ 0):=o.ld1 2;simp(disch:=omega) only[evs,seval,DF,eff,ah,Es,g0,l0,l1,l2,(oM:¬(0:Int)=4096)];apply aa (xQ (S:=b) (q:=1) (c:=0) (ol:=[]) w o (.inl ⟨rfl,rfl⟩) rfl rfl iS iS rfl iS oM oM oM);rintro _ h2 ⟨rfl,n,S',sl,hS,sn,n8,nb,q2,ob,tb,M,F⟩;simp only[evs];exact ae F hS (M.kmt sn n8 nb ob tb rfl (fun k x=>by rw[h1];simp)) oM iX iX iX;have cb:=k.sum;have nb:=k.nb;have l0:ab h b 0=some v:=k.ob.ld1 0;have l1:ab h b 1=some (ZZ (c:Int)):=k.ob.ld1 1;have l2:ab h b 2=some (ZZ (t:Int)):=k.ob.ld1 2;have len:=k.tb.recs.len;have c0:¬(c:Int)=4096:=oM;by_cases hf:3*(sl.length:Int)<4*((c:Int)+(t:Int)+1);simp(disch:=omega) only[evs,seval,DF,eff,ah,Es,g0,l0,l1,l2,len,c0,eq_true hf];have o1:v.one=true:=by obtain rfl|rfl:=k.tb.1<;>rfl
 apply aa (xQ (S:=S) (q:=c+1) w k.ob (.inr ⟨k.tb,k.ne,k.tb.2.lt w⟩) o1 rfl nb k.op.uniq k.c1 k.kb oM oM oM);rintro _ h2 ⟨rfl,n,S',ac,hS,sn,n8,af,q2,ob,tb,M,F⟩;simp only[evs];exact ae F hS (M.kmt sn n8 af ob tb k.c1 k.mp) oM iX iX iX;simp(disch:=omega) only[evs,seval,DF,eff,ah,Es,g0,l0,l1,l2,len,c0,eq_false hf];refine Bg w k hk hx hm oM ?_ ?_ ?_ fun h' ac t' k' e1 e2 F'=>K h' S (.inl rfl) (.inr ⟨v,ac,t',k',oM⟩) F';simp[g0];simp[g1];simp[g2]
theorem Im{h:Heap}{b S x:Nat}{m:Nat->Option Nat}{c:Nat}(w:WF h)(k:Km h b S m c)(hc:c<4096\/(m key).isSome=true)(k0:0<key)(hk:key<18446744073709551616)(Z:x<4611686018427387904):
 ao go 168 [.ptr b 0,ZX (key:Int),ZZ (x:Int)] h fun u h'=>u=ZZ 0/\∃S',(S'=S\/h.next<=S')/\Km h' b S' (j7 m key x) (if(m key).isSome=true then c else c+1)/\Fr [b,S] h h':=by
 have kz:¬(key:Int)=0:=oM;have ac:=k;refine ag ?_;obtain⟨o,rfl,h1⟩|⟨v,sl,t,k,fill⟩:=k;have l0:ab h b 0=some .nils:=o.ld1 0;simp only[evs,seval,kz,l0,(oM:¬(0:Int)<0)];refine Bh w ac oM hk Z (h1 key) ?_ ?_ ?_ fun h' S' a b c=>?_;simp;simp;simp;rw[h1];exact⟨rfl,S',a,b,c⟩;have l0:ab h b 0=some v:=k.ob.ld1 0;have len:=k.tb.recs.len;have n8:=k.n8;have nb:=k.nb;simp only[evs,seval,kz,l0,len,eq_true (oM:(0:Int)<(sl.length:Int))];refine aa (nL w k.ob k.tb k.op oM hk) ?_;rintro _ h2 ⟨at',found,rfl,L,F⟩;cases found;have hm:m key=none:=by
  cases e:m key with
  |none=>rfl
  |some y=>let⟨i,K⟩:=(k.mp key y).1 e;exact absurd K ((L.no rfl).1 i y)
 rw[hm]at hc|-;simp only[evs,seval];refine Bh F.wf (ac.fr F) (eV hc) hk Z hm ?_ ?_ ?_ fun h' S' a b' c'=>⟨rfl,S',a.imp id (fun q=>SD F.next q),by simpa using b',F.trans c' w (fun x Z=>by simp at Z) (fun x Z=>.inl Z)⟩;simp;simp;simp;let⟨y,hy⟩:=L.yes rfl;have hm:=(k.mp key y).2 ⟨_,hy⟩;have k2:=k.fr F;have ix:=k2.tb.ix _ L.lt;have ne:=k2.ne;have ae:ab h2 b 0=some v:=k2.ob.ld1 0;rw[hm];simp only[evs,seval,ae,ix];apply ai (c':=(sl.set at' (1,key,x)).flatMap sc) F.wf k2.tb.2 rfl rfl (vq key y x sl at' hy);rintro h3 o3 F3 n3;simp only[evs,seval];have e1:=gE (c:=1) (x:=((1,key,x):aX)) hy;have e2:=gE (c:=2) (x:=((1,key,x):aX)) hy;simp at e1 e2;refine⟨S,.inl rfl,.inr ⟨v,sl.set at' (1,key,x),t,⟨F3.own b _ (eV ne) k2.ob,⟨by rw[Ta];exact k.tb.1,o3⟩,k.op.change hy x,by rw[Ta];exact n8,by rw[Ta];exact nb,by have:=k.c1;first|omega|(simp;omega),by have:=k.c2;omega,?_,jA k.kb ⟨hk,Z⟩⟩,by rw[Ta];first|exact fill|simpa using fill⟩,?_⟩
 intro k' x';unfold j7;constructor;intro e;by_cases ck:k'=key;rw[if_pos ck]at e;cases e;subst ck;exact⟨at',jv _ L.lt⟩;rw[if_neg ck]at e;let⟨i,K⟩:=(k.mp k' x').1 e;refine⟨i,?_⟩;rw[Tx];exact K;rintro rfl;rw[hy]at K;cases K;exact ck rfl;rintro⟨i,K⟩;obtain⟨_,e,_⟩|⟨ci,hj⟩:=fQ _ _ _ _ _ K;cases e;rw[if_pos rfl];have ck:k'≠key:=by rintro rfl;exact ci (k.op.uniq _ _ _ _ _ hj hy)
 rw[if_neg ck];exact(k.mp k' x').2 ⟨i,hj⟩;exact F.trans F3 w (fun x Z=>by simp at Z) (fun x Z=>.inl (by simp at Z;simp[Z]))
set_option maxRecDepth 4000
def TbC(e:Nat)(h:Heap)(v:V)(B:Nat)(C:List V)(N:Nat):Prop:=C.length=N*e/\((v=.nils/\N=0)\/(v=.slice B 0 N N/\Own h B C))
def Dst(e:Nat)(h:Heap)(B:Nat)(C:List V)(u:V)(o n:Nat):Prop:=o+n*e<=C.length/\((n=0/\(u=.nils\/∃b o c,u=.slice b o 0 c))\/∃cap,u=.slice B o n cap/\Own h B C)
variable {e : Nat} {h : Heap} {v u su : V} {B N : Nat} {C vs : List V}
theorem TbC.sl(a:TbC e h v B C N):Sl h e v N C:=by obtain⟨Z,⟨rfl,rfl⟩|⟨rfl,o⟩⟩:=a;exact⟨Z,rfl⟩;exact TH o Z
theorem TbC.one(a:TbC e h v B C N):v.one=true:=a.sl.one
theorem TbC.len(a:TbC e h v B C N):aP .lenS [v]=some (ZZ N):=a.sl.len
theorem TbC.fr{S:List Nat}(a:TbC e h v B C N)(f:Fr S h h')(K:B∉S):TbC e h' v B C N:=by obtain⟨Z,⟨rfl,rfl⟩|⟨rfl,o⟩⟩:=a;exact⟨Z,.inl ⟨rfl,rfl⟩⟩;exact⟨Z,.inr ⟨rfl,f.own _ _ K o⟩⟩
theorem Sl.ones{h:Heap}{e:Nat}{v:V}{n:Nat}{cs:List V}(a:Sl h e v n cs)(b:Sl h e v n vs):cs=vs:=by have:=a.srcCells.symm.trans b.srcCells;exact TW this
theorem TbC.part(a:TbC e h v B C N)(lo hi:Bool)(bs:List V)(l r:Nat)(hr:r<=N)(hl:l<=r)
 (K:aW N N lo hi false bs=some (l,r,none)) (he:0<e):
 ∃v',aP (.sl none e lo hi false) (v::bs)=some v'/\Sl h e v' (r-l) ((C.drop (l*e)).take ((r-l) *e))/\Dst e h B C v' (l*e) (r-l):=by
 have Z:l*e+(r-l) *e<=C.length:=by rw[a.1,<-Us];exact Ti _ oM
 obtain⟨ac,⟨rfl,rfl⟩|⟨rfl,o⟩⟩:=a;have h0:l=0:=oM;have h1:r=0:=oM;subst h0 h1;refine⟨.nils,by simp only[aP,dX,K,Sx],⟨iS,rfl⟩,⟨Z,.inl ⟨oM,.inl rfl⟩⟩⟩;refine⟨.slice B (bif Nat.beq N l then 0 else 0+l*e) (r-l) (N-l),by simp only[aP,dX,K,Sx,Vd],⟨by simp;omega,rfl,oM,C,o,?_⟩,Z,?_⟩;by_cases c:N=l;have h0:r-l=0:=oM;rw[kN c,h0];simp;rw[eP c];simp only[cond_false,Tj];exact⟨Z,trivial⟩;by_cases c:N=l;have h0:r-l=0:=oM;rw[kN c,h0];exact .inl ⟨rfl,.inr ⟨_,_,_,rfl⟩⟩;rw[eP c];simp only[cond_false,Tj];exact .inr ⟨_,rfl,o⟩
theorem TbC.from(a:TbC e h v B C N)(he:0<e)(k:IntKind)(i:Int)(l:Nat)(K:i=l)(Z:l<=N):
 ∃v',aP (.sl none e true false false) [v,.int k i]=some v'/\Sl h e v' (N-l) ((C.drop (l*e)).take ((N-l) *e))/\Dst e h B C v' (l*e) (N-l):=by
 subst K;exact a.part true false [.int k l] l N (RW _) Z (by simp only[aW,bS k l N oM oM,Sx,RX]) he
theorem TbC.upto(a:TbC e h v B C N)(he:0<e)(k:IntKind)(i:Int)(r:Nat)(K:i=r)(Z:r<=N):
 ∃v',aP (.sl none e false true false) [v,.int k i]=some v'/\Sl h e v' r (C.take (r*e)):=by
 subst K;let⟨v',a1,a2,_⟩:=a.part false true [.int k r] 0 r Z (Nat.zero_le _) (by simp only[aW,bS k r N oM oM,Sx,RX]) he;exact⟨v',a1,by simpa using a2⟩
theorem TbC.range(a:TbC e h v B C N)(K:0<e)(k k':IntKind)(i j:Int)(l r:Nat)(Z:i=l)(hj:j=r)(hr:r<=N)(hl:l<=r):
 ∃v',aP (.sl none e true true false) [v,.int k i,.int k' j]=some v'/\Sl h e v' (r-l) ((C.drop (l*e)).take ((r-l) *e))/\Dst e h B C v' (l*e) (r-l):=by
 subst Z hj;exact a.part true true [.int k l,.int k' r] l r hr hl (by
  simp only[aW,bS k' r N oM oM,SZ,RX,bS k l r oM oM,Sx]) K
theorem jF{o n m:Nat}{K:V->Heap->Prop}(he:0<e)(w:WF h)(d:Dst e h B C u o n)(s:Sl h e su m vs)(Z:au vs=true)(hm:m<=n)
 (t:TbC e h v B C N)
 (k:∀Z,TbC e Z v B (C.take o++vs++C.drop (o+m*e)) N->Fr [B] h Z->Z.next=h.next->K (ZZ (m:Int)) Z):OQ (mB h e u su) K:=by
 have hl:=s.1;have hd:gW u=some n:=by obtain⟨rfl,rfl|⟨_,_,_,rfl⟩⟩|⟨_,rfl,_⟩:=d.2<;>rfl
 have ht:(C.take o++vs++C.drop (o+m*e)).length=N*e:=by have:=d.1;have:=Ti e hm;rw[<-t.1];simp;omega
 unfold mB OQ;simp only[hd,s.srcLen,Nat.min_def];rw[if_pos hm];by_cases c:m=0;subst c;have:vs=[]:=SC.1 oM;subst this;refine⟨_,_,rfl,k h ?_ (Sn w) rfl⟩;simpa using t;rw[eP c];obtain⟨h0,_⟩|⟨cap,rfl,ow⟩:=d.2;omega;obtain⟨_,⟨rfl,rfl⟩|⟨rfl,_⟩⟩:=t;exfalso;have:=d.1;have:C.length=0:=oM;have:n*e=0:=oM;obtain z|z:=Nat.mul_eq_zero.1 this<;>omega
 let⟨h',e1,o1,f1,n1⟩:=gH w ow Z (bQ C o vs (by have:=d.1;have:=Ti e hm;omega));refine⟨_,h',?_,k h' ⟨ht,.inr ⟨rfl,?_⟩⟩ f1 n1⟩;simp only[cond_false,s.srcCells,e1,Sx];grind
theorem cP(z:List V)(n:Nat):(aU z n).length=n*z.length:=by
 induction n with
 |zero=>simp[fH]
 |succ n ih=>rw[eW,Sv,ih];rw[Uz];omega
theorem aL(a b:List V):au (a++b)=(au a&&au b):=by
 induction a with
 |nil=>simp[au]
 |cons x l ih=>rw[TS,av,av,ih,Bool.and_assoc]
theorem bL{a:List V}(n:Nat)(x:au a=true):au (a.take n)=true:=by rw[<-SB n a,aL]at x;exact(RU _ _▸x).1
theorem bq{a:List V}(n:Nat)(x:au a=true):au (a.drop n)=true:=by rw[<-SB n a,aL]at x;exact(RU _ _▸x).2
theorem Ai{z:List V}(n:Nat)(x:au z=true):au (aU z n)=true:=by
 induction n with
 |zero=>rfl
 |succ n ih=>rw[eW,aL,x,ih];rfl
theorem AJ{o n:Nat}{z:List V}{K:V->Heap->Prop}(w:WF h)(d:Dst e h B C u o n)(hz:z.length=e)(Z:au z=true)(t:TbC e h v B C N)
 (k:∀Z,TbC e Z v B (C.take o++aU z n++C.drop (o+n*e)) N->Fr [B] h Z->Z.next=h.next->K (.tup []) Z):OQ (AR h z u) K:=by
 have ht:(C.take o++aU z n++C.drop (o+n*e)).length=N*e:=by have:=d.1;rw[<-t.1];simp[cP,hz];omega
 unfold AR OQ;obtain⟨rfl,q⟩|⟨cap,rfl,ow⟩:=d.2;have:K (.tup []) h:=k h (by simpa[fH]using t) (Sn w) rfl;obtain rfl|⟨_,_,_,rfl⟩:=q;grind;exact⟨_,_,rfl,this⟩;by_cases c:n=0;subst c;exact⟨_,_,rfl,k h (by simpa[fH]using t) (Sn w) rfl⟩;let⟨h',e1,o1,f1,n1⟩:=gH w ow (Ai n Z) (bQ C o (aU z n) (by rw[cP,hz];exact d.1));refine⟨_,h',?_,k h' ⟨ht,?_⟩ f1 n1⟩;simp only[eP c,cond_false,e1,Sx];obtain⟨hl,⟨rfl,rfl⟩|⟨rfl,_⟩⟩:=t;grind;rw[cP,hz]at o1;exact .inr ⟨rfl,o1⟩
abbrev Z4:List V:=[ZX 0,ZY 0,.str [],.nils]
def NoI(l:List V):Prop:=∀x∈l,∀n:Int,x≠ ZZ n
theorem NoI.sub{a b:List V}(h:NoI b)(s:∀x∈a,x∈b):NoI a:=fun x m=>h x (s x m)
theorem NoI.app{a b:List V}(h:NoI a)(g:NoI b):NoI (a++b):=fun x m=>(pi.1 m).elim (h x) (g x)
structure GpT(h:Heap)(b B:Nat)(v:V)(c1 G c2:List V)(a g m:Nat):Prop where
 ob:Own h b [v,ZZ (a:Int),ZZ (g:Int)]
 tb:TbC 4 h v B (c1++G++c2) (a+g+m)
 l1:c1.length=a*4
 lg:G.length=g*4
 l2:c2.length=m*4
 o1:au c1=true
 o2:au c2=true
 ne:B≠b
 nb:a+g+m<=8208
 am:a+m<=4096
 n6:NoI (c1++G++c2)
def Gp(h:Heap)(b B:Nat)(n:Nat)(l:List V):Prop:=∃v c1 G c2 a g m,GpT h b B v c1 G c2 a g m/\l=c1++c2/\n=a+m
variable {h : Heap} {b B : Nat} {v : V} {c1 G c2 : List V} {a g m : Nat}
theorem GpT.fr(k:GpT h b B v c1 G c2 a g m){S:List Nat}(f:Fr S h h')(hb:b∉S)(hB:B∉S):GpT h' b B v c1 G c2 a g m:=
 ⟨f.own _ _ hb k.ob,k.tb.fr f hB,k.l1,k.lg,k.l2,k.o1,k.o2,k.ne,k.nb,k.am,k.n6⟩
theorem Gp.fr{n:Nat}{l:List V}(k:Gp h b B n l){S:List Nat}(f:Fr S h h')(Z:b∉S)(K:B∉S):Gp h' b B n l:=by let⟨v,c1,G,c2,a,g,m,k,e⟩:=k;exact⟨v,c1,G,c2,a,g,m,k.fr f Z K,e⟩
theorem Gp.len{n:Nat}{l:List V}(k:Gp h b B n l):l.length=n*4/\n<=4096/\au l=true:=by obtain⟨v,c1,G,c2,a,g,m,k,rfl,rfl⟩:=k;have:=k.l1;have:=k.l2;have:=k.am;exact⟨by simp;omega,oM,by rw[aL,k.o1,k.o2];rfl⟩
theorem dk(k:GpT h b B v c1 G c2 a g m):ao go 52 [.ptr b 0] h fun u h'=>u=ZZ ((a+m:Nat):Int)/\h=h':=by have Z:=k.ob.ld1 0;have l2:=k.ob.ld1 2;have nb:=k.nb;simp only[bR,cQ]at Z l2;refine ag ?_;simp(disch:=omega) only[evs,seval,DF,eff,ah,Z,l2,k.tb.len];congr 1;omega
def wX(n:Nat)(at' k:Int):Int:=if at'<0\/k<0\/(n:Int)<at'\/(n:Int)-at'<k then 4 else 0
theorem d9(k:GpT h b B v c1 G c2 a g m)(i n:Int):ao go 137 [.ptr b 0,ZZ i,ZZ n] h fun u h'=>u=ZZ (wX (a+m) i n)/\h=h':=by unfold wX;by_cases x1:i<0;refine ag ?_;simp only[evs,seval,x1];simp;by_cases x2:n<0;refine ag ?_;simp only[evs,seval,x1,x2];simp;have am:=k.am;by_cases x3:((a+m:Nat):Int)<i;refine ag ?_;simp only[evs,seval,x1,x2];refine aa (dk k) ?_;rintro _ _ ⟨rfl,rfl⟩;simp only[evs,seval,x3];simp;by_cases x4:((a+m:Nat):Int)-i<n;refine ag ?_;simp only[evs,seval,x1,x2];refine aa (dk k) ?_;rintro _ _ ⟨rfl,rfl⟩;simp only[evs,seval,x3];refine aa (dk k) ?_;rintro _ _ ⟨rfl,rfl⟩;simp(disch:=omega) only[evs,seval,ah,x4];simp;refine ag ?_;simp only[evs,seval,x1,x2];refine aa (dk k) ?_;rintro _ _ ⟨rfl,rfl⟩;simp only[evs,seval,x3];apply aa (dk k);rintro _ _ ⟨rfl,rfl⟩;simp(disch:=omega) only[evs,seval,ah,x4];simp
theorem rS(k:GpT h b B v c1 G c2 a g m)(i:Nat)(Z:i<=4096):ao go 138 [.ptr b 0,ZZ (i:Int)] h fun u h'=>u=ZZ ((if a<=i then i+g else i:Nat):Int)/\h=h':=by have l1:=k.ob.ld1 1;have l2:=k.ob.ld1 2;have nb:=k.nb;simp only[bR,cQ]at l1 l2;by_cases c:a<=i;refine ag ?_;simp(disch:=omega) only[evs,seval,ah,l1,l2,(oM:(a:Int)<=(i:Int))];rw[if_pos c];simp;refine ag ?_;simp only[evs,seval,l1,(oM:¬(a:Int)<=(i:Int))];rw[if_neg c]
theorem BB{n i:Nat}(h:i<n):wX n i 1=0:=by unfold wX;rw[if_neg];omega
theorem JU(c1 G c2:List α)(a g i k:Nat)(l1:c1.length=a*k)(lg:G.length=g*k):
 ((c1++G++c2).drop ((if a<=i then i+g else i) *k)).take k=((c1++c2).drop (i*k)).take k:=by
 by_cases c:a<=i;rw[if_pos c];obtain⟨j,rfl⟩:∃j,i=a+j:=⟨i-a,oM⟩;have K:(a+j+g) *k=(c1++G).length+j*k:=by grind
 have Z:(a+j) *k=c1.length+j*k:=by rw[l1,Us]
 rw[K,Z,Tg,Tg];rw[if_neg c];have e:i*k+k<=c1.length:=by rw[l1,<-Uz];exact Ti _ oM
 rw[SM,Tk oM,SK oO,Tk oM,SK oO]
theorem GpT.at'(k:GpT h b B v c1 G c2 a g m){i:Nat}(K:i<a+m):
 aP (.ixs 4) [v,ZZ ((if a<=i then i+g else i:Nat):Int)]=some (.ptr B ((if a<=i then i+g else i) *4))/\aj h B ((if a<=i then i+g else i) *4) 4=some (((c1++c2).drop (i*4)).take 4):=by
 have hp:(if a<=i then i+g else i)<a+g+m:=by split<;>omega
 obtain⟨Z,⟨rfl,z⟩|⟨rfl,o⟩⟩:=k.tb;omega;refine⟨?_,?_⟩;rw[gw _ _ _ _ _ _ _ oM oM];simp;rw[o.ld,bM,bK,JU c1 G c2 a g i 4 k.l1 k.lg];simp only[Vh,Z];omega
theorem LI{l:List V}{n i:Nat}(hl:l.length=n*4)(hi:i<n)(K:au l=true):∃x y z u,(l.drop (i*4)).take 4=[x,y,z,u]/\au [x,y,z,u]=true:=by
 have e:((l.drop (i*4)).take 4).length=4:=by simp;omega
 have Z:=bL 4 (bq (i*4) K);match q:(l.drop (i*4)).take 4,e with
 |[x,y,z,u],_=>exact⟨x,y,z,u,rfl,by rw[q]at Z;exact Z⟩
theorem GpT.tot(k:GpT h b B v c1 G c2 a g m):(c1++c2).length=(a+m) *4/\au (c1++c2)=true:=by have:=k.l1;have:=k.l2;exact⟨by simp;omega,by rw[aL,k.o1,k.o2];rfl⟩
theorem Aw(w:WF h)(k:GpT h b B v c1 G c2 a g m){i:Nat}(hi:i<a+m):ao go 70 [.ptr b 0,ZZ (i:Int)] h fun u h'=>Fr [] h h'/\u=.tup [.agg (((c1++c2).drop (i*4)).take 4),ZZ 0]:=by
 have am:=k.am;let⟨x,y,z,u,ec,eo⟩:=LI k.tot.1 hi k.tot.2;let⟨h1,e_h1,F_h1,o_h1⟩:=aq w [ZX 0,ZY 0,.str [],.nils];have Z:=k.fr F_h1 iS iS;refine ag ?_;simp only[evs,seval,<-e_h1];refine aa (d9 Z i 1) ?_;rintro _ _ ⟨rfl,rfl⟩;simp only[evs,seval,eff,BB hi];have l0:=Z.ob.ld1 0;simp only[bR]at l0;have nh:h.next≠b:=by have:=k.ob.lt w;omega
 simp only[evs,seval,eff,l0];apply aa (rS Z i oM);rintro _ _ ⟨rfl,rfl⟩;have⟨a1,K⟩:=Z.at' hi;rw[ec]at K;simp only[evs,seval,eff,a1,K];refine ai F_h1.wf o_h1 rfl eo rfl ?_;rintro h2 o2 F2 n2;have ac:ab h2 b 0=some v:=(F2.own b _ oO Z.ob).ld1 0;have ae:aj h2 B ((if a<=i then i+g else i) *4) 4=some [x,y,z,u]:=by
  obtain⟨hl,⟨rfl,z⟩|⟨rfl,o⟩⟩:=Z.tb;omega;have ne:B≠h.next:=by obtain⟨_,⟨q,_⟩|⟨_,q⟩⟩:=k.tb;cases q;have:=q.lt w;omega
  have o':=F2.own B _ (eV ne) o;rw[o.ld]at K;rw[o'.ld];exact K
 simp only[evs,seval,DF,eff,l0,K,o2.ld];exact⟨F_h1.fresh F2 w (RW _),by rw[ec]⟩
variable {h : Heap} {b B : Nat} {v : V} {c1 G c2 : List V} {a g m : Nat}
theorem Ioa{c1 G c2:List α}{p g a:Nat}(l1:c1.length=a*4)(lg:G.length=g*4)(hp:p<=a)(Z:List α)
 (e:Z=(c1++G++c2).take ((p+g) *4)++((c1++G++c2).drop (p*4)).take ((a-p) *4)++(c1++G++c2).drop ((p+g) *4+(a-p) *4)):
 Z.take (p*4)=c1.take (p*4)/\Z.drop (p*4+g*4)=c1.drop (p*4)++c2:=by
 have hl:(p+g) *4<=(c1++G++c2).length:=by simp;omega
 have h1:((c1++G++c2).take ((p+g) *4)).length=p*4+g*4:=by grind
 have h2:((c1++G++c2).drop (p*4)).take ((a-p) *4)=c1.drop (p*4):=by rw[SM,Tk oM,SK oO];exact Sf oO
 have K:(c1++G++c2).drop ((p+g) *4+(a-p) *4)=c2:=by rw[(oO:(p+g) *4+(a-p) *4=(c1++G).length)];exact Un
 subst e;rw[h2,K];refine⟨?_,?_⟩;grind;grind
theorem IN{c1 G c2:List α}{p g a m:Nat}(l1:c1.length=a*4)(lg:G.length=g*4)(l2:c2.length=m*4)(hp:a<=p)(hm:p<=a+m)(Z:List α)
 (e:Z=(c1++G++c2).take (a*4)++((c1++G++c2).drop ((a+g) *4)).take ((p+g-(a+g)) *4)++(c1++G++c2).drop (a*4+(p+g-(a+g)) *4)):
 Z.take (p*4)=c1++c2.take ((p-a) *4)/\Z.drop (p*4+g*4)=c2.drop ((p-a) *4):=by
 have h1:(c1++G++c2).take (a*4)=c1:=by grind
 have h2:((c1++G++c2).drop ((a+g) *4)).take ((p+g-(a+g)) *4)=c2.take ((p-a) *4):=by rw[(oO:(a+g) *4=(c1++G).length),Un,(oM:p+g-(a+g)=p-a)]
 have h3:(c1++c2.take ((p-a) *4)).length=p*4:=by simp;omega
 have K:p+g-(a+g)=p-a:=oM;subst e;rw[h1,h2];refine⟨?_,?_⟩;grind;rw[(oM:p*4+g*4=(c1++c2.take ((p-a) *4)).length+g*4),Tg,Tl,K,(oO:a*4+(p-a) *4+g*4=(c1++G).length+(p-a) *4),Tg]
theorem NoI.rep{z:List V}(h:NoI z):∀n,NoI (aU z n)
 |0=>by rw[fH];intro x m;simp at m
 |n+1=>by rw[eW];exact h.app (NoI.rep h n)
theorem NoI.z4:NoI Z4:=by intro x m n;simp at m;obtain rfl|rfl|rfl|rfl:=m<;>simp
theorem zF(w:WF h)(k:GpT h b B v c1 G c2 a g m){p:Nat}(hp:p<=a+m):ao go 165 [.ptr b 0,ZZ (p:Int)] h fun u h'=>u=.tup []/\
 GpT h' b B v ((c1++c2).take (p*4)) (aU Z4 g) ((c1++c2).drop (p*4)) p g (a+m-p)/\Fr [b,B] h h':=by
 have l0:ab h b 0=some v:=k.ob.ld1 0;have l1:ab h b 1=some (ZZ (a:Int)):=k.ob.ld1 1;have l2:ab h b 2=some (ZZ (g:Int)):=k.ob.ld1 2;have nb:=k.nb;have am:=k.am;have tot:=k.tot;have ak:NoI (c1++c2):=k.n6.sub fun x m=>by simp at m|-;obtain m|m:=m<;>simp[m]
 have tl:=k.l1;have tg:=k.lg;have ar:=k.l2;by_cases c:p<a;let⟨u1,e1,s1,d1⟩:=k.tb.from oM .i64 ((p:Int)+g) (p+g) oM oM;let⟨u2,e2,s2,d2⟩:=k.tb.range oM .i64 .i64 p a p a rfl rfl oM oM;have⟨af,ac⟩:=Ioa (c2:=c2) k.l1 k.lg (Nat.le_of_lt c) _ rfl;have z1:(c1++c2).take (p*4)=c1.take (p*4):=SK oM;have z2:(c1++c2).drop (p*4)=c1.drop (p*4)++c2:=Tk oM;rw[<-z1]at af;rw[<-z2]at ac;refine ag ?_;simp(disch:=omega) only[evs,seval,eff,ah,l0,l1,l2,e1,e2,(oM:(p:Int)<(a:Int))];refine jF oM w d1 s2 ?_ oM k.tb ?_;rw[SM,Tk oM,SK oO];exact bL _ (bq _ k.o1);rintro h1 t1 F1 n1;have ae:=F1.own b _ (eV k.ne.symm) k.ob;have an:ab h1 b 0=some v:=ae.ld1 0;simp only[evs,seval,DF,l0,l1,l2];apply stu F1.wf ae;rintro h2 o2 F2 n2;have t2:=t1.fr F2 (eV k.ne);have Z:ab h2 b 0=some v:=o2.ld1 0;have K:ab h2 b 2=some (ZZ (g:Int)):=o2.ld1 2;let⟨u3,e3,s3,d3⟩:=t2.range oM .i64 .i64 p ((p:Int)+g) p (p+g) rfl oM oM oM;simp(disch:=omega) only[evs,seval,eff,ah,Z,K,e3];apply AJ F2.wf d3 rfl rfl t2;rintro h3 t3 F3 n3;rw[(oM:p+g-p=g),af,ac]at t3;simp only[evs,seval,DF,Z,K];refine⟨⟨F3.own b _ (eV k.ne.symm) o2,?_,by simp;omega,cP _ _,by simp;omega,bL _ tot.2,bq _ tot.2,k.ne,oM,oM,((ak.sub fun x m=>Tw m).app (NoI.rep NoI.z4 g)).app (ak.sub fun x m=>Tc m)⟩,?_⟩;grind;refine Sj (T:=[b,B]) (Sj (T:=[b,B]) F1 F2 w ?_ ?_) F3 w ?_ ?_<;>intro x hx<;>simp at hx|- <;>omega
 let⟨u1,e1,s1,d1⟩:=k.tb.from oM .i64 (a:Int) a rfl oM;let⟨u2,e2,s2,d2⟩:=k.tb.range oM .i64 .i64 ((a:Int)+g) ((p:Int)+g) (a+g) (p+g) oM oM oM oM;have⟨af,ac⟩:=IN k.l1 k.lg k.l2 (Nat.le_of_not_lt c) hp _ rfl;have z1:(c1++c2).take (p*4)=c1++c2.take ((p-a) *4):=by rw[(oM:p*4=c1.length+(p-a) *4),UV]
 have z2:(c1++c2).drop (p*4)=c2.drop ((p-a) *4):=by rw[(oM:p*4=c1.length+(p-a) *4),Tg]
 rw[<-z1]at af;rw[<-z2]at ac;refine ag ?_;simp(disch:=omega) only[evs,seval,eff,ah,l0,l1,l2,e1,e2,(oM:¬(p:Int)<(a:Int))];refine jF oM w d1 s2 ?_ oM k.tb ?_;rw[(oO:(a+g) *4=(c1++G).length),Un];exact bL _ k.o2;rintro h1 t1 F1 n1;have ae:=F1.own b _ (eV k.ne.symm) k.ob;have an:ab h1 b 0=some v:=ae.ld1 0;simp only[evs,seval,DF,l0,l1,l2];apply stu F1.wf ae;rintro h2 o2 F2 n2;have t2:=t1.fr F2 (eV k.ne);have Z:ab h2 b 0=some v:=o2.ld1 0;have K:ab h2 b 2=some (ZZ (g:Int)):=o2.ld1 2;let⟨u3,e3,s3,d3⟩:=t2.range oM .i64 .i64 p ((p:Int)+g) p (p+g) rfl oM oM oM;simp(disch:=omega) only[evs,seval,eff,ah,Z,K,e3];apply AJ F2.wf d3 rfl rfl t2;rintro h3 t3 F3 n3;rw[(oM:p+g-p=g),af,ac]at t3;simp only[evs,seval,DF,Z,K];refine⟨⟨F3.own b _ (eV k.ne.symm) o2,?_,by simp;omega,cP _ _,by simp;omega,bL _ tot.2,bq _ tot.2,k.ne,oM,oM,((ak.sub fun x m=>Tw m).app (NoI.rep NoI.z4 g)).app (ak.sub fun x m=>Tc m)⟩,?_⟩;rw[(oM:p+g+(a+m-p)=a+g+m)];exact t3;refine Sj (T:=[b,B]) (Sj (T:=[b,B]) F1 F2 w ?_ ?_) F3 w ?_ ?_<;>intro x hx<;>simp at hx|- <;>omega
variable {h : Heap} {b B : Nat} {v : V} {c1 G c2 : List V} {a g m : Nat}
theorem JT{c1 c2 Z:List α}{a g m:Nat}(l1:c1.length=a*4)(l2:c2.length=m*4)(lz:Z.length=(a+m+g) *4):
 (Z.take 0++c1++Z.drop (0+a*4)).take ((a+g) *4)++c2++(Z.take 0++c1++Z.drop (0+a*4)).drop ((a+g) *4+m*4)=c1++(Z.drop (a*4)).take (g*4)++c2:=by
 simp only[Vy,TO,Tj];have K:(c1++Z.drop (a*4)).length=(a+g) *4+m*4:=by simp;omega
 rw[<-K,Ua,Tq,(oM:(a+g) *4=c1.length+g*4),UV]
theorem TbC.fr'{e:Nat}{h:Heap}{v:V}{B N:Nat}{C:List V}{S:List Nat}(a:TbC e h v B C N)(f:Fr S h h')(K:v=.nils\/B∉S):TbC e h' v B C N:=by obtain⟨Z,⟨rfl,rfl⟩|⟨rfl,o⟩⟩:=a;exact⟨Z,.inl ⟨rfl,rfl⟩⟩;obtain q|q:=K;cases q;exact⟨Z,.inr ⟨rfl,f.own _ _ q o⟩⟩
theorem CB(w:WF h)(k:GpT h b B v c1 G c2 a g m){n:Nat}(hn:a+m+n<=4096):ao go 166 [.ptr b 0,ZZ (n:Int)] h fun u h'=>u=.tup []/\
 ∃B' v' G' g',(B'=B\/h.next<=B')/\GpT h' b B' v' c1 G' c2 a g' m/\n<=g'/\Fr [b] h h':=by
 have l0:ab h b 0=some v:=k.ob.ld1 0;have l1:ab h b 1=some (ZZ (a:Int)):=k.ob.ld1 1;have l2:ab h b 2=some (ZZ (g:Int)):=k.ob.ld1 2;have nb:=k.nb;have am:=k.am;have blt:=k.ob.lt w;by_cases c:n<=g;refine ag ?_;simp only[evs,seval,l2,(oM:(n:Int)<=(g:Int))];exact⟨B,v,G,g,.inl rfl,k,c,Sn w⟩;have hq:(a+g+m)/2<=4104:=oM;have q:aP (.ib .quo) [ZZ ((a+g+m:Nat):Int),ZZ 2]=some (ZZ (((a+g+m)/2:Nat):Int)):=by rw[pZ _ _ _ dI,(iR:(((a+g+m:Nat):Int)).tdiv 2=(((a+g+m)/2:Nat):Int)),ah _ oM oM]
 generalize(a+g+m)/2=d at q hq;refine ag ?_;simp(disch:=omega) only[evs,seval,ah,l0,l2,(oM:¬(n:Int)<=(g:Int)),k.tb.len,q];refine aa (dk k) ?_;rintro _ _ ⟨rfl,rfl⟩;simp(disch:=omega) only[evs,seval,ah];rw[(oM:((a+m:Nat):Int)+(↑n+ ↑d+8)=((a+m+(n+d+8):Nat):Int))];refine(de _ _ _ _ _ _ _ _ oM oM oM oM).2 ?_;simp only[RX];have ln:(aU Z4 (a+m+(n+d+8))).length=(a+m+(n+d+8)) *4:=cP _ _;obtain⟨h1,K⟩:∃h1,h1=halloc h (aU [ZX 0,ZY 0,.str [],.nils] (a+m+(n+d+8))):=⟨_,rfl⟩;have ae:Fr [] h h1:=K▸SO w _;have ac:Own h1 h.next (aU Z4 (a+m+(n+d+8))):=K▸Ts w _;rw[<-K];clear K;have nz:NoI (aU Z4 (a+m+(n+d+8))):=NoI.rep NoI.z4 _;generalize aU Z4 (a+m+(n+d+8))=Z at ln ac nz;have k1:=k.fr ae iS iS;have l0:ab h1 b 0=some v:=k1.ob.ld1 0;have l1:ab h1 b 1=some (ZZ (a:Int)):=k1.ob.ld1 1;have l2:ab h1 b 2=some (ZZ (g:Int)):=k1.ob.ld1 2;have tz:TbC 4 h1 (.slice h.next 0 (a+m+(n+d+8)) (a+m+(n+d+8))) h.next Z (a+m+(n+d+8)):=⟨ln,.inr ⟨rfl,ac⟩⟩;have nB:v=.nils\/B≠h.next:=by obtain⟨_,⟨q,_⟩|⟨_,q⟩⟩:=k.tb;exact .inl q;right;have:=q.lt w;omega
 let⟨u2,e2,s2⟩:=k1.tb.upto oM .i64 (a:Int) a rfl oM;rw[SM,<-k.l1,UB]at s2;have d1:Dst 4 h1 h.next Z (.slice h.next 0 (a+m+(n+d+8)) (a+m+(n+d+8))) 0 (a+m+(n+d+8)):=⟨oM,.inr ⟨_,rfl,ac⟩⟩;simp only[evs,seval,eff,l0,l1,e2];apply jF oM ae.wf d1 s2 k.o1 oM tz;rintro h2 t2 F2 n2;have af:=F2.own b _ oO k1.ob;have aH:TbC 4 h2 v B (c1++G++c2) (a+g+m):=k1.tb.fr' F2 (nB.imp id iS);let⟨u3,e3,s3,_⟩:=aH.from oM .i64 ((a:Int)+g) (a+g) oM oM;let⟨u4,e4,_,d4⟩:=t2.from oM .i64 ((a:Int)+(n+d+8)) (a+(n+d+8)) oM oM;have az:Sl h2 4 u3 m c2:=by rw[(oM:a+g+m-(a+g)=m),show(a+g) *4=(c1++G).length by simp[k.l1,k.lg];omega,Un]at s3;rwa[Sf (by rw[k.l2];omega)]at s3
 have ar:ab h2 b 0=some v:=af.ld1 0;have ak:ab h2 b 1=some (ZZ (a:Int)):=af.ld1 1;have an:ab h2 b 2=some (ZZ (g:Int)):=af.ld1 2;simp(disch:=omega) only[evs,seval,DF,eff,ah,l0,l1,ar,ak,an,e3,e4];apply jF oM F2.wf d4 az k.o2 oM t2;rintro h3 t3 F3 n3;rw[JT k.l1 k.l2 (by rw[ln])]at t3;have ax:=F3.own b _ oO af;have a1:ab h3 b 0=some v:=ax.ld1 0;simp only[evs,seval,DF,ar,ak,an];apply stu F3.wf ax;rintro h4 a0 F4 n4;simp only[evs,seval];apply stu F4.wf a0;rintro h5 ay F5 n5;simp only[evs];refine⟨h.next,.slice h.next 0 (a+m+(n+d+8)) (a+m+(n+d+8)),(Z.drop (a*4)).take ((n+d+8) *4),n+d+8,.inr (RW _),⟨ay,?_,k.l1,?_,k.l2,k.o1,k.o2,oM,oM,oM,((k.n6.sub fun x m=>by simp[m]).app (nz.sub fun x m=>Tc (Tw m))).app (k.n6.sub fun x m=>by simp[m])⟩,oM,?_⟩;have t5:=(t3.fr F4 oO).fr F5 oO;rw[(oM:a+m+(n+d+8)=a+(n+d+8)+m)]at t5|-;exact t5;simp[ln];omega;have f1:Fr [h.next] h h2:=Sj ae F2 w iS iS;have f2:Fr [h.next] h h3:=Sj f1 F3 w iS iS;have f3:Fr [b] h h3:=⟨f2.next,f2.wf,fun x c hx o=>f2.own x c (by have:=o.lt w;simp;omega) o,fun x c hx o=>f2.pl x c (by have:=o.own.lt w;simp;omega) o,f2.lp,f2.ro⟩;exact Sj (Sj f3 F4 w (fun x hx=>.inl hx) (fun x hx=>.inl hx)) F5 w (fun x hx=>.inl hx) (fun x hx=>.inl hx)
variable {h : Heap} {b B : Nat}
theorem BC{n p:Nat}(h:p<=n):wX n p 0=0:=by unfold wX;rw[if_neg];omega
theorem Mg{c1 G c2 xs:List α}{p q:Nat}(l1:c1.length=p*4)(Z:xs.length=q*4)(lg:q*4<=G.length):
 (c1++G++c2).take (p*4)++xs++(c1++G++c2).drop (p*4+q*4)=(c1++xs)++G.drop (q*4)++c2:=by
 rw[<-l1,SM c1 G c2,UB,Tg,Tk lg];simp
theorem mY{n q p:Nat}{l xs:List V}{u:V}(w:WF h)(k:Gp h b B n l)(s:∀h',Fr [b,B] h h'->Sl h' 4 u q xs)(ox:au xs=true)(nx:NoI xs)(hp:p<=n)(hq:n+q<=4096):
 ao go 91 [.ptr b 0,ZZ (p:Int),u] h fun z h'=>z=ZZ 0/\∃B',(B'=B\/h.next<=B')/\Gp h' b B' (n+q) (l.take (p*4)++xs++l.drop (p*4))/\Fr [b,B] h h':=by
 obtain⟨v,c1,G,c2,a,g,m,k,rfl,rfl⟩:=k;have s0:=s h (Sn w);have lx:=s0.1;have am:=k.am;by_cases c0:q=0;subst c0;refine ag ?_;simp only[evs,↓reduceIte,Nat.reduceEqDiff,Nat.reduceAdd];refine aa (d9 k (p:Int) 0) ?_;rintro _ _ ⟨rfl,rfl⟩;simp only[evs,↓reduceIte,Nat.reduceEqDiff,BC hp,s0.len];apply aa (dk k);rintro _ _ ⟨rfl,rfl⟩;simp(disch:=omega) only[evs,↓reduceIte,Nat.reduceEqDiff,ah,(oM:¬(4096-((a+m:Nat):Int)<((0:Nat):Int))),s0.len,(iS:(((0:Nat):Int)=0)=True)];have Z:xs=[]:=SC.1 oM;subst Z;refine⟨B,.inl rfl,⟨v,c1,G,c2,a,g,m,k,iS,oM⟩,Sn w⟩;have nh:4096-((a+m:Nat):Int)<(q:Int)↔False:=by simp;omega
 have nz:(q:Int)=0↔False:=by simp;omega
 have sl:=s0.len;refine ag ?_;simp only[evs,↓reduceIte,Nat.reduceEqDiff,Nat.reduceAdd];refine aa (d9 k (p:Int) 0) ?_;rintro _ _ ⟨rfl,rfl⟩;simp only[evs,↓reduceIte,Nat.reduceEqDiff,BC hp,sl];apply aa (dk k);rintro _ _ ⟨rfl,rfl⟩;simp(disch:=omega) only[evs,↓reduceIte,Nat.reduceEqDiff,ah,nh,sl,nz];apply aa (zF w k hp);rintro _ h1 ⟨rfl,k1,F1⟩;simp only[evs,↓reduceIte,Nat.reduceEqDiff,sl];apply aa (CB F1.wf k1 (n:=q) oM);rintro _ h2 ⟨rfl,B',v',G',g',hB,K,hg,F2⟩;have ac:Fr [b,B] h h2:=Sj F1 F2 w (fun x Z=>.inl Z) (fun x Z=>.inl (by simp at Z;simp[Z]));have s2:=s h2 ac;have l0:ab h2 b 0=some v':=K.ob.ld1 0;have l1:ab h2 b 1=some (ZZ (p:Int)):=K.ob.ld1 1;have ar:=K.nb;let⟨u1,e1,_,d1⟩:=K.tb.from oM .i64 (p:Int) p rfl oM;simp only[evs,↓reduceIte,Nat.reduceEqDiff,eff,l0,l1,e1];apply jF oM F2.wf d1 s2 ox oM K.tb;rintro h3 t3 F3 n3;rw[Mg K.l1 lx (by rw[K.lg];omega)]at t3;have af:=F3.own b _ (eV K.ne.symm) K.ob;have an:ab h3 b 1=some (ZZ (p:Int)):=af.ld1 1;simp(disch:=omega) only[evs,eff,ah];apply stu F3.wf af;rintro h4 ae F4 n4;have l2:ab h4 b 2=some (ZZ (g':Int)):=ae.ld1 2;simp(disch:=omega) only[evs,↓reduceIte,Nat.reduceEqDiff,Nat.reduceAdd,DF,Nat.reduceSub,ah,l0,l1,an,l2,sl];refine ai (c':=[v',ZZ ((p+q:Nat):Int),ZZ ((g'-q:Nat):Int)]) F4.wf ae rfl rfl (by rw[(oM:((g'-q:Nat):Int)=(g':Int)-q)];rfl) ?_;rintro h5 ak F5 n5;simp only[evs,↓reduceIte];have ne:=K.ne;have tl:=K.l1;have tg:=K.lg;have t2:=K.l2;refine⟨B',hB.imp id (fun q=>SD F1.next q),⟨v',(c1++c2).take (p*4)++xs,G'.drop (q*4),(c1++c2).drop (p*4),p+q,g'-q,a+m-p,⟨ak,?_,?_,?_,t2,?_,K.o2,ne,oM,oM,((NoI.app (K.n6.sub fun x m=>by simp[m]) nx).app (K.n6.sub fun x m=>by simp[Tc m])).app (K.n6.sub fun x m=>by simp[m])⟩,iS,oM⟩,?_⟩;exact(oM:p+g'+(a+m-p)=p+q+(g'-q)+(a+m-p))▸(t3.fr F4 (eV ne)).fr F5 (eV ne);rw[Sv];omega;rw[Vh];omega;rw[aL,K.o1,ox];rfl;have f3:Fr [b,B] h h3:=Sj ac F3 w (fun x Z=>.inl Z) (fun x Z=>by
  simp at Z;subst Z;obtain rfl|hB:=hB;exact .inl iS;exact .inr (SD F1.next hB))
 exact Sj (Sj f3 F4 w (fun x Z=>.inl Z) (fun x Z=>.inl (by simp at Z;simp[Z]))) F5 w (fun x Z=>.inl Z) (fun x Z=>.inl (by simp at Z;simp[Z]))
theorem Fr.new{h h1 h2:Heap}{S:List Nat}(w:WF h)(f1:Fr [] h h1)(f2:Fr S h1 h2)(hs:∀x∈S,h.next<=x):Fr [] h h2:=
 Sj f1 f2 w (fun x hx=>.inl hx) (fun x hx=>.inr (hs x hx))
theorem Iv{q:Nat}{xs:List V}{u:V}(w:WF h)(s:Sl h 4 u q xs)(ox:au xs=true)(nx:NoI xs)(hq:q<=4096):
 ao go 39 [u] h fun z h'=>∃b B,z=.tup [.ptr b 0,ZZ 0]/\h.next<=b/\h.next<=B/\Gp h' b B q xs/\Fr [] h h':=by
 let⟨K,e_h1,Z,o_h1⟩:=aq w [.nils,ZZ 0,ZZ 0];refine ag ?_;simp only[evs,seval,<-e_h1];have k1:Gp K h.next (h.next+1) 0 []:=⟨.nils,[],[],[],0,0,0,⟨o_h1,⟨rfl,.inl ⟨rfl,rfl⟩⟩,rfl,rfl,rfl,rfl,rfl,oM,oM,oM,fun x m=>by simp at m⟩,rfl,rfl⟩;have st:∀h',Fr [h.next,h.next+1] K h'->Sl h' 4 u q xs:=fun h' f=>s.fr (Fr.new w Z f iS);refine aa (mY (p:=0) Z.wf k1 st ox nx oM oM) ?_;rintro _ h2 ⟨rfl,B',hB,k2,F2⟩;simp only[evs,seval];have hn:=hnx e_h1;refine⟨h.next,B',rfl,RW _,oM,?_,Fr.new w Z F2 iS⟩;simpa using k2
variable {h : Heap} {b B : Nat}
theorem yR{n:Nat}{l:List V}(k:Gp h b B n l):ao go 52 [.ptr b 0] h fun u h'=>u=ZZ (n:Int)/\h=h':=by obtain⟨v,c1,G,c2,a,g,m,k,rfl,rfl⟩:=k;exact dk k
theorem Lh{c1 c2 Z:List α}{a m:Nat}(l1:c1.length=a*4)(l2:c2.length=m*4)(lz:Z.length=(a+m) *4):
 (Z.take 0++c1++Z.drop (0+a*4)).take (a*4)++c2++(Z.take 0++c1++Z.drop (0+a*4)).drop (a*4+m*4)=c1++c2:=by
 simp only[Vy,TO,Tj];have K:(c1++Z.drop (a*4)).length=a*4+m*4:=by simp;omega
 rw[<-K,Ua,Tq,<-l1,UB]
theorem yQ{n:Nat}{l:List V}(w:WF h)(k:Gp h b B n l):ao go 65 [.ptr b 0] h fun u h'=>∃b',h.next<=b'/\TbC 4 h' u b' l n/\Fr [] h h':=by
 obtain⟨v,c1,G,c2,a,g,m,k,rfl,rfl⟩:=k;have am:=k.am;have nb:=k.nb;have blt:=k.ob.lt w;have tot:=k.tot;by_cases c0:a+m=0;refine ag ?_;simp only[evs,seval];refine aa (dk k) ?_;rintro _ _ ⟨rfl,rfl⟩;simp only[evs,seval,(oO:(((a+m:Nat):Int)=0)↔True)];exact⟨h.next,RW _,⟨by rw[tot.1],.inl ⟨rfl,c0⟩⟩,Sn w⟩;have nz:(((a+m:Nat):Int)=0)↔False:=by simp;omega
 refine ag ?_;simp only[evs,seval];refine aa (dk k) ?_;rintro _ _ ⟨rfl,rfl⟩;simp only[evs,seval,nz];apply aa (dk k);rintro _ _ ⟨rfl,rfl⟩;simp only[evs];refine(de _ _ _ _ _ _ _ _ oM oM oM oM).2 ?_;simp only[RX];have ln:(aU Z4 (a+m)).length=(a+m) *4:=cP _ _;obtain⟨h1,ac⟩:∃h1,h1=halloc h (aU [ZX 0,ZY 0,.str [],.nils] (a+m)):=⟨_,rfl⟩;have K:Fr [] h h1:=ac▸SO w _;have ae:Own h1 h.next (aU Z4 (a+m)):=ac▸Ts w _;rw[<-ac];clear ac;generalize aU Z4 (a+m)=Z at ln ae;have k1:=k.fr K iS iS;have l0:ab h1 b 0=some v:=k1.ob.ld1 0;have l1:ab h1 b 1=some (ZZ (a:Int)):=k1.ob.ld1 1;have l2:ab h1 b 2=some (ZZ (g:Int)):=k1.ob.ld1 2;have tz:TbC 4 h1 (.slice h.next 0 (a+m) (a+m)) h.next Z (a+m):=⟨ln,.inr ⟨rfl,ae⟩⟩;have nB:v=.nils\/B≠h.next:=by obtain⟨_,⟨q,_⟩|⟨_,q⟩⟩:=k.tb;exact .inl q;right;have:=q.lt w;omega
 let⟨u2,e2,s2⟩:=k1.tb.upto oM .i64 (a:Int) a rfl oM;rw[SM,<-k.l1,UB]at s2;have d1:Dst 4 h1 h.next Z (.slice h.next 0 (a+m) (a+m)) 0 (a+m):=⟨oM,.inr ⟨_,rfl,ae⟩⟩;simp only[evs,seval,eff,l0,l1,e2];apply jF oM K.wf d1 s2 k.o1 oM tz;rintro h2 t2 F2 n2;have af:=F2.own b _ oO k1.ob;have ay:TbC 4 h2 v B (c1++G++c2) (a+g+m):=k1.tb.fr' F2 (nB.imp id iS);let⟨u3,e3,s3,_⟩:=ay.from oM .i64 ((a:Int)+g) (a+g) oM oM;let⟨u4,e4,_,d4⟩:=t2.from oM .i64 (a:Int) a rfl oM;have ax:Sl h2 4 u3 m c2:=by rw[(oM:a+g+m-(a+g)=m),show(a+g) *4=(c1++G).length by simp[k.l1,k.lg];omega,Un]at s3;rwa[Sf (by rw[k.l2];omega)]at s3
 have ar:ab h2 b 0=some v:=af.ld1 0;have ak:ab h2 b 1=some (ZZ (a:Int)):=af.ld1 1;have an:ab h2 b 2=some (ZZ (g:Int)):=af.ld1 2;simp(disch:=omega) only[evs,seval,DF,eff,ah,l0,l1,ar,ak,an,e3,e4];apply jF oM F2.wf d4 ax k.o2 oM t2;rintro h3 t3 F3 n3;rw[Lh k.l1 k.l2 (by rw[ln])]at t3;simp only[evs,seval,DF,ar,ak,an];exact⟨h.next,RW _,t3,Fr.new w K (Sj F2 F3 K.wf (fun x hx=>.inl hx) (fun x hx=>.inl hx)) iS⟩
end Go.Ev.Lay
namespace Go.Ev
abbrev TL:=@Go.Ev.Lay.Fr.new
abbrev Vw:=@Go.Ev.Lay.NoI.app
end Go.Ev
