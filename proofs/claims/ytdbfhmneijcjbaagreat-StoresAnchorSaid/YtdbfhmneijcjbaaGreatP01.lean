/- An evaluator of the program, and contracts over it: EvM to EvMe. -/
import Derived.Laws.StructEq
import Derived.MapKept
import Derived.Laws.BytesString
import Derived.Lib.OthersKept
import Derived.Test.YtdbfhmneijcjbaaGreatP00
set_option linter.unusedSimpArgs false
set_option linter.unusedVariables false
set_option linter.constructorNameAsVariable false
set_option linter.unnecessarySimpa false
noncomputable section
namespace Go.Ev
section
variable {P : Program} {m : M}
theorem cM{v:V}{y n:Nat}(h:cY v y=some n):∃k,v=.C k (.ofNat n)/\n<=y:=by unfold cY at h;split at h;rename_i k K;cases Z:Nat.ble K y;grind;rw[Z]at h;cases h;exact⟨k,rfl,Vj Z⟩;cases h
theorem dJ{v:V}{y n cap:Nat}{x:Value}(h:cY v y=some n)(r:m_ m v x)(hy:y<=cap)(c:BoundsCode)(w:World):(Instr.sliceBound x cap c).run P w=.ok n w:=by
 obtain⟨k,rfl,K⟩:=cM h;simp only[m_]at r;subst r;have Z:(0:Int)<=Int.ofNat n/\Int.ofNat n<=(cap:Int):=by grind
 simp only[Instr.sliceBound,asIntOf,Vr,Vz,Vh];rw[if_pos Z];rfl
theorem eK{len y cap:Nat}{lo hi mx isS:Bool}{bs:List V}{l h:Nat}{mo:Option Nat}(Z:aZ len y lo hi mx bs=some (l,h,mo))(hy:y<=cap)(hl:len<=y)
 {a b c:Option Value} (e1:a.isSome=lo) (e2:b.isSome=hi) (e3:c.isSome=mx) (r:h_ m bs (a.toList++b.toList++c.toList)) (w:World):
 (Instr.sliceBounds isS len cap a b c).run P w=.ok (l,h,mo.getD cap) w/\l<=h/\h<=mo.getD y/\mo.getD y<=y:=by
 unfold aZ at Z;split at Z;cases a<;>cases b<;>cases c<;>simp at e1 e2 e3;cases Z;refine⟨by simp[Instr.sliceBounds],oM,by simpa using hl,iS⟩
 rename_i v;cases a<;>cases b<;>cases c<;>simp at e1 e2 e3;rename_i x;let⟨x',e,rx⟩:=cF r;simp at e;subst e;cases K:cY v len with
 |none=>rw[K]at Z;cases Z
 |some n=>rw[K]at Z;cases Z;let⟨_,_,ab⟩:=cM K;refine⟨?_,ab,by simpa using hl,iS⟩;simp[Instr.sliceBounds,dJ K rx (Ve len)]
 rename_i v;cases a<;>cases b<;>cases c<;>simp at e1 e2 e3;rename_i x;let⟨x',e,rx⟩:=cF r;simp at e;subst e;cases K:cY v y with
 |none=>rw[K]at Z;cases Z
 |some n=>rw[K]at Z;cases Z;let⟨_,_,ab⟩:=cM K;refine⟨?_,oM,by simpa using ab,iS⟩;simp[Instr.sliceBounds,dJ K rx hy]
 rename_i u v;cases a<;>cases b<;>cases c<;>simp at e1 e2 e3;rename_i x z;let⟨x',z',e,rx,rz⟩:=cN r;simp at e;obtain⟨rfl,rfl⟩:=e;cases K:cY v y with
 |none=>rw[K]at Z;cases Z
 |some n=>
  rw[K]at Z;simp only[VX]at Z;cases hc:cY u n with
  |none=>rw[hc]at Z;cases Z
  |some k=>rw[hc]at Z;cases Z;let⟨_,_,ab⟩:=cM K;let⟨_,_,ac⟩:=cM hc;refine⟨?_,ac,by simpa using ab,iS⟩;simp[Instr.sliceBounds,dJ K rz hy,dJ hc rx (Ve h)]
 rename_i u v;cases a<;>cases b<;>cases c<;>simp at e1 e2 e3;rename_i x z;let⟨x',z',e,rx,rz⟩:=cN r;simp at e;obtain⟨rfl,rfl⟩:=e;cases K:cY v y with
 |none=>rw[K]at Z;cases Z
 |some n=>
  rw[K]at Z;simp only[VX]at Z;cases hc:cY u n with
  |none=>rw[hc]at Z;cases Z
  |some k=>rw[hc]at Z;cases Z;let⟨_,_,ab⟩:=cM K;let⟨_,_,ac⟩:=cM hc;refine⟨?_,oM,by simpa using ac,by simpa using ab⟩;simp[Instr.sliceBounds,dJ K rz hy,dJ hc rx (Ve n)]
 rename_i t u v;cases a<;>cases b<;>cases c<;>simp at e1 e2 e3;rename_i p x z;let⟨p',x',z',e,rp,rx,rz⟩:=tu r;simp at e;obtain⟨rfl,rfl,rfl⟩:=e;cases K:cY v y with
 |none=>rw[K]at Z;cases Z
 |some n=>
  rw[K]at Z;simp only[VX]at Z;cases hc:cY u n with
  |none=>rw[hc]at Z;cases Z
  |some k=>
   rw[hc]at Z;simp only[VX]at Z;cases hd:cY t k with
   |none=>rw[hd]at Z;cases Z
   |some j=>rw[hd]at Z;cases Z;let⟨_,_,ab⟩:=cM K;let⟨_,_,ac⟩:=cM hc;let⟨_,_,ae⟩:=cM hd;refine⟨?_,ae,by simpa using ac,by simpa using ab⟩;simp[Instr.sliceBounds,dJ K rz hy,dJ hc rx (Ve n),dJ hd rp (Ve h)]
 cases Z
theorem BV(blk base o l esz mm:Nat):(if mm=l then(⟨blk,base+o,none⟩:Addr)else Addr.add ⟨blk,base+o,none⟩ (l*esz))=⟨blk,base+(bif Nat.beq mm l then o else o+l*esz),none⟩:=by
 by_cases h:mm=l;rw[if_pos h,h,WO];rfl;rw[if_neg h,iW];have:Nat.beq mm l=false:=by cases hb:Nat.beq mm l;rfl;exact absurd (Vf hb) h
 rw[this];simp[WJ]
theorem tI{t:TypeId}{x:Operand}{l h Z:Option Operand}(ρ:Operand->Value):OV ρ (.slice t x l h Z)=ρ x::((l.map ρ).toList++(h.map ρ).toList++(Z.map ρ).toList):=by cases l<;>cases h<;>cases Z<;>simp[OV,Op.operands]
theorem Jb{o:Oper}{ρ:Operand->Value}{n esz:Nat}{lo hi mx:Bool}{v r:V}{bs:List V}(Z:bL P o.op (.s (some n) esz lo hi mx)=true)(hv:h_ m (v::bs) (OV ρ o.op))
 (h:zw n v esz lo hi mx bs=some r):PS P m o ρ r:=by
 simp[bL]at Z;split at Z;rename_i t x l hh ab hy;simp at Z;let⟨⟨⟨he,h1⟩,h2⟩,h3⟩:=Z;let⟨e,hu,hs⟩:=AZ he;rw[hy,tI]at hv;let⟨x',ae,e',rv,rb⟩:=hv;simp only[Vw]at e';obtain⟨rfl,rfl⟩:=e';unfold zw at h;split at h;rename_i b k;let⟨ac,hm,hx⟩:=rv;cases K:aZ n n lo hi mx bs with
 |none=>rw[K]at h;cases h
 |some q=>let⟨l',h',m'⟩:=q;rw[K]at h;simp at h;subst h;have hr:=fun w=>(eK (P:=P) (isS:=false) K (Ve n) (Ve n) (eV h1) (eV h2) (eV h3) rb w).1;have hbd:=(eK (P:=P) (isS:=false) K (Ve n) (Ve n) (eV h1) (eV h2) (eV h3) rb default).2;refine⟨_,⟨ac,hm,oM,rfl⟩,fun w=>?_⟩;simp[execOp,hy,Instr.sliceAt,hx,Instr.sureAddr,aI hu,hr w,cQ hs,BV]
 cases h;cases Z
theorem OD{o:Oper}{ρ:Operand->Value}{esz:Nat}{lo hi mx:Bool}{v r:V}{bs:List V}(hc:bL P o.op (.s none esz lo hi mx)=true)(hv:h_ m (v::bs) (OV ρ o.op))
 (h:eJ v esz lo hi mx bs=some r):PS P m o ρ r:=by
 simp[bL]at hc;split at hc;rename_i t x l hh ax hy;simp at hc;let⟨⟨⟨he,h1⟩,h2⟩,h3⟩:=hc;let⟨e,hu,hs⟩:=oY he;rw[hy,tI]at hv;let⟨x',a2,e',rv,rb⟩:=hv;simp only[Vw]at e';obtain⟨rfl,rfl⟩:=e';unfold eJ at h;split at h;simp[m_]at rv;cases ha:aZ 0 0 lo hi mx bs with
 |none=>rw[ha]at h;cases h
 |some q=>let⟨Z,h',m'⟩:=q;rw[ha]at h;simp at h;subst h;have hr:=fun w=>eK (P:=P) (isS:=true) ha (Ve 0) (Ve 0) (eV h1) (eV h2) (eV h3) rb w;have hb:=(hr default).2;have aj:m'.getD 0=0:=oM;have ac:Z=0:=oM;have ae:h'=0:=oM;refine⟨_,rfl,fun w=>?_⟩;simp only[execOp,hy,Instr.sliceAt,Instr.slice,rv,Vr,Vz,aI hu,Vh,(hr w).1,cQ hs,aj,ac,ae];simp
 rename_i b k len cap;let⟨ay,hm,aH,hx⟩:=rv;cases ha:aZ len cap lo hi mx bs with
 |none=>rw[ha]at h;cases h
 |some q=>let⟨Z,h',m'⟩:=q;rw[ha]at h;simp at h;subst h;have hr:=fun w=>(eK (P:=P) (isS:=true) ha (Ve cap) aH (eV h1) (eV h2) (eV h3) rb w).1;have hbd:=(eK (P:=P) (isS:=true) ha (Ve cap) aH (eV h1) (eV h2) (eV h3) rb default).2;refine⟨_,⟨ay,hm,oM,rfl⟩,fun w=>?_⟩;simp only[execOp,hy,Instr.sliceAt,Instr.slice,hx,Vr,Vz,aI hu,Vh,hr w,cQ hs];have:=BV ay.a ay.b k Z esz (m'.getD cap);by_cases q:m'.getD cap=Z;grind;grind
 rename_i b k len K;cases hb:(Nat.beq K esz&&Nat.blt 0 K);grind;rw[hb]at h;simp at h;simp only[Vd,VE]at hb;let⟨a0,a3⟩:=hb;have ak:=Vf a0;subst ak;let⟨ay,hm,a1,hx⟩:=rv;cases ha:aZ len len lo hi mx bs with
 |none=>rw[ha]at h;cases h
 |some q=>
  let⟨Z,h',m'⟩:=q;rw[ha]at h;simp only[VX]at h;have hr:=fun w=>eK (P:=P) (isS:=true) ha a1 (Ve len) (eV h1) (eV h2) (eV h3) rb w;have hbd:=(hr default).2;have run:∀w,(execOp ρ o).run P w=.ok (.value (.slice (if m'.getD ((ay.c-k)/K)=Z then some ⟨ay.a,ay.b+k,none⟩else(some (Addr.add ⟨ay.a,ay.b+k,none⟩ (Z*K)))) (h'-Z) (m'.getD ((ay.c-k)/K)-Z))) w:=by intro w;simp only[execOp,hy,Instr.sliceAt,Instr.slice,hx,Vr,Vz,aI hu,Vh,(hr w).1,cQ hs];rfl
  cases m' with
  |some mm=>simp at h;subst h;simp only[Ye]at run hbd;refine⟨_,⟨ay,hm,oM,rfl⟩,fun w=>?_⟩;rw[run w];have:=BV ay.a ay.b k Z K mm;by_cases q:mm=Z;grind;grind
  |none=>
   simp only[Yf]at run hbd;simp at h;cases ab:Nat.blt Z len;rw[ab]at h;simp at h;have ar:¬Z<len:=by intro q;rw[<-VE]at q;rw[q]at ab;cases ab
   cases hz:Nat.beq Z 0;rw[hz]at h;simp at h;subst h;have af:h'-Z=0:=oM;refine⟨.slice (if(ay.c-k)/K=Z then some ⟨ay.a,ay.b+k,none⟩else(some (Addr.add ⟨ay.a,ay.b+k,none⟩ (Z*K)))) (h'-Z) ((ay.c-k)/K-Z),?_,run⟩;rw[af];by_cases q:(ay.c-k)/K=Z;rw[if_pos q];exact⟨_,_,rfl⟩;rw[if_neg q];exact⟨_,_,rfl⟩;rw[hz]at h;simp at h;subst h;have ac:=Vf hz;subst ac;refine⟨_,⟨ay,hm,oM,rfl⟩,fun w=>?_⟩;rw[run w];simp[iW];rw[ab]at h;simp at h;subst h;have an:Z<len:=by simpa[VE]using ab
   have hd:(ay.c-(k+Z*K))/K=(ay.c-k)/K-Z:=by rw[<-Nat.sub_sub,Nat.mul_comm,Nat.sub_mul_div]
   refine⟨_,⟨ay,hm,oM,rfl⟩,fun w=>?_⟩;rw[run w,if_neg oM,iW];rw[hd,WJ]
 cases h;cases hc
theorem rD(s:List UInt8):(⟨s.toArray⟩:ByteArray).toList=s:=by rw[ByteArray.toList_eq]
theorem Au{t:TypeId}{k:Nat}(h:lh P t k=true):qo P t false=true:=by unfold lh at h;unfold qo;split at h;grind;grind;grind;cases h
theorem uV(d:Nat){w:World}:∀(ks:List Nat)(fs:List Field)(j:Nat)(xs ys:List Value)(l l':List V)(r:Bool),jx P j fs ks=true→
 h_ m l (xs.drop j)→h_ m l' (ys.drop j)→i5 ks l l'=some r→(Op.eqFields (d+1) (List.toArray xs) (List.toArray ys) fs).run P w=.ok r w
 |[],[],j,xs,ys,l,l',r,hf,hl,hl',hc=>by simp only[i5,Option.some.injEq]at hc;subst hc;rfl
 |[],_::_,_,_,_,_,_,_,hf,_,_,_=>by simp[jx]at hf
 |_::_,[],_,_,_,_,_,_,hf,_,_,_=>by simp[jx]at hf
 |k::ks,f::fs,j,xs,ys,l,l',r,hf,hl,hl',hc=>by
  simp only[jx,Bool.and_eq_true,Bool.not_eq_true',beq_eq_false_iff_ne]at hf;let⟨⟨⟨hname,hoff⟩,hleaf⟩,hrest⟩:=hf;have hoff:=Nat.eq_of_beq_eq_true hoff;have hagg:=Au hleaf;have fR:∀(zs:List Value)(u:V)(us:List V),h_ m (u::us) (zs.drop j)→∃x,zs[j]? =some x∧m_ m u x∧h_ m us (zs.drop (j+1)):=by
   rintro zs u us ⟨x,xs',e,r1,r2⟩;have h0:(zs.drop j)[0]? =some x:=by rw[e];rfl
   rw[List.getElem?_drop]at h0;refine⟨x,by simpa using h0,r1,?_⟩;have:zs.drop (j+1)=xs':=by rw[←List.drop_drop,e];rfl
   rw[this];exact r2
  have partR:∀(zs:List Value) x,zs[j]? =some x→(part f.type (List.toArray zs) f.offset).run P w=.ok x w:=by intro zs x hx;simp[part,jk hagg,hoff,hx]
  cases l with
  |nil=>cases k with
   |zero=>simp[i5]at hc
   |succ k=>cases k with
    |zero=>simp[i5]at hc
    |succ k=>cases k<;>simp[i5]at hc
  |cons u us=>
   cases l' with
   |nil=>cases k with
    |zero=>cases u<;>simp[i5]at hc
    |succ k=>cases k with
     |zero=>cases u<;>simp[i5]at hc
     |succ k=>cases k<;>cases u<;>simp[i5]at hc
   |cons v vs=>
    let⟨x,hx,rx,rus⟩:=fR xs u us hl;let⟨y,hy,ry,rvs⟩:=fR ys v vs hl';have step:∀(b:Bool),(Op.equalIn (d+1) f.type x y).run P w=.ok b w→(b=true→i5 ks us vs=some r)→(b=false→r=false)→
     (Op.eqFields (d+1) (List.toArray xs) (List.toArray ys) (f::fs)).run P w=.ok r w:=by
     intro b hb h1 h2;simp only[Op.eqFields];rw[if_pos hname];simp only[Sem.run_bind,partR xs x hx,partR ys y hy,Result.andThen_ok,hb];cases b;have:=h2 rfl;subst this;rfl;simp only[Bool.not_true,Bool.false_eq_true,if_false];exact uV d ks fs (j+1) xs ys us vs r hrest rus rvs (h1 rfl)
    unfold lh at hleaf;split at hleaf;rename_i k0 hu;cases u<;>cases v<;>simp only[i5]at hc<;>first|(cases hc;done)|skip
    rename_i t a t' b;simp only[m_]at rx ry;subst rx;subst ry;cases hk:lE t t';grind;rw[hk]at hc;simp only[cond_true]at hc;have:=mK hk;subst this;refine step (a==b) (run_equalIn_int w d f.type t k0 a b hu) (fun q=>?_) (fun q=>?_);rw[fC,q]at hc;exact hc;rw[fC,q]at hc;simpa using hc.symm;rename_i hu;cases u<;>cases v<;>simp only[i5]at hc<;>first|(cases hc;done)|skip
    rename_i a b;simp only[m_]at rx ry;subst rx;subst ry;refine step (a==b) (uO hu a b d) (fun q=>?_) (fun q=>?_);grind;grind;rename_i hu;cases u<;>cases v<;>simp only[i5]at hc<;>first|(cases hc;done)|skip
    rename_i a b;simp only[m_]at rx ry;subst rx;subst ry;refine step (a==b) (by rw[run_equalIn_string w d f.type _ _ hu,rD,rD]) (fun q=>?_) (fun q=>?_);grind;grind;cases hleaf
theorem Nq{o:Oper}{ρ:Operand->Value}{ne:Bool}{ks:List Nat}{l l':List V}{r:Bool}(hc:bL P o.op (.I ne ks)=true)(hv:h_ m [.B l,.B l'] (OV ρ o.op))(h:i5 ks l l'=some r):
 PS P m o ρ (.h (bif ne then !r else r)):=by
 simp[bL]at hc;split at hc;rename_i b' t x y yt hy;simp at hc;let⟨hb,K⟩:=hc;unfold rI at K;split at K;rename_i Z hu;simp at K;let⟨⟨h1,h2⟩,h3⟩:=K;let⟨x',y',e,rx,ry⟩:=cN hv;rw[hy]at e;change[ρ x,ρ y]=[x',y']at e;simp at e;obtain⟨xs,rfl,ae⟩:=rx;obtain⟨ys,rfl,af⟩:=ry;have ab:P.fieldsOf t=Z:=by unfold Program.fieldsOf;rw[hu]
 have ac:∀w,(Op.equalIn (9999+1) t (.agg (List.toArray xs)) (.agg (List.toArray ys))).run P w=.ok r w:=by intro w;rw[run_equalIn_struct w 9999 t _ _ (by rw[ab];exact hu) h1,ab];exact uV 9998 ks Z.toList 0 xs ys l l' r h3 (by simpa using ae) (by simpa using af) h
 refine⟨_,rfl,fun w=>?_⟩;subst hb;cases ne;simp at hy|-;simp only[execOp,hy,e.1,e.2,Vr,run_eqGuard_agg w .eql t x y _ _ h2,Vh,run_eql_struct w t,ac w];rfl;simp at hy|-;simp only[execOp,hy,e.1,e.2,Vr,run_eqGuard_agg w .neq t x y _ _ h2,Vh,run_neq_struct w t,ac w];rfl;cases K;cases hc
theorem tC{op:BinOp}{a b:List UInt8}{v:V}(h:qE op a b=some v)(w:World)(t:TypeId):∃x,(binOp op t (.string ⟨a.toArray⟩) (.string ⟨b.toArray⟩)).run P w=.ok x w/\m_ m v x:=by
 have e:binOp op t (.string ⟨a.toArray⟩) (.string ⟨b.toArray⟩)=Op.stringOp op ⟨a.toArray⟩ ⟨b.toArray⟩:=by cases op<;>rfl
 rw[e];cases op<;>simp[qE]at h;case add=>
  cases Z:Nat.blt (a.length+b.length) 9223372036854775808;grind;rw[Z]at h;simp only[cond_true]at h;cases h;have ab:a.length+b.length<9223372036854775808:=by simpa[VE]using Z
  have hs:¬(((⟨a.toArray⟩:ByteArray).size+(⟨b.toArray⟩:ByteArray).size:Nat):Int)>IntKind.i64.max:=by
   have h1:(⟨a.toArray⟩:ByteArray).size=a.length:=by simp[ByteArray.size]
   have K:(⟨b.toArray⟩:ByteArray).size=b.length:=by simp[ByteArray.size]
   rw[h1,K];simp;omega
  refine⟨.string (⟨a.toArray⟩++⟨b.toArray⟩),?_,?_⟩;simp only[Op.stringOp];rw[if_neg hs];rfl;simp only[m_];congr 1
 all_goals first
  |(cases h;done)
  |(cases h;exact⟨_,rfl,by simp[m_]⟩)
theorem OF{o:Oper}{ρ:Operand->Value}{op:BinOp}{a b:List UInt8}{v:V}(Z:bL P o.op (.C op)=true)(hv:h_ m [.f a,.f b] (OV ρ o.op))(h:qE op a b=some v):PS P m o ρ v:=by
 simp[bL]at Z;split at Z;rename_i b' t x y yt K;have hb:op=b':=by simpa using Z
 subst hb;let⟨x',y',e,rx,ry⟩:=cN hv;rw[K]at e;change[ρ x,ρ y]=[x',y']at e;simp at e;simp[m_]at rx ry;have hg:∀w,(eqGuard op t x y (.string ⟨a.toArray⟩) (.string ⟨b.toArray⟩)).run P w=.ok () w:=fun w=>by cases op<;>rfl
 let⟨z,_,rz⟩:=tC (P:=P) (m:=m) h default t;refine⟨z,rz,fun w=>?_⟩;let⟨z',hz,ab⟩:=tC (P:=P) (m:=m) h w t;have:z'=z:=by
  cases v with
  |f s=>simp[m_]at rz ab;rw[rz,ab]
  |h s=>simp[m_]at rz ab;rw[rz,ab]
  |_=>cases op<;>simp[qE]at h<;>first|(cases h;done)|(cases hq:Nat.blt (a.length+b.length) 9223372036854775808<;>rw[hq]at h<;>cases h)
 rw[<-this];simp only[execOp,K,e.1,e.2,rx,ry,Vr,hg w,Vh,hz];rfl;cases Z
theorem Iob{o:Oper}{ρ:Operand->Value}{a:List UInt8}(K:bL P o.op .j=true)(hv:h_ m [.f a] (OV ρ o.op)):PS P m o ρ (.C .i64 (a.length:Nat)):=by
 let⟨x,ts,t,d,hy,ht,hu,hd⟩:=pI K;let⟨x',e,r⟩:=cF hv;rw[hy]at e;simp[Op.operands,Call.operands]at e;simp[m_]at r;refine⟨_,rfl,fun w=>?_⟩;cases d<;>simp at hd;have Z:(⟨a.toArray⟩:ByteArray).size=a.length:=by simp[ByteArray.size]
 simp[execOp,hy,resolve,invoke,builtin,Builtin.len_,ht,e,r,aI hu,goInt,Z]
theorem uD{t:TypeId}(h:Dj P t=true):P.underlying t=some .string:=by unfold Dj at h;split at h<;>simp_all
theorem Jd{o:Oper}{ρ:Operand->Value}{a:List UInt8}{k:IntKind}{i:Nat}{c:UInt8}(K:bL P o.op .q=true)(hv:h_ m [.f a,.C k (.ofNat i)] (OV ρ o.op))(h:a[i]? =some c):PS P m o ρ (.C .u8 (c.toNat:Nat)):=by
 simp[bL]at K;split at K;rename_i t x y hy;let⟨x',y',e,rx,ry⟩:=cN hv;rw[hy]at e;change[ρ x,ρ y]=[x',y']at e;simp at e;simp only[m_]at rx ry;have hu:=uD K;refine⟨_,rfl,fun w=>?_⟩;have hg:(⟨a.toArray⟩:ByteArray)[i]? =some c:=by
  have Z:i<a.length:=(Vt.1 h).1;have hs:i<(⟨a.toArray⟩:ByteArray).size:=by simpa[ByteArray.size]using Z
  rw[getElem?_pos _ i hs];rw[Vp Z]at h;exact h
 simp only[execOp,hy,e.1,e.2,rx,ry,Instr.index,asIntOf,Vr,Vz,aI hu,Vh];have h0:(0:Int)<=Int.ofNat i:=by simp
 rw[if_pos h0];simp[hg];cases K
theorem Ja{o:Oper}{ρ:Operand->Value}{lo hi:Bool}{a:List UInt8}{bs:List V}{l h:Nat}{mo:Option Nat}(Z:bL P o.op (.A lo hi)=true)(hv:h_ m (.f a::bs) (OV ρ o.op))
 (hb:aZ a.length a.length lo hi false bs=some (l,h,mo)):PS P m o ρ (.f ((a.drop l).take (h-l))):=by
 simp[bL]at Z;split at Z;rename_i t x lw hh K hy;simp only[Vd,beq_iff_eq]at Z;let⟨⟨⟨hs,h1⟩,h2⟩,h3⟩:=Z;have hu:=uD hs;cases K with
 |some q=>simp at h3
 |none=>
  rw[hy,tI]at hv;let⟨x',ac,e',rv,rb⟩:=hv;simp only[Vw]at e';obtain⟨rfl,rfl⟩:=e';simp[m_]at rv;have ab:(⟨a.toArray⟩:ByteArray).size=a.length:=by simp[ByteArray.size]
  have hr:=fun w=>(eK (P:=P) (isS:=false) hb (Ve _) (Ve _) (a:=lw.map ρ) (b:=hh.map ρ) (c:=none) (eV h1) (eV h2) rfl (by simpa using rb) w).1;refine⟨.string ((⟨a.toArray⟩:ByteArray).extract l h),?_,fun w=>?_⟩;simp only[m_];congr 1;apply ByteArray.ext;simp;simp[execOp,hy,Instr.sliceAt,Instr.slice,rv,aI hu,ab,hr w]
 cases Z
end
section
variable {P : Program} {m : M}
theorem IG{o:Oper}{ρ:Operand->Value}{k:PK}{vs:List V}{v:V}(Z:bL P o.op k=true)(hv:h_ m vs (OV ρ o.op))(h:aP k vs=some v):PS P m o ρ v:=by
 unfold aP at h;split at h;exact OH Z hv h;cases h;exact Li Z hv;cases h;exact Jc Z hv;cases h;exact FP Z hv;exact OJ Z hv h;exact OE Z hv h;cases h;exact Nr Z hv;cases h;exact Nu Z hv;exact Lk Z hv h;cases h;exact OK Z hv;rename_i kd ne a b;cases K:kU kd a b with
 |none=>rw[K]at h;cases h
 |some r=>rw[K]at h;cases h;exact Ns Z hv K
 cases h;exact Jh Z hv;exact Jg Z hv h;rename_i len esz b o' i;cases K:lY i len with
 |none=>rw[K]at h;cases h
 |some r=>rw[K]at h;cases h;exact Nx Z hv K
 rename_i esz b o' len cap i;cases K:lY i len with
 |none=>rw[K]at h;cases h
 |some r=>rw[K]at h;cases h;let⟨x,y,e,rx,ry⟩:=cN hv;let⟨ac,hm,_⟩:=rx;exact Je hm Z hv (fun x hx=>by obtain⟨l2,h2,_,rfl⟩:=hx;rw[hm]at h2;cases h2;exact⟨_,rfl⟩) K
 rename_i esz b o' len e0 i;cases K:lY i len with
 |none=>rw[K]at h;cases h
 |some r=>rw[K]at h;cases h;let⟨x,y,e,rx,ry⟩:=cN hv;let⟨ac,hm,_⟩:=rx;exact Je hm Z hv (fun x hx=>by obtain⟨l2,h2,_,rfl⟩:=hx;rw[hm]at h2;cases h2;exact⟨_,rfl⟩) K
 rename_i len esz ia l i;cases K:lY i len with
 |none=>rw[K]at h;cases h
 |some r=>rw[K]at h;exact Jf Z hv K h
 exact Ny Z hv h;rename_i fn n;cases K:dL n vs with
 |none=>rw[K]at h;cases h
 |some r=>rw[K]at h;cases h;exact Nw Z hv K
 cases h;exact Nv Z hv;rename_i zero ab;cases K:dY zero ab vs with
 |none=>rw[K]at h;cases h
 |some r=>rw[K]at h;cases h;exact Ji Z hv K
 exact OD Z hv h;exact Jb Z hv h;cases h;exact qw (len:=0) Z hv (fun x hx=>⟨_,_,hx⟩);cases h;exact qw Z hv (fun x hx=>by obtain⟨_,_,_,rfl⟩:=hx;exact⟨_,_,rfl⟩);cases h;exact qw Z hv (fun x hx=>by obtain⟨_,_,_,rfl⟩:=hx;exact⟨_,_,rfl⟩);cases h;exact qw (len:=0) Z hv (fun x hx=>by obtain⟨_,_,rfl⟩:=hx;exact⟨_,_,rfl⟩);cases h;exact qw (len:=0) Z hv (fun x hx=>⟨_,_,hx⟩);cases h;exact FU Z hv;cases h;exact D6 (cap:=0) Z hv (fun x hx=>⟨_,_,hx⟩);cases h;exact D6 Z hv (fun x hx=>by obtain⟨_,_,_,rfl⟩:=hx;exact⟨_,_,rfl⟩);cases h;exact FV Z hv;cases h;exact OI Z hv;cases h;exact OG Z hv;cases h;exact Lj Z hv;rename_i ne ks l l';cases K:i5 ks l l' with
 |none=>rw[K]at h;cases h
 |some r=>rw[K]at h;cases h;exact Nq Z hv K
 exact OF Z hv h;cases h;exact Iob Z hv;rename_i a k i;cases K:a[i]? with
 |none=>rw[K]at h;cases h
 |some r=>rw[K]at h;cases h;exact Jd Z hv K
 rename_i lo hi a bs;cases K:aZ a.length a.length lo hi false bs with
 |none=>rw[K]at h;cases h
 |some r=>let⟨l,h',mo⟩:=r;rw[K]at h;cases h;exact Ja Z hv K
 cases h
end
def OL(r:Result Next)(x:Value)(w':World):Prop:=r=.ok (.value x) w'\/(r=.ok .skip w'/\x=undef)
def MS(P:Program)(m:M)(h:b_)(w:World)(o:Oper)(ρ:Operand->Value)(v:V)(h':b_):Prop:=
 ∃x w' m',OL ((execOp ρ o).run P w) x w'/\m_ m' v x/\r_ m' h' w'/\P9 m h w m' h' w'
theorem Jj{P:Program}{m:M}{h:b_}{w:World}{o:Oper}{ρ:Operand->Value}{v:V}(H:r_ m h w)(p:PS P m o ρ v):MS P m h w o ρ v h:=by let⟨x,r,e⟩:=p;exact⟨x,w,m,.inl (e w),r,H,Xx _ _ _⟩
section
variable {P : Program} {m : M} {h : b_} {w : World}
def jN(h:b_)(n:Nat)(ia:Bool)(v:V):Option V:=
 match v with
 |.u b o=>bif ia then(aq h b o n).map .B else ag h b o
 |_=>none
def zf(P:Program)(op:Op)(n:Nat)(ia:Bool):Bool:=match op with
 |.load t _=>dR P t n&&qo P t ia
 |_=>false
theorem Bu(H:r_ m h w){o:Oper}{ρ:Operand->Value}{n:Nat}{ia:Bool}{v r:V}(K:zf P o.op n ia=true)(hv:h_ m [v] (OV ρ o.op))(Z:jN h n ia v=some r):
 ∃x,m_ m r x/\(execOp ρ o).run P w=.ok (.value x) w:=by
 unfold zf at K;split at K;rename_i t a hy;simp at K;let⟨x,e,rx⟩:=cF hv;rw[hy]at e;simp[Op.operands]at e;unfold jN at Z;split at Z;rename_i b k;obtain⟨ab,hm,rfl⟩:=rx;cases ia;simp at Z;let⟨x,hx,rx⟩:=H.s hm Z;refine⟨x,rx,?_⟩;simp[execOp,hy,e,Instr.loadAt,Instr.sureAddr,loadVar,jk K.2,hx];simp only[cond_true]at Z;cases hh:aq h b k n with
 |none=>rw[hh]at Z;cases Z
 |some vs=>rw[hh]at Z;cases Z;let⟨xs,hx,rx,_⟩:=H.h P hm hh;refine⟨.agg (List.toArray xs),⟨xs,rfl,rx⟩,?_⟩;simp[execOp,hy,e,Instr.loadAt,Instr.sureAddr,loadVar,jk K.2,cQ K.1,hx]
 cases Z;cases K
def gT(h:b_)(n:Nat)(p v:V):Option b_:=
 match p with
 |.u b o=>bif Nat.beq v.s.length n then dD h b o v.s else none
 |_=>none
def uW(P:Program)(op:Op)(n:Nat):Bool:=match op with
 |.store t _ _=>dR P t n
 |_=>false
theorem zu(H:r_ m h w){o:Oper}{ρ:Operand->Value}{n:Nat}{p v:V}{h':b_}(K:uW P o.op n=true)(hv:h_ m [p,v] (OV ρ o.op))(Z:gT h n p v=some h'):
 MS P m h w o ρ (.G []) h':=by
 unfold uW at K;split at K;rename_i t a x hy;let⟨x',y',e,rx,ry⟩:=cN hv;rw[hy]at e;change[ρ a,ρ x]=[x',y']at e;simp at e;unfold gT at Z;split at Z;rename_i b k;obtain⟨ac,hm,rfl⟩:=rx;cases hb:Nat.beq v.s.length n;grind;rw[hb]at Z;simp at Z;have hn:=Vf hb;have rc:=ry.P5;let⟨w',ae,H',E'⟩:=H.i P hm Z rc;have ab:¬y'.cells.size≠n:=by have:=rc.T;simp at this|-;omega
 refine⟨undef,w',m,.inr ⟨?_,rfl⟩,⟨[],rfl,rfl⟩,H',E'⟩;simp only[execOp,hy,e.1,e.2,Instr.storeAt,Instr.sureAddr,storeVar,Vr,Vz,Vh,cQ K];rw[if_neg ab];simp[ae];cases Z;cases K
theorem dC(X:Array Value)(elem:TypeId):(newRow elem X).run P w=.ok ⟨w.heap.size,0,none⟩ (w.alloc (.cells X elem)):=by simp[newRow]
theorem r_.e(H:r_ m h w){c:List V}{xs:List Value}(elem:TypeId)(r:h_ m c xs):
 r_ (eU m h.i ⟨w.heap.size,0,c.length,none⟩) (k_ h c) (w.alloc (.cells (List.toArray xs) elem))/\
 P9 m h w (eU m h.i ⟨w.heap.size,0,c.length,none⟩) (k_ h c) (w.alloc (.cells (List.toArray xs) elem)):=by
 have:=H.q c (List.toArray xs) elem (by simp[r.T]) (fun i v hi=>by let⟨x,hx,rx⟩:=r.c_ i v hi;exact⟨x,by simpa using hx,rx⟩);simpa[r.T]using this
def qf(P:Program)(op:Op)(zero:List V):Bool:=match op with
 |.alloc t=>jR P t zero
 |_=>false
theorem zD(H:r_ m h w){o:Oper}{ρ:Operand->Value}{zero:List V}(Z:qf P o.op zero=true):MS P m h w o ρ (.u h.i 0) (k_ h zero):=by unfold qf at Z;split at Z;rename_i t hy;let⟨z,hz,hv⟩:=jD (w:=w) Z;let⟨H',E'⟩:=H.e t (dK m _ _ hv);refine⟨_,_,_,.inl ?_,⟨_,aB _ _ _,rfl⟩,H',E'⟩;have K:=dC (P:=P) (w:=w) z.cells t;simp[execOp,hy,Instr.alloc,hz,newVar,K];cases Z
def zh(op:Op):Bool:=match op with
 |.box _ _=>true
 |_=>false
theorem CC(H:r_ m h w){o:Oper}{ρ:Operand->Value}{v:V}(Z:zh o.op=true)(hv:h_ m [v] (OV ρ o.op)):MS P m h w o ρ (.u h.i 0) (k_ h v.s):=by unfold zh at Z;split at Z;rename_i t a hy;let⟨x,e,rx⟩:=cF hv;rw[hy]at e;simp[Op.operands]at e;let⟨H',E'⟩:=H.e t rx.P5;refine⟨_,_,_,.inl ?_,⟨_,aB _ _ _,rfl⟩,H',E'⟩;have K:=dC (P:=P) (w:=w) x.cells t;simp[execOp,hy,e,Instr.box,newVar,K];cases Z
end
section
variable {P : Program} {m : M} {h : b_} {w : World}
def aW(zero:List V)(n:Nat):List V:=Nat.rec (motive:=fun _=>List V) [] (fun _ ih=>zero++ih) n
theorem rK(zero:List V)(n:Nat):(aW zero n).length=n*zero.length:=by
 induction n with
 |zero=>show([]:List V).length=_;simp
 |succ n ih=>show(zero++aW zero n).length=_;simp[ih,Xy,XH]
theorem GU(zero:List V)(n i:Nat)(hi:i<n*zero.length):(aW zero n)[i]? =zero[i%zero.length]? :=by
 induction n generalizing i with
 |zero=>simp at hi
 |succ n ih=>show(zero++aW zero n)[i]? =_;by_cases c:i<zero.length;rw[List.getElem?_append_left c,Nat.mod_eq_of_lt c];rw[List.getElem?_append_right oM,ih (i-zero.length) (by rw[Nat.succ_mul]at hi;omega),←Nat.mod_eq_sub_mod oM]
theorem mg{zero:List V}{z:List Value}(r:h_ m zero z)(n:Nat):h_ m (aW zero n) ((Array.range (n*z.length)).map fun i=>z.toArray[i%z.toArray.size]!).toList:=by
 have hl:=r.T;refine h_.aq (by simp[rK,hl]) fun i v K=>?_;have Z:i<n*zero.length:=by obtain q|q:=Wt i (n*zero.length);exact q;rw[Wu (by rw[rK];exact q)]at K;cases K
 rw[GU _ _ _ Z]at K;let⟨x,hx,rx⟩:=r.c_ _ _ K;refine⟨x,?_,rx⟩;have hz:0<z.length:=by grind
 have hm:i%z.length<z.length:=WN _ hz;rw[<-hl]at hx;simp[hl,Z];rw[<-hl];rw[Vp hm]at hx;cases hx;simp[hm]
def Q9(h:b_)(esz:Nat)(v:V)(n:Nat):Option (List V):=
 match v with
 |.z b o _ _=>aq h b o (n*esz)
 |.L b o _ _=>aq h b o (n*esz)
 |.j=>bif Nat.beq n 0 then some []else none
 |.F=>bif Nat.beq n 0 then some []else none
 |.aa _ _=>bif Nat.beq n 0 then some []else none
 |.f s=>bif Nat.beq esz 1&&Nat.beq n s.length then some (s.map fun b=>.C .u8 (Int.ofNat b.toNat))else none
 |_=>none
def R_(v:V):Option Nat:=
 match v with
 |.z _ _ n _=>some n
 |.L _ _ n _=>some n
 |.j=>some 0
 |.F=>some 0
 |.aa _ _=>some 0
 |.f s=>some s.length
 |_=>none
def iK(v:V):Option Nat:=
 match v with
 |.f _=>none
 |v=>R_ v
theorem tG{v:V}{n:Nat}{x:Value}(Z:R_ v=some n)(r:m_ m v x)(w:World):(Builtin.lenOf x).run P w=.ok n w:=by unfold R_ at Z;split at Z;cases Z;obtain⟨_,_,_,rfl⟩:=r;rfl;cases Z;obtain⟨_,_,_,rfl⟩:=r;rfl;cases Z;simp[m_]at r;subst r;rfl;cases Z;obtain⟨_,_,rfl⟩:=r;rfl;cases Z;simp[m_]at r;subst r;rfl;cases Z;simp[m_]at r;subst r;simp[Builtin.lenOf,ByteArray.size];cases Z
theorem xF(m:M):∀(s:List UInt8),h_ m (s.map fun b=>V.C .u8 (Int.ofNat b.toNat)) (s.map fun b=>Value.int .u8 b.toNat)
 |[]=>rfl
 |b::s=>⟨_,_,rfl,rfl,xF m s⟩
theorem jX(H:r_ m h w){esz n:Nat}{v:V}{x:Value}{vs:List V}(Z:Q9 h esz v n=some vs)(r:m_ m v x):
 ∃xs,(Builtin.firstCells esz n x).run P w=.ok (List.toArray xs) w/\h_ m vs xs/\vs.length=n*esz:=by
 unfold Q9 at Z;split at Z;obtain⟨ab,hm,_,rfl⟩:=r;exact H.h P hm Z;obtain⟨ab,hm,_,rfl⟩:=r;exact H.h P hm Z;cases K:Nat.beq n 0;grind;rw[K]at Z;cases Z;have:=Vf K;subst this;simp[m_]at r;subst r;exact⟨[],rfl,rfl,iS⟩;cases K:Nat.beq n 0;grind;rw[K]at Z;cases Z;have:=Vf K;subst this;obtain⟨a,c,rfl⟩:=r;refine⟨[],?_,rfl,iS⟩;simp[Builtin.firstCells,loadCells,loadCellsFrom];cases K:Nat.beq n 0;grind;rw[K]at Z;cases Z;have:=Vf K;subst this;simp[m_]at r;subst r;refine⟨[],?_,rfl,iS⟩;simp[Builtin.firstCells,loadCells,loadCellsFrom];rename_i s;cases K:(Nat.beq esz 1&&Nat.beq n s.length);grind;rw[K]at Z;simp only[cond_true,Vl]at Z;simp only[Vd]at K;have h1:=Vf K.1;have h2:=Vf K.2;subst h1;subst h2;subst Z;simp[m_]at r;subst r;refine⟨s.map fun b=>Value.int .u8 b.toNat,?_,xF m s,iS⟩;have:((⟨s.toArray⟩:ByteArray).extract 0 s.length).data=s.toArray:=by rw[ByteArray.data_extract];simp
 simp only[Builtin.firstCells,this,Vz];simp;cases Z
def xI(h:b_)(zero:List V)(bytes:Nat)(l c:V):Option (V×b_):=
 match l,c with
 |.C _ (.ofNat l),.C _ (.ofNat c)=>
  bif Nat.ble l c&&Nat.blt c 9223372036854775808&&Nat.ble (bytes*c) 281474976710656 then some (.z h.i 0 l c,k_ h (aW zero c))else none
 |_,_=>none
def qd(P:Program)(op:Op)(zero:List V)(bytes:Nat):Bool:=match op with
 |.makeSlice t _ _=>match P.underlying t with
  |some (.slice e)=>jR P e zero&&dR P e zero.length&&Nat.blt 0 zero.length&&(match P.info? e with|some i=>Nat.beq i.bytes bytes|none=>false)
  |_=>false
 |_=>false
theorem jS{n:Nat}(Z:n<9223372036854775808):IntKind.i64.wrap (Int.ofNat n)=(n:Int):=by
 rw[<-dO];show(bif Nat.blt n 9223372036854775808 then _ else _)=_;have:Nat.blt n 9223372036854775808=true:=by rw[VE];exact Z
 rw[this];rfl
theorem Bt(H:r_ m h w){o:Oper}{ρ:Operand->Value}{zero:List V}{bytes:Nat}{l c v:V}{h':b_}(K:qd P o.op zero bytes=true)(hv:h_ m [l,c] (OV ρ o.op))
 (hs:xI h zero bytes l c=some (v,h')):MS P m h w o ρ v h':=by
 unfold qd at K;split at K;rename_i t a b hy;split at K;rename_i e hu;simp at K;let⟨⟨⟨hz,ar⟩,ax⟩,hi⟩:=K;split at hi;rename_i i ac;have aj:=Vf hi;let⟨x',y',e',rx,ry⟩:=cN hv;rw[hy]at e';change[ρ a,ρ b]=[x',y']at e';simp at e';unfold xI at hs;split at hs;rename_i k1 l k2 c;cases hb:(Nat.ble l c&&Nat.blt c 9223372036854775808&&Nat.ble (bytes*c) 281474976710656);grind;rw[hb]at hs;simp at hs;obtain⟨rfl,rfl⟩:=hs;simp only[Vd,VE]at hb;let⟨⟨h1,h2⟩,h3⟩:=hb;have h1:=Vj h1;have h3:=Vj h3;simp only[m_]at rx ry;let⟨z,an,ak⟩:=jD (w:=w) hz;have rz:h_ m zero z.cells.toList:=dK m _ _ ak;have af:=rz.T;have rel:=mg rz c;let⟨H',E'⟩:=H.e e rel;refine⟨_,_,_,.inl ?_,⟨_,aB _ _ _,h1,rfl⟩,H',E'⟩;have w1:IntKind.i64.wrap (Int.ofNat l)=(l:Int):=jS oM;have w2:IntKind.i64.wrap (Int.ofNat c)=(c:Int):=jS h2;have Z:¬((decide ((c:Int)<0)||decide ((i.bytes:Int) *(c:Int)>2^48)||decide ((l:Int)<0)||decide ((l:Int)>(c:Int)))=true):=by grind
 have ae:=fun X=>dC (P:=P) (w:=w) X e;simp only[execOp,hy,e'.1,e'.2,rx,ry,Instr.makeSlice,asInt,asIntOf,Vr,Vz,Vh,aI hu,eh ac,w1,w2];rw[if_neg (by simpa[Bool.or_assoc]using Z)];simp only[Vr,run_askRoom,Vh,cQ ar,pi];by_cases ab:c*zero.length=0;rw[if_pos ab];simp only[Vr,Vh,Vz,ae];have e1:∀zz:Array Value,(Array.range (c*zero.length)).map (fun i=>zz[i%zz.size]!)= #[]:=fun zz=>by rw[ab];simp
 have e2:∀zz:Array Value,(Array.range (c*z.cells.toList.length)).map (fun i=>zz[i%zz.size]!)= #[]:=fun zz=>by rw[af];exact e1 zz
 rw[e1,e2];rw[if_neg ab];simp only[Vr,an,Vh,Vz,ae];rw[af];cases hs;cases hi;cases K;cases K
def mkN(bytes:Nat)(l c:V):Option (Nat×Nat):=
 match l,c with
 |.C _ (.ofNat l),.C _ (.ofNat c)=>bif Nat.ble l c&&Nat.blt c 9223372036854775808&&Nat.ble (bytes*c) 281474976710656 then some (l,c)else none
 |_,_=>none
theorem FG{o:Oper}{ρ:Operand->Value}{zero:List V}{bytes:Nat}{l c:V}{n k:Nat}(K:qd P o.op zero bytes=true)(hv:h_ m [l,c] (OV ρ o.op))
 (hs:mkN bytes l c=some (n,k)):∃X elem,(execOp ρ o).run P w=.ok (.value (.slice (some ⟨w.heap.size,0,none⟩) n k)) (w.alloc (.cells X elem))/\h_ m (aW zero k) X.toList/\n<=k:=by
 unfold qd at K;split at K;rename_i t a b hy;split at K;rename_i e hu;simp at K;let⟨⟨⟨hz,ar⟩,ax⟩,hi⟩:=K;split at hi;rename_i i ac;have aj:=Vf hi;let⟨x',y',e',rx,ry⟩:=cN hv;rw[hy]at e';change[ρ a,ρ b]=[x',y']at e';simp at e';unfold mkN at hs;split at hs;rename_i k1 l k2 c;cases hb:(Nat.ble l c&&Nat.blt c 9223372036854775808&&Nat.ble (bytes*c) 281474976710656);grind;rw[hb]at hs;simp at hs;obtain⟨rfl,rfl⟩:=hs;simp only[Vd,VE]at hb;let⟨⟨h1,h2⟩,h3⟩:=hb;have h1:=Vj h1;have h3:=Vj h3;simp only[m_]at rx ry;let⟨z,an,ak⟩:=jD (w:=w) hz;have rz:h_ m zero z.cells.toList:=dK m _ _ ak;have af:=rz.T;have rel:=mg rz c;refine⟨_,e,?_,rel,h1⟩;have w1:IntKind.i64.wrap (Int.ofNat l)=(l:Int):=jS oM;have w2:IntKind.i64.wrap (Int.ofNat c)=(c:Int):=jS h2;have Z:¬((decide ((c:Int)<0)||decide ((i.bytes:Int) *(c:Int)>2^48)||decide ((l:Int)<0)||decide ((l:Int)>(c:Int)))=true):=by grind
 have ae:=fun X=>dC (P:=P) (w:=w) X e;simp only[execOp,hy,e'.1,e'.2,rx,ry,Instr.makeSlice,asInt,asIntOf,Vr,Vz,Vh,aI hu,eh ac,w1,w2];rw[if_neg (by simpa[Bool.or_assoc]using Z)];simp only[Vr,run_askRoom,Vh,cQ ar,pi];by_cases ab:c*zero.length=0;rw[if_pos ab];simp only[Vr,Vh,Vz,ae];have e1:∀zz:Array Value,(Array.range (c*zero.length)).map (fun i=>zz[i%zz.size]!)= #[]:=fun zz=>by rw[ab];simp
 have e2:∀zz:Array Value,(Array.range (c*z.cells.toList.length)).map (fun i=>zz[i%zz.size]!)= #[]:=fun zz=>by rw[af];exact e1 zz
 rw[e1,e2];rw[if_neg ab];simp only[Vr,an,Vh,Vz,ae];rw[af];cases hs;cases hi;cases K;cases K
end
section
variable {P : Program} {m : M} {h : b_} {w : World}
def jE(esz:Nat):List (Nat×Operand)->List (Nat×Nat)->Bool
 |[],[]=>true
 |(i,_)::ps,(off,n)::qs=>Nat.beq off (i*esz)&&Nat.beq n esz&&jE esz ps qs
 |_,_=>false
theorem pH{esz:Nat}{ρ:Operand→Value}:∀(qs:List (Nat×Nat))(ps:List (Nat×Operand)),jE esz ps qs=true→
 (ps.map fun p=>(p.1,ρ p.2)).map (fun p=>some (p.1*esz,esz))=qs.map some
 |[],[],_=>rfl
 |[],_::_,h=>by simp[jE]at h
 |_::_,[],h=>by simp[jE]at h
 |(off,n)::qs,(i,x)::ps,h=>by simp only[jE,Bool.and_eq_true]at h;have h1:=Nat.eq_of_beq_eq_true h.1.1;have h2:=Nat.eq_of_beq_eq_true h.1.2;simp only[List.map_cons,pH qs ps h.2,h1,h2]
def kw(h:b_)(zero:List V)(places:List (Nat×Nat))(len:Nat)(vs:List V):Option (V×b_):=
 match dY (aW zero len) places vs with
 |some c=>some (.z h.i 0 len len,k_ h c)
 |none=>none
def mW(P:Program)(op:Op)(zero:List V)(places:List (Nat×Nat))(len:Nat):Bool:=match op with
 |.buildSlice t len' parts=>match P.underlying t with
  |some (.slice e)=>Nat.beq len len'&&jR P e zero&&dR P e zero.length&&Nat.blt 0 zero.length&&Nat.ble (len*zero.length) 16777216&&jE zero.length parts.toList places
  |_=>false
 |_=>false
theorem sE{o:Oper}{ρ:Operand->Value}{zero:List V}{Z:List (Nat×Nat)}{len:Nat}{vs c:List V}(hc:mW P o.op zero Z len=true)
 (hv:h_ m vs (OV ρ o.op)) (hf:dY (aW zero len) Z vs=some c):
 ∃X elem,(execOp ρ o).run P w=.ok (.value (.slice (some ⟨w.heap.size,0,none⟩) len len)) (w.alloc (.cells X elem))/\h_ m c X.toList:=by
 unfold mW at hc;split at hc;rename_i t ax K hy;split at hc;rename_i e hu;simp only[Vd,VE]at hc;let⟨⟨⟨⟨⟨hl,hz⟩,a0⟩,a2⟩,ae⟩,a1⟩:=hc;have hl:=Vf hl;have ae:=Vj ae;subst hl;let⟨z,aH,ay⟩:=jD (w:=w) hz;have rz:h_ m zero z.cells.toList:=dK m _ _ ay;have an:=rz.T;have rel:=mg rz len;rw[hy]at hv;have ak:h_ m vs ((K.toList.map fun p=>(p.1,ρ p.2)).map (·.2)):=by simpa[OV,Op.operands,YV]using hv
 let⟨r',h1,h2⟩:=uL (fun i=>some (i*zero.length,zero.length)) Z vs _ (aW zero len) _ c hf rel ak (pH Z K.toList a1);refine⟨List.toArray r',e,?_,by simpa using h2⟩;have af:=fun X=>dC (P:=P) (w:=w) X e;have ab:(K.map fun(p:Nat×Operand)=>(p.1,ρ p.2)).toList=K.toList.map fun p=>(p.1,ρ p.2):=by simp
 have ar:¬len*zero.length>2^24:=oM;have ac:(Array.range (len*zero.length)).map (fun i=>z.cells[i%z.cells.size]!)=List.toArray ((Array.range (len*z.cells.toList.length)).map fun i=>z.cells.toList.toArray[i%z.cells.toList.toArray.size]!).toList:=by rw[an]
 simp only[execOp,hy,Instr.buildSlice,Vr,aI hu,Vh,cQ a0];rw[if_neg ar];by_cases aj:len*zero.length=0;simp only[aj,if_true,Vr,Vz,Vh];have e1:(Array.range 0).map (fun i=>(#[]:Array Value)[i%(#[]:Array Value).size]!)=List.toArray ((Array.range (len*z.cells.toList.length)).map fun i=>z.cells.toList.toArray[i%z.cells.toList.toArray.size]!).toList:=by grind
 rw[e1,ab,h1];simp[af];rw[if_neg aj];simp only[Vr,aH,Vh,Vz];rw[ac,ab,h1];simp[af];cases hc;cases hc
theorem v8(H:r_ m h w){o:Oper}{ρ:Operand->Value}{zero:List V}{Z:List (Nat×Nat)}{len:Nat}{vs:List V}{v:V}{h':b_}(hc:mW P o.op zero Z len=true)
 (hv:h_ m vs (OV ρ o.op)) (K:kw h zero Z len vs=some (v,h')):MS P m h w o ρ v h':=by
 unfold kw at K;split at K;rename_i c hf;simp at K;obtain⟨rfl,rfl⟩:=K;let⟨X,e,ab,rX⟩:=sE (P:=P) (w:=w) hc hv hf;let⟨H',E'⟩:=H.e e rX;refine⟨_,_,_,.inl ?_,⟨_,aB _ _ _,Ve _,rfl⟩,H',E'⟩;simpa using ab;cases K
def nR(h:b_)(esz:Nat)(d s:V):Option (V×b_):=
 match iK d,R_ s with
 |some dl,some sl=>
  let n:=Nat.min sl dl
  bif Nat.beq n 0 then some (.C .i64 0,h)else
   match Q9 h esz s n with
   |some vs=>
    match d with
    |.z b o _ _=>(dD h b o vs).map fun h'=>(.C .i64 n,h')
    |.L b o _ _=>(dD h b o vs).map fun h'=>(.C .i64 n,h')
    |_=>none
   |none=>none
 |_,_=>none
def zg(P:Program)(op:Op)(esz:Nat):Bool:=match gq op .copy with
 |some (args,ts)=>Nat.beq args.size 2&&(match ts[0]? with|some t=>lP P t none esz|none=>false)
 |none=>false
theorem zQ{op:Op}{b:Builtin}{args:Array Operand}{ts:Array TypeId}(hcl:gq op b=some (args,ts))(h:args.size=2):∃x y,op=.call {callee:=.builtin b,args:= #[x,y],argTypes:=ts}:=by
 unfold gq at hcl;split at hcl;rename_i b' args' ts';split at hcl;rename_i hb;subst hb;simp at hcl;obtain⟨rfl,rfl⟩:=hcl;let⟨l⟩:=args';match l,h with
 |[x,y],_=>exact⟨x,y,rfl⟩
 cases hcl;cases hcl
theorem m_.bm{v:V}{x:Value}{n:Nat}(r:m_ m v x)(Z:iK v=some n):∃a c,x=.slice a n c:=by unfold iK at Z;split at Z;cases Z;rename_i K;unfold R_ at Z;split at Z;cases Z;obtain⟨_,_,_,rfl⟩:=r;exact⟨_,_,rfl⟩;cases Z;obtain⟨_,_,_,rfl⟩:=r;exact⟨_,_,rfl⟩;cases Z;exact⟨_,_,r⟩;cases Z;obtain⟨_,_,rfl⟩:=r;exact⟨_,_,rfl⟩;cases Z;exact⟨_,_,r⟩;grind;cases Z
theorem H4{v:V}{x:Value}{n:Nat}(r:m_ m v x)(Z:R_ v=some n)(esz:Nat)(w:World):(Builtin.firstCells esz 0 x).run P w=.ok #[] w:=by unfold R_ at Z;split at Z;obtain⟨_,_,_,rfl⟩:=r;simp[Builtin.firstCells,loadCells,loadCellsFrom];obtain⟨_,_,_,rfl⟩:=r;simp[Builtin.firstCells,loadCells,loadCellsFrom];simp[m_]at r;subst r;simp[Builtin.firstCells];obtain⟨_,_,rfl⟩:=r;simp[Builtin.firstCells,loadCells,loadCellsFrom];simp[m_]at r;subst r;simp[Builtin.firstCells,loadCells,loadCellsFrom];simp[m_]at r;subst r;simp[Builtin.firstCells];cases Z
theorem Bx(H:r_ m h w){o:Oper}{ρ:Operand->Value}{esz:Nat}{d s v:V}{h':b_}(hc:zg P o.op esz=true)(hv:h_ m [d,s] (OV ρ o.op))
 (K:nR h esz d s=some (v,h')):MS P m h w o ρ v h':=by
 unfold zg at hc;split at hc;rename_i aH ts ax;simp only[Vd]at hc;let⟨a2,ht⟩:=hc;split at ht;rename_i t ar;let⟨e,hu,a4⟩:=oY ht;let⟨x,y,hy⟩:=zQ ax (Vf a2);let⟨x',y',e',rx,ry⟩:=cN hv;rw[hy]at e';change[ρ x,ρ y]=[x',y']at e';simp only[Vw,and_true]at e';unfold nR at K;split at K;rename_i dl sl ak af;let⟨da,dc,a0⟩:=rx.bm ak;have ae:=fun w=>tG (P:=P) af ry w;have base:∀w1,(execOp ρ o).run P w1=((Builtin.firstCells esz (Nat.min sl dl) y').run P w1).andThen fun cells w2=>
  ((match da with|some a=>storeCells a cells.toList|none=>pure ()).run P w2).andThen fun _ w3=>.ok (.value (goInt (Nat.min sl dl))) w3:=by
  intro w1;simp only[execOp,hy,resolve,invoke,builtin,Builtin.copy_,Vr,Vz,Vh];simp only[YC,VT,Xz,e'.1,e'.2,ar,a0,aI hu,ae,cQ a4,Vr,Vh,
   XR,XJ,XI]
  cases(Builtin.firstCells esz (Nat.min sl dl) y').run P w1 with
  |halt x y=>rfl
  |ok cells w2=>
   simp only[Vh];cases da with
   |none=>rfl
   |some a=>simp only[Vr,Vz];cases(storeCells a cells.toList).run P w2<;>rfl
 cases hb:Nat.beq (Nat.min sl dl) 0;simp only[hb,cond_false]at K;split at K;rename_i vs an;let⟨xs,a5,a3,a6⟩:=jX (P:=P) H an ry;have fin:∀b k Z,m b=some Z->da=some ⟨Z.a,Z.b+k,none⟩->(dD h b k vs).map (fun h'=>(V.C .i64 (Nat.min sl dl:Nat),h'))=some (v,h')->MS P m h w o ρ v h':=by
  intro b k Z hm aj ab;cases ac:dD h b k vs with
  |none=>rw[ac]at ab;cases ab
  |some h2=>rw[ac]at ab;simp only[Vx,Vl,VG]at ab;obtain⟨rfl,rfl⟩:=ab;let⟨w',a1,H',E'⟩:=H.i P hm ac a3;refine⟨_,w',m,.inl ?_,rfl,H',E'⟩;rw[base w,a5,aj];simp[a1,goInt]
 split at K;rename_i b k q1 q2;let⟨Z,hm,_,hx⟩:=rx;rw[hx]at a0;simp only[Value.slice.injEq]at a0;exact fin b k Z hm a0.1.symm K;rename_i b k q1 q2;let⟨Z,hm,_,hx⟩:=rx;rw[hx]at a0;simp only[Value.slice.injEq]at a0;exact fin b k Z hm a0.1.symm K;cases K;cases K;simp only[hb,cond_true,Vl,VG]at K;obtain⟨rfl,rfl⟩:=K;have ay:Nat.min sl dl=0:=Vf hb;refine⟨_,w,m,.inl ?_,rfl,H,Xx _ _ _⟩;rw[base w,ay];rw[H4 ry af esz w];cases da<;>simp[storeCells,goInt]
 cases K;cases ht;cases hc
end
section
variable {P : Program} {m : M} {h : b_} {w : World}
theorem w4(newLen:Nat):∀r c,c<newLen->Builtin.growBy newLen r c<=2*newLen+1024
 |0,c,hc=>by simp[Builtin.growBy];omega
 |r+1,c,hc=>by
  simp only[Builtin.growBy];rw[if_neg oM];by_cases hn:c+(c+768)/4<newLen;exact w4 newLen r _ hn;cases r with
  |zero=>simp[Builtin.growBy];omega
  |succ r=>simp only[Builtin.growBy];rw[if_pos oM];omega
theorem BW{Z cap:Nat}(K:cap<Z):Builtin.nextslicecap Z cap<=2*Z+1024:=by unfold Builtin.nextslicecap;split;omega;split;omega;exact w4 Z 4 cap K
def zj(P:Program)(op:Op)(esz bytes:Nat):Bool:=match gq op .append with
 |some (args,ts)=>Nat.beq args.size 2&&(match ts[0]?,ts[1]? with
  |some t,some tx=>(match P.underlying t,P.underlying tx with
   |some (.slice e),some dx=>(match dx with|.slice _=>true|.string=>true|_=>false)&&(match P.info? e with
    |some i=>Nat.beq i.size esz&&Nat.beq i.bytes bytes&&(match i.zero with|some z=>Nat.beq z.cells.size esz|none=>false)
    |none=>false)
   |_,_=>false)
  |_,_=>false)&&Nat.blt 0 esz&&Nat.blt 0 bytes
 |none=>false
structure m?(P:Program)(o:Oper)(esz bytes:Nat)(x y:Operand)(elem:TypeId)(z:Value):Prop where
 d:0<esz
 e:z.cells.size=esz
 b:∀(ρ:Operand->Value)(w:World)(base:Option Addr)(sLen sCap n:Nat),ρ x=.slice base sLen sCap->(Builtin.lenOf (ρ y)).run P w=.ok n w->sLen+n<=sCap->
  (execOp ρ o).run P w=((Builtin.firstCells esz n (ρ y)).run P w).andThen fun new w1=>
   ((match base with|some a=>storeCells (a.add (sLen*esz)) new.toList|none=>pure ()).run P w1).andThen fun _ w2=>.ok (.value (.slice base (sLen+n) sCap)) w2
 c:∀(ρ:Operand->Value)(w:World)(base:Option Addr)(sLen sCap n:Nat),ρ x=.slice base sLen sCap->(Builtin.lenOf (ρ y)).run P w=.ok n w->¬sLen+n<=sCap->
  (2*(sLen+n)+1024) *bytes<=281474976710656->∃newCap,sLen+n<=newCap/\
  (execOp ρ o).run P w=((Builtin.firstCells esz sLen (ρ x)).run P w.drew).andThen fun old w1=>((Builtin.firstCells esz n (ρ y)).run P w1).andThen fun new w2=>
   ((newRow elem (old++new++Builtin.zeroCells z.cells (newCap-(sLen+n)))).run P w2).andThen fun a w3=>.ok (.value (.slice (some a) (sLen+n) newCap)) w3
theorem FC{o:Oper}{esz bytes:Nat}(hc:zj P o.op esz bytes=true):∃x y ts elem z,o.op=.call {callee:=.builtin .append,args:= #[x,y],argTypes:=ts}/\m? P o esz bytes x y elem z:=by
 unfold zj at hc;split at hc
 ·rename_i args ts ay;simp only[Vd,VE]at hc;obtain⟨⟨⟨a0,ht⟩,aj⟩,a2⟩:=hc;obtain⟨x,y,hy⟩:=zQ ay (Vf a0);split at ht
  ·rename_i t tx ae af;split at ht
   ·rename_i e dx hu ak;simp at ht;obtain⟨a3,ht⟩:=ht;have ab:(∃e2,dx=.slice e2)\/dx=.string:=by grind
    obtain⟨e2,rfl⟩|rfl:=ab;all_goals
     split at ht
     ·rename_i i hi;simp only[Vd]at ht;obtain⟨⟨h1,h2⟩,h3⟩:=ht;split at h3
      ·rename_i z hz;have h1:=Vf h1;have h2:=Vf h2;have h3:=Vf h3;refine⟨x,y,ts,e,z,hy,aj,h3,?_,?_⟩
       ·intro ρ w base Z K n hx hl ac;simp only[execOp,hy,resolve,invoke,builtin,Builtin.append_,Vr,Vz,Vh];simp only[YC,VT,Xz,hx,ae,af,aI hu,aI ak,hl,sizeOf,eh hi,h1,Vr,Vz,Vh,
         XR,XJ,XI,VO,if_false,if_pos ac,Bool.not_false,if_true]
        cases(Builtin.firstCells esz n (ρ y)).run P w with
        |halt a b=>rfl
        |ok new w1=>
         simp only[Vh];cases base with
         |none=>rfl
         |some a=>simp;cases(storeCells (a.add (Z*esz)) new.toList).run P w1<;>rfl
       ·intro ρ w base Z K n hx hl ac a1;refine⟨(Question.appendCap (Z+n) K e).cut (w.tape w.drawn (.appendCap (Z+n) K e)),by simp only[Question.cut];omega,?_⟩;have aH:Builtin.nextslicecap (Z+n) K<=2*(Z+n)+1024:=BW oM;have ax:¬(((Z+n:Nat):Int)>IntKind.i64.max/\(false=true\/i.bytes=0)):=by grind
        have ar:¬Builtin.nextslicecap (Z+n) K*i.bytes>2^48:=by
         rw[h2];have:=Wb bytes aH;omega
        have an:∀w,(zeroValue e).run P w=.ok z w:=fun w=>by simp[zeroValue,eh hi,hz]
        simp only[execOp,hy,resolve,invoke,builtin,Builtin.append_,Vr,Vz,Vh];simp only[YC,VT,Xz,hx,ae,af,aI hu,aI ak,hl,sizeOf,eh hi,h1,Vr,Vz,Vh,
         XR,XJ,XI,VO,if_false,if_neg ac,Bool.not_false,if_true]
        rw[if_neg (eV ax)];simp only[Vr,eh hi,Vh];rw[if_neg ar];simp only[Vr,run_choose,Question.forced,VO,if_false,Vh,eh hi,run_askRoom,Vz,World.drew_eq];cases(Builtin.firstCells esz Z (.slice base Z K)).run P w.drew with
        |halt a b=>rfl
        |ok old w1=>
         simp only[Vh];cases(Builtin.firstCells esz n (ρ y)).run P w1 with
         |halt a b=>rfl
         |ok new w2=>
          simp only[Vh,an];cases(newRow e (old++new++Builtin.zeroCells z.cells ((Question.appendCap (Z+n) K e).cut (w.tape w.drawn (.appendCap (Z+n) K e))-(Z+n)))).run P w2<;>rfl
      ·cases h3
     ·cases ht
   ·cases ht
  ·cases ht
 ·cases hc
end
def vq(h:b_)(esz bytes need:Nat)(c:List V):Option (V×b_):=
 bif Nat.ble ((2*need+1024) *bytes) 281474976710656 then some (.L h.i 0 need esz,k_ h c)else none
def jO(h:b_)(esz bytes:Nat)(s x:V):Option (V×b_):=
 match R_ x with
 |none=>none
 |some n=>
  bif Nat.beq n 0 then
   match iK s with
   |some _=>some (s,h)
   |none=>none
  else
   match Q9 h esz x n with
   |none=>none
   |some xs=>
    match s with
    |.j=>vq h esz bytes n xs
    |.z b o len cap=>
     bif Nat.ble (len+n) cap then(dD h b (o+len*esz) xs).map fun h'=>(.z b o (len+n) cap,h')
     else match aq h b o (len*esz)with
      |some old=>vq h esz bytes (len+n) (old++xs)
      |none=>none
    |.L b o len e=>
     bif Nat.beq e esz&&Nat.ble ((2*(len+n)+1024) *bytes) 281474976710656 then
      match dW h b with
      |some c=>
       bif Nat.ble (o+(len+n) *esz) c.length then(dD h b (o+len*esz) xs).map fun h'=>(.L b o (len+n) e,h')
       else bif Nat.ble (o+len*esz) c.length&&aw xs then
        match dL (len*esz) (gJ c o)with
        |some old=>(oW h b (o+len*esz) (old++xs)).map fun h'=>(.L h.i 0 (len+n) e,h')
        |none=>none
       else none
      |none=>none
     else none
    |_=>none
section
variable {P : Program} {m : M} {h : b_} {w : World}
theorem kK(z:Array Value)(n:Nat):(Builtin.zeroCells z n).size=n*z.size:=by simp[Builtin.zeroCells]
theorem r_.l(H:r_ m h w):r_ m h w.drew:=H.r rfl
theorem sC(H:r_ m h w){o:Oper}{ρ:Operand->Value}{esz bytes:Nat}{x y:Operand}{elem:TypeId}{z:Value}(F:m? P o esz bytes x y elem z)
 {base:Option Addr} {len cap n:Nat} {old xs:List V} {v:V} {h':b_} (hx:ρ x=.slice base len cap) (hn:∀w,(Builtin.lenOf (ρ y)).run P w=.ok n w) (ab:¬len+n<=cap)
 (K:∃ys,(Builtin.firstCells esz len (ρ x)).run P w.drew=.ok (List.toArray ys) w.drew/\h_ m old ys/\old.length=len*esz)
 (hnew:∃ys,(Builtin.firstCells esz n (ρ y)).run P w.drew=.ok (List.toArray ys) w.drew/\h_ m xs ys/\xs.length=n*esz)
 (hs:vq h esz bytes (len+n) (old++xs)=some (v,h')):MS P m h w o ρ v h':=by
 unfold vq at hs;cases hb:Nat.ble ((2*(len+n)+1024) *bytes) 281474976710656;grind;rw[hb]at hs;simp at hs;obtain⟨rfl,rfl⟩:=hs;let⟨nc,ak,aj⟩:=F.c ρ w base len cap n hx (hn w) ab (Vj hb);let⟨ys,h1,r1,l1⟩:=K;let⟨zs,h2,r2,l2⟩:=hnew;rw[h1]at aj;simp only[Vh]at aj;rw[h2]at aj;simp only[Vh,dC]at aj;have rr:=Xw r1 r2;have ac:=r1.T;have af:=r2.T;have Z:(List.toArray ys++List.toArray zs++Builtin.zeroCells z.cells (nc-(len+n))).size=nc*esz:=by simp[kK,F.e,ac,af,l1,l2,<-Xs];congr 1;omega
 have:=H.l.q (old++xs) (List.toArray ys++List.toArray zs++Builtin.zeroCells z.cells (nc-(len+n))) elem
  (by rw[Z];simp[l1,l2,<-Xs];exact Wb _ ak)
  (fun i v hi=>by
   let⟨q,hq,rq⟩:=rr.c_ i v hi;refine⟨q,?_,rq⟩;have ae:i<(ys++zs).length:=(Vt.1 hq).1;rw[Yb (eV ae)];simpa using hq)
 let⟨H',E'⟩:=this;refine⟨_,_,_,.inl aj,⟨_,aB _ _ _,?_,?_⟩,H',(P9.h m h w).a E'⟩;simp only[Z,Yl];rw[XO _ F.d];exact ak;simp only[Z,Yl];rw[XO _ F.d]
theorem CE(H:r_ m h w){o:Oper}{ρ:Operand->Value}{esz bytes:Nat}{s x v:V}{h':b_}(hc:zj P o.op esz bytes=true)(hv:h_ m [s,x] (OV ρ o.op))
 (Z:jO h esz bytes s x=some (v,h')):MS P m h w o ρ v h':=by
 let⟨ox,oy,ts,elem,z,hy,F⟩:=FC hc;let⟨x',y',e',rx,ry⟩:=cN hv;rw[hy]at e';change[ρ ox,ρ oy]=[x',y']at e';simp only[Vw,and_true]at e';unfold jO at Z;split at Z;cases Z;rename_i n hn;have af:∀w,(Builtin.lenOf (ρ oy)).run P w=.ok n w:=fun w=>by rw[e'.2];exact tG hn ry w
 cases hb:Nat.beq n 0;simp only[hb,cond_false]at Z;split at Z;cases Z;rename_i xs bh;have hnew:∃ys,(Builtin.firstCells esz n (ρ oy)).run P w.drew=.ok (List.toArray ys) w.drew/\h_ m xs ys/\xs.length=n*esz:=by rw[e'.2];exact jX (P:=P) H.l bh ry
 have an:∃ys,(Builtin.firstCells esz n (ρ oy)).run P w=.ok (List.toArray ys) w/\h_ m xs ys/\xs.length=n*esz:=by rw[e'.2];exact jX (P:=P) H bh ry
 have bf:n≠0:=by intro q;subst q;simp at hb
 split at Z
 -- nil
 simp only[m_]at rx;have K:ρ ox=.slice none 0 0:=e'.1.trans rx;refine sC (old:=[]) (len:=0) H F K af oM ⟨[],?_,rfl,iS⟩ hnew (eV Z);rw[K];rfl
 -- a slice of a known capacity
 rename_i b k len cap;let⟨bC,hm,cb,K⟩:=rx;have K:=e'.1.trans K;cases ab:Nat.ble (len+n) cap;simp only[ab,cond_false]at Z;split at Z;rename_i old ar;refine sC H F K af (by intro q;rw[XS q]at ab;cases ab) ?_ hnew Z;rw[K];exact H.l.h P hm ar;cases Z;simp only[ab,cond_true]at Z;have ab:=Vj ab;cases ac:dD h b (k+len*esz) xs with
 |none=>rw[ac]at Z;cases Z
 |some h2=>rw[ac]at Z;simp only[Vx,Vl,VG]at Z;obtain⟨rfl,rfl⟩:=Z;let⟨ys,h1,r1,l1⟩:=an;let⟨w',bD,H',E'⟩:=H.i P hm ac r1;refine⟨_,w',m,.inl ?_,⟨bC,hm,ab,rfl⟩,H',E'⟩;rw[F.b ρ w _ len cap n K (af w) ab,h1];simp only[Vh,iW,WJ,bD]
 -- a slice of which only a least capacity is known
 rename_i b k len e;let⟨bC,hm,cb,K⟩:=rx;have K:=e'.1.trans K;cases a4:(Nat.beq e esz&&Nat.ble ((2*(len+n)+1024) *bytes) 281474976710656);rw[a4]at Z;cases Z;rw[a4]at Z;simp only[cond_true]at Z;simp only[Vd]at a4;have he:=Vf a4.1;subst he;have bc:=Vj a4.2;split at Z;rename_i c ax;let⟨f,mk,hg,ci⟩:=qj ax;let⟨bk,ba,rel⟩:=H.d b bC hm;rw[hg]at ba;cases ba;let⟨C,el,fz,hC,cc,cj,bV,ca⟩:=rel ci;cases ab:Nat.ble (k+(len+n) *e) c.length;simp only[ab,cond_false]at Z;have br:¬k+(len+n) *e<=c.length:=by intro q;rw[XS q]at ab;cases ab
 cases a2:(Nat.ble (k+len*e) c.length&&aw xs);rw[a2]at Z;cases Z;rw[a2]at Z;simp only[cond_true]at Z;simp only[Vd]at a2;have a9:=Vj a2.1;have a7:=a2.2;split at Z;rename_i old ar;let⟨bT,b6⟩:=kL ar;rw[bR]at bT b6;cases a5:oW h b (k+len*e) (old++xs)with
 |none=>rw[a5]at Z;cases Z
 |some h2=>
  rw[a5]at Z;simp only[Vx,Vl,VG]at Z;obtain⟨rfl,rfl⟩:=Z;let⟨ys,ch,r1,l1⟩:=an;have bz:=r1.T;have ak:old.length=len*e:=by rw[bT];simp at b6|-;omega
  have a0:∀i:Nat,i<len*e->old[i]? =c[k+i]? :=by intro i hi;rw[bT,Xd,if_pos hi,Wh]
  have bt:(len+n) *e=len*e+n*e:=Xs _ _ _;have ay:=F.d;have bB:0<n*e:=YX oM ay;by_cases aj:len+n<=(bC.c-k)/e
  -- in place
  have bw:(len+n) *e<=bC.c-k:=by have:=Wb e aj;exact VC this (Nat.div_mul_le_self _ _)
  let⟨w',bD,ac⟩:=kP P bC.a (bC.b+(k+len*e)) el fz ys 0 C w hC oM
   (fun j hj=>by have:=ca (k+len*e+j) oM;rwa[(oM:bC.b+(k+len*e+j)=bC.b+(k+len*e)+0+j)]at this)
   (wJ a7 r1)
  let⟨C',bW,b7,bE⟩:=ac.e C el fz hC;have a3:=H.u (loc':=⟨bC.a,bC.b+k,bC.c-k,none⟩) (news:=xs) (w':=w') hm hg a5 (eG ak) a9 oM
   ⟨Ve _,by simp[ak,l1];omega⟩
   ⟨C',el,fz,bW,by simp only[];omega,fun i u hi=>by
    simp only[];rw[bE (bC.b+k+i)];by_cases a6:i<len*e;rw[Xa oM,a0 i a6]at hi;rw[if_neg oM,WJ];exact bV _ u hi;rw[Ya oM]at hi;let⟨q,hq,rq⟩:=r1.c_ _ _ hi;have bA:=(Vt.1 hq).1;refine⟨q,?_,rq⟩;rw[if_pos oM,if_pos oM,<-hq];congr 1;omega,
    fun i hi=>by simp only[]at hi|-;have:=ca (k+i) oM;rwa[<-WJ]at this⟩
   (.inr ⟨rfl,rfl,ac.a,fun C0 bn bj aH=>by
    rw[hC]at aH;cases aH;exact⟨C',bW,b7,fun j hj=>by rw[bE j,if_neg oM]⟩⟩)
   (fun _=>⟨by simp only[];omega,fun C0 bn bj C1 aH bg j hj=>by
    rw[hC]at aH;cases aH;rw[bW]at bg;cases bg;rw[bE j,if_neg oM]⟩)
   (by rw[ac.c];exact Ve _) (by rw[ac.c];exact H.a b bC hm) ac.f ac.d ac.b
  let⟨H',E'⟩:=a3;refine⟨_,w',_,.inl ?_,⟨_,aB _ _ _,aj,rfl⟩,H',E'⟩;rw[F.b ρ w _ len _ n K (af w) aj,ch];simp only[Vh,iW,WJ,bD];simp
  -- a new row
  let⟨nc,b9,bD⟩:=F.c ρ w _ len _ n K (af w) aj bc;let⟨zs,ce,r2,l2⟩:=hnew;have a1:∃ys,(Builtin.firstCells e len (ρ ox)).run P w.drew=.ok (List.toArray ys) w.drew/\h_ m old ys/\old.length=len*e:=by rw[K];apply H.l.h P hm;unfold aq;rw[ax];exact ar
  let⟨os,h1,ro,lo⟩:=a1;rw[h1]at bD;simp only[Vh]at bD;rw[ce]at bD;simp only[Vh,dC]at bD;have rr:=Xw ro r2;have bm:=ro.T;have bi:=r2.T;have bo:(List.toArray os++List.toArray zs++Builtin.zeroCells z.cells (nc-(len+n))).size=nc*e:=by simp[kK,F.e,bm,bi,lo,l2,<-Xs];congr 1;omega
  have bv:(len+n) *e<=nc*e:=Wb e b9;have a3:=H.u (loc':=⟨w.heap.size,0,nc*e,none⟩) (news:=xs) (w':=w.drew.alloc (.cells (List.toArray os++List.toArray zs++Builtin.zeroCells z.cells (nc-(len+n))) elem)) hm hg a5 (eG ak) a9 oM
   ⟨Ve _,by simp[ak,l1];omega⟩
   ⟨_,elem,(0,0),heap_alloc_new w.drew _,by simp only[bo];omega,fun i u hi=>by
    let⟨q,hq,rq⟩:=rr.c_ i u hi;refine⟨q,?_,rq⟩;have a6:i<(os++zs).length:=(Vt.1 hq).1;simp only[VR];rw[Yb (eV a6)];simpa using hq,fun i hi=>by simp⟩
   (.inl ⟨rfl,fun i hi=>heap_alloc_old w.drew _ _ hi⟩) (fun q=>by have:=H.a b bC hm;simp only[]at q;omega) iS iS rfl rfl rfl
  let⟨H',E'⟩:=a3;refine⟨_,_,_,.inl bD,⟨_,aB _ _ _,?_,?_⟩,H',E'⟩;simp only[Yl];rw[XO _ ay];exact b9;simp only[Yl];rw[XO _ ay];rfl
 cases Z;simp only[ab,cond_true]at Z;have ab:=Vj ab;cases ac:dD h b (k+len*e) xs with
 |none=>rw[ac]at Z;cases Z
 |some h2=>
  rw[ac]at Z;simp only[Vx,Vl,VG]at Z;obtain⟨rfl,rfl⟩:=Z;let⟨ys,h1,r1,l1⟩:=an;let⟨w',bD,H',E'⟩:=H.i P hm ac r1;have aj:len+n<=(bC.c-k)/e:=by rw[Nat.le_div_iff_mul_le F.d];omega
  refine⟨_,w',m,.inl ?_,⟨bC,hm,aj,rfl⟩,H',E'⟩;rw[F.b ρ w _ len _ n K (af w) aj,h1];simp only[Vh,iW,WJ,bD]
 cases Z;cases Z;simp only[hb,cond_true]at Z;have bf:=Vf hb;subst bf;split at Z;rename_i sl ae;simp only[Vl,VG]at Z;obtain⟨rfl,rfl⟩:=Z;let⟨a,c,K⟩:=rx.bm ae;have a8:sl+0<=c:=by unfold iK at ae;split at ae;cases ae;rename_i bp;unfold R_ at ae;split at ae;cases ae;let⟨_,_,q,e⟩:=rx;rw[K]at e;cases e;exact q;cases ae;let⟨_,_,q,e⟩:=rx;rw[K]at e;cases e;exact q;cases ae;simp only[m_]at rx;rw[K]at rx;cases rx;omega;cases ae;omega;cases ae;omega;exact absurd rfl (bp _);cases ae
 refine⟨x',w,m,.inl ?_,rx,H,Xx _ _ _⟩;rw[F.b ρ w a sl c 0 (e'.1.trans K) (af w) a8,e'.2];rw[H4 ry hn esz w,K];cases a<;>simp[storeCells]
 cases Z
end
section
variable {P : Program} {m : M} {h : b_} {w : World}
def uz(ks:Option (List Nat))(a b:V):Option Bool:=
 match ks,a,b with
 |none,.C k a,.C k' b=>bif lE k k' then some (Zl a b)else none
 |some ks,.B l,.B l'=>i5 ks l l'
 |_,_,_=>none
def pP(P:Program)(t:TypeId):Option (List Nat)->Bool
 |none=>lh P t 0
 |some ks=>rI P t ks
def pQ:Option (List Nat)->V->Bool
 |none,.C _ _=>true
 |some ks,.B l=>Nat.beq l.length ks.length
 |_,_=>false
def gG(ks:Option (List Nat))(key:V):List (V×V×Nat)->Nat->Option (Option (Nat×V))
 |[],_=>some none
 |(k,v,_)::es,i=>match uz ks key k with
  |some true=>some (some (i,v))
  |some false=>gG ks key es (i+1)
  |none=>none
def M_(m:M):List (V×V×Nat)->List MapEntry->Prop
 |[],es'=>es'=[]
 |(k,v,n)::es,es'=>∃e r,es'=e::r/\m_ m k e.key/\m_ m v e.val/\e.born=n/\M_ m es r
def RO(m:M):Option (Nat×V)->Option (Nat×Value)->Prop
 |none,r=>r=none
 |some (i,v),r=>∃x,r=some (i,x)/\m_ m v x
theorem M_.aq:∀(es:List (V×V×Nat))(es':List MapEntry),es'.length=es.length→(∀(i:Nat) k v n,es[i]? =some (k,v,n)→∃e:MapEntry,es'[i]? =some e∧m_ m k e.key∧m_ m v e.val∧e.born=n)→M_ m es es'
 |[],es',hl,_=>by cases es'<;>simp_all [M_]
 |(k,v,n)::es,[],hl,_=>by simp at hl
 |(k,v,n)::es,e::r,hl,hg=>by let⟨e',h1,h2⟩:=hg 0 k v n rfl;simp at h1;subst h1;exact⟨e,r,rfl,h2.1,h2.2.1,h2.2.2,M_.aq es r (eV hl) (fun i k v n hi=>by simpa using hg (i+1) k v n (eV hi))⟩
theorem M_.T:∀{es:List (V×V×Nat)}{es':List MapEntry},M_ m es es'->es'.length=es.length
 |[],_,h=>by simp[M_]at h;subst h;rfl
 |(_,_,_)::_,_,⟨_,_,rfl,_,_,_,t⟩=>by simp[M_.T t]
theorem M_.c_:∀{es:List (V×V×Nat)}{es':List MapEntry},M_ m es es'->∀(i:Nat) k v n,es[i]? =some (k,v,n)->∃e:MapEntry,es'[i]? =some e/\m_ m k e.key/\m_ m v e.val/\e.born=n
 |[],_,_,i,_,_,_,hi=>by simp at hi
 |(_,_,_)::_,_,⟨e,_,rfl,h1,h2,h3,t⟩,0,k,v,n,hi=>by grind
 |(_,_,_)::_,_,⟨_,_,rfl,_,_,_,t⟩,i+1,k,v,n,hi=>by simpa using M_.c_ t i k v n (eV hi)
theorem AP{kk:IntKind}{key:V}{x:Value}(rx:m_ m key x):∀(es:List (V×V×Nat))(es':List MapEntry)(i:Nat)(r:Option (Nat×V)),M_ m es es'→
 gG none key es i=some r→∃r',Instr.findNow (.int kk) x es' i=some r'∧RO m r r'
 |[],es',i,r,he,hf=>by simp only[M_]at he;subst he;simp only[gG,Option.some.injEq]at hf;subst hf;exact⟨none,rfl,rfl⟩
 |(k,v,n)::es,es',i,r,he,hf=>by
  obtain⟨e,t,rfl,h1,h2,h3,ht⟩:=he;simp only[gG]at hf;cases hk:uz none key k with
  |none=>rw[hk]at hf;cases hf
  |some b=>
   rw[hk]at hf;have key1:Instr.sameNow (.int kk) x e.key=some b:=by
    cases key<;>cases k<;>simp only[uz]at hk<;>first|(cases hk;done)|skip
    rename_i t1 a t2 b';cases hkb:lE t1 t2;grind;rw[hkb]at hk;simp only[cond_true,Option.some.injEq]at hk;have:=mK hkb;subst this;simp only[m_]at rx h1;rw[rx,h1,←hk,fC];simp[Instr.sameNow]
   cases b;simp only[]at hf;obtain⟨r',f1,f2⟩:=AP rx es t (i+1) r ht hf;exact⟨r',by simp only[Instr.findNow,key1];exact f1,f2⟩;simp only[Option.some.injEq]at hf;subst hf;exact⟨some (i,e.val),by simp only[Instr.findNow,key1],_,rfl,h2⟩
theorem yV{t:TypeId}{ks:List Nat}(K:rI P t ks=true){l l':List V}{x y:Value}{r:Bool}(rx:m_ m (.B l) x)(ry:m_ m (.B l') y)(hc:i5 ks l l'=some r)(w:World):
 (Op.equal t x y).run P w=.ok r w:=by
 unfold rI at K;split at K;rename_i Z hu;simp at K;let⟨⟨h1,h2⟩,h3⟩:=K;obtain⟨xs,rfl,ac⟩:=rx;obtain⟨ys,rfl,ae⟩:=ry;have ab:P.fieldsOf t=Z:=by unfold Program.fieldsOf;rw[hu]
 show(Op.equalIn (9999+1) t (.agg (List.toArray xs)) (.agg (List.toArray ys))).run P w=.ok r w;rw[run_equalIn_struct w 9999 t _ _ (by rw[ab];exact hu) h1,ab];exact uV 9998 ks Z.toList 0 xs ys l l' r h3 (by simpa using ac) (by simpa using ae) hc;cases K
theorem rS{t:TypeId}{ks:List Nat}(hs:rI P t ks=true){key:V}{x:Value}(rx:m_ m key x)(w:World):∀(es:List (V×V×Nat))(es':List MapEntry)(i:Nat)(r:Option (Nat×V)),M_ m es es'→
 gG (some ks) key es i=some r→∃r',(Instr.findAsking t x es' i).run P w=.ok r' w∧RO m r r'
 |[],es',i,r,he,hf=>by simp only[M_]at he;subst he;simp only[gG,Option.some.injEq]at hf;subst hf;exact⟨none,rfl,rfl⟩
 |(k,v,n)::es,es',i,r,he,hf=>by
  obtain⟨e,u,rfl,h1,h2,h3,ht⟩:=he;simp only[gG]at hf;cases hk:uz (some ks) key k with
  |none=>rw[hk]at hf;cases hf
  |some b=>
   rw[hk]at hf;have key1:(Op.equal t x e.key).run P w=.ok b w:=by
    cases key<;>cases k<;>simp only[uz]at hk<;>first|(cases hk;done)|skip
    exact yV hs rx h1 hk w
   cases b;simp only[]at hf;let⟨r',f1,f2⟩:=rS hs rx w es u (i+1) r ht hf;exact⟨r',by simp[Instr.findAsking,key1,f1],f2⟩;simp only[Option.some.injEq]at hf;subst hf;exact⟨some (i,e.val),by simp[Instr.findAsking,key1],_,rfl,h2⟩
theorem rT{t:TypeId}{ks:Option (List Nat)}(hs:pP P t ks=true){key:V}{x:Value}(rx:m_ m key x)(w:World){es:List (V×V×Nat)}{K:List MapEntry}{r:Option (Nat×V)}(he:M_ m es K)
 (hf:gG ks key es 0=some r):∃r',(Instr.findKey t x K).run P w=.ok r' w/\RO m r r':=by
 cases ks with
 |none=>
  simp[pP,lh]at hs;split at hs;all_goals first|(cases hs;done)|skip
  rename_i kk _ hu;let⟨r',f1,f2⟩:=AP (kk:=kk) rx es K 0 r he hf;refine⟨r',?_,f2⟩;simp[Instr.findKey,aI hu,f1];all_goals (rename_i h0 _;cases h0)
 |some ks=>
  simp[pP]at hs;let⟨r',f1,f2⟩:=rS hs rx w es K 0 r he hf;have hu:∃Z,P.underlying t=some (.struct Z):=by unfold rI at hs;split at hs;grind;cases hs
  let⟨Z,hu⟩:=hu;cases K with
  |nil=>
   refine⟨r',?_,f2⟩;have:r'=none:=by simp[Instr.findAsking]at f1;exact f1.symm
   subst this;simp[Instr.findKey,aI hu,Instr.findNow]
  |cons e u=>
   refine⟨r',?_,f2⟩;have hn:Instr.findNow (.struct Z) x (e::u) 0=none:=by simp[Instr.findNow,Instr.sameNow]
   simp[Instr.findKey,aI hu,hn,f1]
theorem nP{t:TypeId}{k:Nat}(Z:lh P t k=true)(e:Bool)(n:Nat)(x:Value)(w:World):(Instr.checkKey e (n+1) t x).run P w=.ok () w:=by
 unfold lh at Z;split at Z;all_goals first|(cases Z;done)|skip
 all_goals
  rename_i K;simp only[Instr.checkKey,Vr,aI K,Vh];cases x<;>rfl
theorem r7{cs:List Value}(e:Bool)(n:Nat)(w:World):∀(ks:List Nat)(fs:List Field)(j:Nat),jx P j fs ks=true→j+ks.length≤cs.length→
 (forIn (m:=Sem) fs PUnit.unit (fun f _=>do
  if f.name≠ "_" then Instr.checkKey e (n+1) f.type (←part f.type (List.toArray cs) f.offset)
  pure (ForInStep.yield PUnit.unit))).run P w=.ok PUnit.unit w
 |[],[],j,_,_=>by simp
 |[],_::_,_,hf,_=>by simp[jx]at hf
 |_::_,[],_,hf,_=>by simp[jx]at hf
 |k::ks,f::fs,j,hf,hl=>by
  simp only[jx,Bool.and_eq_true,Bool.not_eq_true',beq_eq_false_iff_ne]at hf;let⟨⟨⟨hname,hoff⟩,hleaf⟩,hrest⟩:=hf;have hoff:=Nat.eq_of_beq_eq_true hoff;have hagg:=Au hleaf;simp only[List.length_cons]at hl;have hj:j<cs.length:=oM;have hp:(part f.type (List.toArray cs) f.offset).run P w=.ok cs[j] w:=by simp[part,jk hagg,hoff,hj]
  have ih:=r7 (cs:=cs) e n w ks fs (j+1) hrest oM;simp only[List.forIn_cons,Sem.run_bind,hname,ne_eq,not_false_eq_true,if_true,Result.andThen_ok,hp,nP hleaf,Sem.run_pure];exact ih
theorem qh{t:TypeId}{ks:Option (List Nat)}(K:pP P t ks=true){key:V}{x:Value}(rx:m_ m key x)(hf:pQ ks key=true)(e:Bool)(w:World):(Instr.checkKey e 10000 t x).run P w=.ok () w:=by
 cases ks with
 |none=>exact nP K e 9999 x w
 |some ks=>
  cases key<;>simp only[pQ]at hf<;>first|(cases hf;done)|skip
  rename_i l;have hf:=Vf hf;obtain⟨xs,rfl,ab⟩:=rx;simp[pP,rI]at K;split at K;rename_i Z hu;simp at K;have hx:=ab.T;show(Instr.checkKey e (9998+1+1) t _).run P w=_;rw[Instr.checkKey];simp only[Vr,aI hu,Vh];rw[<-Array.forIn_toList];have:=r7 (P:=P) (cs:=xs) e 9998 w ks Z.toList 0 K.2 oM;simp only[ne_eq,seval]at this|-;rw[this];rfl;cases K
end
mutual
def R4:V->V->Bool
 |.h a,.h b=> !(xor a b)
 |.C k n,.C k' n'=>lE k k'&&Zl n n'
 |.f s,.f t=>s==t
 |.K,.K=>true
 |.u b o,.u b' o'=>Nat.beq b b'&&Nat.beq o o'
 |.j,.j=>true
 |.z b o l c,.z b' o' l' c'=>Nat.beq b b'&&Nat.beq o o'&&Nat.beq l l'&&Nat.beq c c'
 |.L b o l c,.L b' o' l' c'=>Nat.beq b b'&&Nat.beq o o'&&Nat.beq l l'&&Nat.beq c c'
 |.F,.F=>true
 |.af,.af=>true
 |.ad b,.ad b'=>Nat.beq b b'
 |.R,.R=>true
 |.I f a c,.I f' a' c'=>decide (f=f')&&nT a a'&&nT c c'
 |.am,.am=>true
 |.ah t v,.ah t' v'=>Nat.beq t t'&&R4 v v'
 |.B l,.B l'=>nT l l'
 |.G l,.G l'=>nT l l'
 |.ak b,.ak b'=>Nat.beq b b'
 |.aa a c,.aa a' c'=>decide (a=a')&&Nat.beq c c'
 |_,_=>false
def nT:List V->List V->Bool
 |[],[]=>true
 |v::vs,u::us=>R4 v u&&nT vs us
 |_,_=>false
end
mutual
theorem tp:∀(a b:V),R4 a b=true→a=b
 |.h a,b,h=>by cases b<;>simp[R4]at h;rename_i b;cases a<;>cases b<;>simp_all
 |.C k n,b,h=>by cases b<;>simp[R4]at h;rename_i k' n';have:=mK h.1;subst this;have h2:=h.2;rw[fC]at h2;simp at h2;subst h2;rfl
 |.f s,b,h=>by cases b<;>simp[R4]at h;subst h;rfl
 |.K,b,h=>by cases b<;>simp[R4]at h;rfl
 |.u p o,b,h=>by cases b<;>simp[R4]at h;obtain⟨rfl,rfl⟩:=h;rfl
 |.j,b,h=>by cases b<;>simp[R4]at h;rfl
 |.z p o l c,b,h=>by cases b<;>simp[R4]at h;obtain⟨⟨⟨rfl,rfl⟩,rfl⟩,rfl⟩:=h;rfl
 |.L p o l c,b,h=>by cases b<;>simp[R4]at h;obtain⟨⟨⟨rfl,rfl⟩,rfl⟩,rfl⟩:=h;rfl
 |.F,b,h=>by cases b<;>simp[R4]at h;rfl
 |.af,b,h=>by cases b<;>simp[R4]at h;rfl
 |.ad p,b,h=>by cases b<;>simp[R4]at h;subst h;rfl
 |.R,b,h=>by cases b<;>simp[R4]at h;rfl
 |.I f x y,b,h=>by cases b<;>simp only[R4,Bool.false_eq_true]at h;simp only[Bool.and_eq_true,decide_eq_true_eq]at h;obtain⟨⟨rfl,h1⟩,h2⟩:=h;rw[mi _ _ h1,mi _ _ h2]
 |.am,b,h=>by cases b<;>simp[R4]at h;rfl
 |.ah t v,b,h=>by cases b<;>simp only[R4,Bool.false_eq_true]at h;simp only[Bool.and_eq_true]at h;rw[Nat.eq_of_beq_eq_true h.1,tp _ _ h.2]
 |.B l,b,h=>by cases b<;>simp only[R4,Bool.false_eq_true]at h;rw[mi _ _ h]
 |.G l,b,h=>by cases b<;>simp only[R4,Bool.false_eq_true]at h;rw[mi _ _ h]
 |.ak p,b,h=>by cases b<;>simp[R4]at h;subst h;rfl
 |.aa a c,b,h=>by cases b<;>simp[R4]at h;obtain⟨rfl,rfl⟩:=h;rfl
theorem mi:∀(a b:List V),nT a b=true->a=b
 |[],[],_=>rfl
 |[],_::_,h=>by simp[nT]at h
 |_::_,[],h=>by simp[nT]at h
 |v::vs,u::us,h=>by simp[nT]at h;rw[tp v u h.1,mi vs us h.2]
end
section
variable {P : Program} {m : M} {h : b_} {w : World}
def JD:V->Bool
 |.C _ _=>true
 |.h _=>true
 |.f _=>true
 |_=>false
def nJ:Option (List Nat)->V->Bool
 |some ks,.B l=>Nat.beq l.length ks.length&&l.all JD
 |ks,v=>pQ ks v
theorem uy{ks:Option (List Nat)}{v:V}(h:nJ ks v=true):pQ ks v=true:=by unfold nJ at h;split at h;simp only[Vd]at h;exact h.1;exact h
theorem ww{v:V}{x y:Value}(hs:JD v=true)(K:m_ m v x)(Z:m_ m v y)(n:Nat):x=y/\Instr.sameBits n x y=true:=by
 cases v<;>simp only[JD]at hs<;>first|(cases hs;done)|skip
 all_goals
  simp only[m_]at K Z;subst K;subst Z;refine⟨rfl,?_⟩;cases n<;>simp[Instr.sameBits,beq_toListBytes]
theorem tM(n:Nat):∀(l:List V)(xs ys:List Value),l.all JD=true→h_ m l xs→h_ m l ys→xs=ys∧((xs.zip ys).all fun p=>Instr.sameBits n p.1 p.2)=true
 |[],xs,ys,_,hx,hy=>by simp only[h_]at hx hy;subst hx;subst hy;exact⟨rfl,rfl⟩
 |v::l,xs,ys,hs,⟨x,xs',e1,r1,t1⟩,⟨y,ys',e2,r2,t2⟩=>by subst e1;subst e2;simp only[List.all_cons,Bool.and_eq_true]at hs;let⟨a,b⟩:=ww hs.1 r1 r2 n;let⟨c,d⟩:=tM n l xs' ys' hs.2 t1 t2;exact⟨by rw[a,c],by simp only[List.zip_cons_cons,List.all_cons,b,d];rfl⟩
theorem HI{ks:Option (List Nat)}{v:V}{x y:Value}(Z:nJ ks v=true)(rx:m_ m v x)(ry:m_ m v y):Instr.sameBits 10000 x y=true:=by unfold nJ at Z;split at Z;rename_i ks l;simp only[Vd]at Z;obtain⟨xs,rfl,K⟩:=rx;obtain⟨ys,rfl,ab⟩:=ry;let⟨a,b⟩:=tM 9999 l xs ys Z.2 K ab;subst a;show Instr.sameBits (9999+1) _ _=true;simp only[Instr.sameBits,Vd];exact⟨iS,by simpa using b⟩;rename_i ac;unfold pQ at Z;split at Z;exact(ww rfl rx ry 10000).2;grind;cases Z
def lF(h:b_):b_:=⟨h.S.B_ h.i (.f [] 0),h.i+1,h.Q⟩
theorem r_.x(H:r_ m h w):r_ (eU m h.i ⟨w.heap.size,0,0,none⟩) (lF h) (w.alloc (.map #[] 0))/\P9 m h w (eU m h.i ⟨w.heap.size,0,0,none⟩) (lF h) (w.alloc (.map #[] 0)):=by
 have ab:=H.f ⟨w.heap.size,0,0,none⟩;refine⟨⟨⟨?_,?_⟩,?_,?_,?_⟩,⟨ab,?_,YJ _,?_,iS,?_,rfl,rfl,rfl,Y9.d m _ _ rfl,fun b hb=>XY (heap_alloc_old w _ _ hb),pK rfl⟩⟩;intro p cp f k Z;show match h.Q.c_ f with|none=>f=p|some (_,e)=>k<=e
 rw[lF,WB]at Z;by_cases e:p=h.i;grind;rw[if_neg e]at Z;exact H.g.b _ _ _ _ Z;intro p Z;have ae:h.i+1<=p:=Z;refine⟨?_,(H.g.a p oM).2⟩;rw[lF,Vi _ _ oM];exact(H.g.a p oM).1;intro p K Z;by_cases e:p=h.i;subst e;rw[aB]at Z;cases Z;exact⟨.f [] 0,by rw[lF,VS],[],heap_alloc_new w _,rfl,fun i k v n hi=>by simp at hi⟩;rw[aJ _ _ e]at Z;let⟨b,hb,r⟩:=H.d p K Z;refine⟨b,by rw[lF,Vi _ _ e];exact hb,r.ag ab (fun _ _ _ _ x=>x) (heap_alloc_old w _ _ (H.a p K Z))⟩;intro p K Z;by_cases e:p=h.i;subst e;rw[aB]at Z;cases Z;simp;rw[aJ _ _ e]at Z;have:=H.a p K Z;simp;omega;intro p q lp lq Z hq he ac;by_cases e:p=h.i;subst e;rw[aB]at Z;cases Z;rw[aJ _ _ (WW ac)]at hq;have:=H.a q lq hq;simp at he;omega;rw[aJ _ _ e]at Z;by_cases e2:q=h.i;subst e2;rw[aB]at hq;cases hq;have:=H.a p lp Z;simp at he;omega;rw[aJ _ _ e2]at hq;let⟨cp,cq,f,kp,kq,a,b,d⟩:=H.c p q lp lq Z hq he ac;exact⟨cp,cq,f,kp,kq,by rw[lF,Vi _ _ e];exact a,by rw[lF,Vi _ _ e2];exact b,d⟩;intro p K Z hn;by_cases e:p=h.i;subst e;rw[aB]at Z;cases Z;exact⟨Ve _,.inl (Ve _)⟩;rw[aJ _ _ e]at Z;rw[Z]at hn;cases hn;intro p _ Z;rw[lF,Vi _ _ oM];intro b _ hb;exact heap_alloc_old w _ _ hb
def kF(h:b_)(b:Nat)(es:List (V×V×Nat))(clock:Nat):b_:=⟨h.S.B_ b (.f es clock),h.i,h.Q⟩
theorem r_.z(H:r_ m h w){b:Nat}{ab:V1}(hm:m b=some ab){ay:List (V×V×Nat)}{c0:Nat}(hb:h.S.c_ b=some (.f ay c0)){es:List (V×V×Nat)}{ac:List MapEntry}(Z:Nat)(he:M_ m es ac):
 r_ m (kF h b es Z) {w with heap:=w.heap.setIfInBounds ab.a (.map (List.toArray ac) Z)}/\
 P9 m h w m (kF h b es Z) {w with heap:=w.heap.setIfInBounds ab.a (.map (List.toArray ac) Z)}:=by
 have ar:=H.a b ab hm;have af:∀p lp,m p=some lp->p≠b->lp.a≠ab.a:=by intro p lp K ak aj;let⟨cp,cq,f,kp,kq,a1,a2,_⟩:=H.c p b lp ab K hm aj ak;rw[hb]at a2;cases a2
 refine⟨⟨⟨?_,?_⟩,?_,?_,?_⟩,⟨fun _ _ x=>x,fun p l a c=>(by rw[a]at c;cases c),Ve _,?_,iS,?_,rfl,rfl,rfl,fun _ _ _ x=>x,?_,fun _ _ a b=>by simp[a]at b⟩⟩;intro p cp f k K;show match h.Q.c_ f with|none=>f=p|some (_,e)=>k<=e
 rw[kF,WB]at K;by_cases e:p=b;grind;rw[if_neg e]at K;exact H.g.b _ _ _ _ K;intro p K;have an:=H.g.a p K;have ax:p≠b:=by grind
 exact⟨by rw[kF,Vi _ _ ax];exact an.1,an.2⟩;intro p lp K;by_cases e:p=b;subst e;rw[hm]at K;cases K;refine⟨.f es Z,by rw[kF,VS],ac,by simp[ar],he.T,he.c_⟩;let⟨bk,ae,r⟩:=H.d p lp K;refine⟨bk,by rw[kF,Vi _ _ e];exact ae,r.ag (fun _ _ x=>x) (fun _ _ _ _ x=>x) ?_⟩;have:=af p lp K e;simp[WW this];intro p lp K;have:=H.a p lp K;simpa using this;intro p q lp lq K hq aj ak;let⟨cp,cq,f,kp,kq,a1,a2,a3⟩:=H.c p q lp lq K hq aj ak;have h1:p≠b:=by grind
 have h2:q≠b:=by grind
 exact⟨cp,cq,f,kp,kq,by rw[kF,Vi _ _ h1];exact a1,by rw[kF,Vi _ _ h2];exact a2,a3⟩;intro p hn K;have h1:p≠b:=by grind
 rw[kF,Vi _ _ h1];grind;intro g aH;by_cases h4:g=ab.a;subst h4;let⟨bk,ae,rel⟩:=H.d b ab hm;rw[hb]at ae;cases ae;let⟨a4,a0,_⟩:=rel;intro x hx;rw[a0]at hx;cases hx;exact⟨.map (List.toArray ac) Z,by simp[ar],trivial⟩;exact XY (by simp[WW h4])
def amm(h:b_):List V->Option (V×b_)
 |[]=>some (.ad h.i,lF h)
 |[.C _ _]=>some (.ad h.i,lF h)
 |_=>none
def In(P:Program)(op:Op):Bool:=match op with
 |.makeMap t _=>(match P.underlying t with|some (.map _ _)=>true|_=>false)
 |_=>false
theorem FE(H:r_ m h w){o:Oper}{ρ:Operand->Value}{vs:List V}{v:V}{h':b_}(hc:In P o.op=true)(hv:h_ m vs (OV ρ o.op))(K:amm h vs=some (v,h')):MS P m h w o ρ v h':=by
 unfold In at hc;split at hc;rename_i t r hy;split at hc;rename_i kt et hu;let⟨H',E'⟩:=H.x;rw[hy]at hv;have run:∀q:Option Value,(∀y,q=some y->∃k n,y=.int k n)->(Instr.makeMap t q).run P w=.ok (.map (some w.heap.size)) (w.alloc (.map #[] 0)):=by
  intro q Z;cases q with
  |none=>simp[Instr.makeMap]
  |some y=>obtain⟨k,n,rfl⟩:=Z y rfl;simp[Instr.makeMap,aI hu,asInt,asIntOf]
 have go:(∀y,r.map ρ=some y->∃k n,y=.int k n)->v=.ad h.i->h'=lF h->MS P m h w o ρ v h':=by rintro Z rfl rfl;refine⟨_,_,_,.inl ?_,⟨_,aB _ _ _,rfl⟩,H',E'⟩;simp[execOp,hy,run _ Z]
 unfold amm at K;split at K;cases K;refine go (fun y Z=>?_) rfl rfl;cases r with
 |none=>cases Z
 |some a=>simp[Op.operands,h_]at hv
 rename_i k n;cases K;refine go (fun y Z=>?_) rfl rfl;cases r with
 |none=>cases Z
 |some a=>let⟨x,e,rx⟩:=cF hv;simp[Op.operands]at e;simp at Z;simp[m_]at rx;exact⟨k,n,by rw[<-Z,e,rx]⟩
 cases K;cases hc;cases hc
def Gh(P:Program)(t:TypeId)(z:V):Bool:=match P.info? t with
 |some i=>match i.zero with
  |some x=>V9 z x
  |none=>false
 |none=>false
theorem Ew{t:TypeId}{z:V}(Z:Gh P t z=true)(w:World):∃x,(zeroValue t).run P w=.ok x w/\m_ m z x:=by unfold Gh at Z;split at Z;rename_i i hi;split at Z;rename_i x K;exact⟨x,by simp[zeroValue,eh hi,K],yb m _ _ Z⟩;cases Z;cases Z
def Cd(h:b_):V->Option (List (V×V×Nat))
 |.af=>some []
 |.ad b=>match h.S.c_ b with
  |some (.f es _)=>some es
  |_=>none
 |_=>none
def D?(h:b_)(ks:Option (List Nat))(zero:V)(ok:Bool)(x key:V):Option V:=
 match Cd h x with
 |some es=>bif nJ ks key then
  match gG ks key es 0 with
  |some (some (_,v))=>some (bif ok then .G [v,.h true]else v)
  |some none=>some (bif ok then .G [zero,.h false]else zero)
  |none=>none
  else none
 |none=>none
def Io(P:Program)(op:Op)(ks:Option (List Nat))(zero:V)(ok:Bool):Bool:=match op with
 |.lookup t _ _ ok'=>(ok==ok')&&(match P.underlying t with|some (.map k e)=>pP P k ks&&Gh P e zero|_=>false)
 |_=>false
theorem FJ(H:r_ m h w){o:Oper}{ρ:Operand->Value}{ks:Option (List Nat)}{zero:V}{ok:Bool}{x key v:V}(hc:Io P o.op ks zero ok=true)(hv:h_ m [x,key] (OV ρ o.op))
 (K:D? h ks zero ok x key=some v):MS P m h w o ρ v h:=by
 unfold Io at hc;split at hc;rename_i t a b ok' hy;simp at hc;obtain⟨ar,hc⟩:=hc;subst ar;split at hc;rename_i kt et hu;simp at hc;obtain⟨hk,hz⟩:=hc;obtain⟨x',y',e',rx,ry⟩:=cN hv;rw[hy]at e';change[ρ a,ρ b]=[x',y']at e';simp at e';unfold D? at K;split at K;rename_i es Z;cases af:nJ ks key;grind;rw[af]at K;simp at K;have ae:=fun e=>qh (P:=P) hk ry (uy af) e w;obtain⟨zx,aj,rz⟩:=Ew (m:=m) hz w;have ac:∀ab:List MapEntry,M_ m es ab->(∀r',(Instr.findKey kt y' ab).run P w=.ok r' w->(Instr.lookup t x' y' ok).run P w=.ok (match r' with
  |some (_,u)=>if ok then .tuple #[u,.bool true]else u
  |none=>if ok then .tuple #[zx,.bool false]else zx) w)->MS P m h w o ρ v h:=by
  intro ab he an;cases hf:gG ks key es 0 with
  |none=>rw[hf]at K;cases K
  |some r=>
   rw[hf]at K;obtain⟨r',f1,f2⟩:=rT hk ry w he hf;have hl:=an r' f1;cases r with
   |none=>simp[RO]at f2;subst f2;simp at K;subst K;refine⟨if ok then .tuple #[zx,.bool false]else zx,w,m,.inl ?_,?_,H,Xx _ _ _⟩;simp[execOp,hy,e'.1,e'.2,hl];cases ok;exact rz;exact⟨[zx,.bool false],rfl,zx,_,rfl,rz,_,_,rfl,rfl,rfl⟩
   |some p=>obtain⟨i,u⟩:=p;obtain⟨ux,rfl,ru⟩:=f2;simp at K;subst K;refine⟨if ok then .tuple #[ux,.bool true]else ux,w,m,.inl ?_,?_,H,Xx _ _ _⟩;simp[execOp,hy,e'.1,e'.2,hl];cases ok;exact ru;exact⟨[ux,.bool true],rfl,ux,_,rfl,ru,_,_,rfl,rfl,rfl⟩
 unfold Cd at Z;split at Z;cases Z;simp[m_]at rx;subst rx;refine ac [] rfl (fun r' hr=>?_);simp only[Instr.lookup,Vr,aI hu,Vh,Vz,ae,hr];cases r' with
 |none=>simp[aj]
 |some p=>simp
 rename_i b';split at Z;rename_i ay cl hb;cases Z;obtain⟨ax,hm,rfl⟩:=rx;obtain⟨bk,ak,rel⟩:=H.d b' ax hm;rw[hb]at ak;cases ak;obtain⟨ab,g1,g2,g3⟩:=rel;refine ac ab (M_.aq _ _ g2 g3) (fun r' hr=>?_);simp only[Instr.lookup,Vr,aI hu,Vh,Vz,Go.MapKept.run_getObj_map g1,ae,hr];cases r' with
 |none=>simp[aj]
 |some p=>simp
 cases Z;cases Z;cases K;cases hc;cases hc
def N?(h:b_)(ks:Option (List Nat))(x key val:V):Option (V×b_):=
 match x with
 |.ad b=>match h.S.c_ b with
  |some (.f es clock)=>bif nJ ks key then
   match gG ks key es 0 with
   |some (some (i,_))=>match es[i]? with
    |some (k,_,n)=>bif R4 key k then some (.G [],kF h b (es.set i (key,val,n)) clock)else none
    |none=>none
   |some none=>some (.G [],kF h b (es++[(key,val,clock)]) (clock+1))
   |none=>none
   else none
  |_=>none
 |_=>none
def Im(P:Program)(op:Op)(ks:Option (List Nat)):Bool:=match op with
 |.mapUpdate t _ _ _=>(match P.underlying t with|some (.map k _)=>pP P k ks|_=>false)
 |.insert t _ _ _=>(match P.underlying t with|some (.map k _)=>pP P k ks|_=>false)
 |_=>false
theorem M_.aA{es es2:List (V×V×Nat)}{es' es2':List MapEntry}(a:M_ m es es')(b:M_ m es2 es2'):M_ m (es++es2) (es'++es2'):=by
 induction es generalizing es' with
 |nil=>simp[M_]at a;subst a;exact b
 |cons p es ih=>let⟨k,v,n⟩:=p;obtain⟨e,r,rfl,h1,h2,h3,t⟩:=a;exact⟨e,r++es2',rfl,h1,h2,h3,ih t⟩
theorem M_.B_{es:List (V×V×Nat)}{es':List MapEntry}(a:M_ m es es'){i:Nat}{k v:V}{n:Nat}{e:MapEntry}(h1:m_ m k e.key)(h2:m_ m v e.val)(h3:e.born=n):M_ m (es.set i (k,v,n)) (es'.set i e):=by
 induction es generalizing es' i with
 |nil=>simp[M_]at a;subst a;simp[M_]
 |cons p es ih=>
  let⟨k0,v0,n0⟩:=p;obtain⟨e0,r,rfl,g1,g2,g3,t⟩:=a;cases i with
  |zero=>exact⟨e,r,rfl,h1,h2,h3,t⟩
  |succ i=>exact⟨e0,r.set i e,rfl,g1,g2,g3,ih t⟩
theorem FD(H:r_ m h w){o:Oper}{ρ:Operand->Value}{ks:Option (List Nat)}{x key val v:V}{h':b_}(hc:Im P o.op ks=true)(hv:h_ m [x,key,val] (OV ρ o.op))
 (K:N? h ks x key val=some (v,h')):MS P m h w o ρ v h':=by
 have ac:∀(t:TypeId)(a b c:Operand),(execOp ρ o).run P w=((Instr.mapUpdate t (ρ a) (ρ b) (ρ c)).run P w).andThen (fun _ w'=>.ok .skip w')->OV ρ o.op=[ρ a,ρ b,ρ c]->
  (∃kt et,P.underlying t=some (.map kt et)/\pP P kt ks=true)->MS P m h w o ρ v h':=by
  rintro t a b c ax ak ⟨kt,et,hu,hk⟩;rw[ak]at hv;let⟨x',y',z',e',rx,ry,rz⟩:=tu hv;simp at e';unfold N? at K;split at K;rename_i b';split at K;rename_i es Z hb;cases ae:nJ ks key;grind;rw[ae]at K;simp at K;have an:=fun e=>qh (P:=P) hk ry (uy ae) e w;obtain⟨a0,hm,rfl⟩:=rx;let⟨bk,ar,rel⟩:=H.d b' a0 hm;rw[hb]at ar;cases ar;let⟨ab,g1,g2,g3⟩:=rel;have he:=M_.aq _ _ g2 g3;cases hf:gG ks key es 0 with
  |none=>rw[hf]at K;cases K
  |some r=>
   rw[hf]at K;let⟨r',f1,f2⟩:=rT hk ry w he hf;cases r with
   |none=>simp[RO]at f2;subst f2;simp at K;obtain⟨rfl,rfl⟩:=K;have af:M_ m (es++[(key,val,Z)]) (ab++[{key:=y',val:=z',born:=Z}]):=he.aA ⟨_,_,rfl,ry,rz,rfl,rfl⟩;let⟨H',E'⟩:=H.z hm hb (Z+1) af;refine⟨undef,_,m,.inr ⟨?_,rfl⟩,⟨[],rfl,rfl⟩,H',E'⟩;rw[ax,e'.1,e'.2.1,e'.2.2];simp[Instr.mapUpdate,aI hu,Go.MapKept.run_getObj_map g1,an,f1,Go.MapKept.run_setObj_map _ g1]
   |some p=>
    let⟨i,u⟩:=p;obtain⟨ux,rfl,ru⟩:=f2;simp at K;split at K;rename_i k0 v0 n0 hi;cases hq:R4 key k0;grind;rw[hq]at K;simp at K;obtain⟨rfl,rfl⟩:=K;have:=tp _ _ hq;subst this;let⟨e0,q1,q2,q3,q4⟩:=he.c_ i _ _ _ hi;have aH:=HI ae q2 ry;have af:M_ m (es.set i (key,val,n0)) (ab.set i {e0 with key:=y',val:=z'}):=he.B_ ry rz q4;let⟨H',E'⟩:=H.z hm hb Z af;refine⟨undef,_,m,.inr ⟨?_,rfl⟩,⟨[],rfl,rfl⟩,H',E'⟩;rw[ax,e'.1,e'.2.1,e'.2.2];have aj:(List.toArray ab).modify i (fun e=>{e with key:=y',val:=z'})=List.toArray (ab.set i {e0 with key:=y',val:=z'}):=by grind
    have ay:(List.toArray ab)[i]? =some e0:=by simpa using q1
    simp only[Instr.mapUpdate,Vr,aI hu,Vh,Go.MapKept.run_getObj_map g1,an,f1,ay,Vx,Ye,Instr.keyThatStays,aH,if_true,Vz,aj,Go.MapKept.run_setObj_map _ g1];cases K
  cases K;cases K
 unfold Im at hc;split at hc;rename_i t a b c hy;split at hc;rename_i kt et hu;refine ac t a b c ?_ (by rw[hy];rfl) ⟨kt,et,hu,hc⟩;simp[execOp,hy];cases hc;rename_i t a b c hy;split at hc;rename_i kt et hu;refine ac t a b c ?_ (by rw[hy];rfl) ⟨kt,et,hu,hc⟩;simp[execOp,hy];cases hc;cases hc
end
section
variable {P : Program} {m : M} {h : b_} {w : World}
def CB(h:b_)(zero:List V)(d:V):Option (V×b_):=
 match d with
 |.j=>some (.G [],h)
 |.F=>some (.G [],h)
 |.z b o n _=>bif Nat.beq n 0 then some (.G [],h)else(dD h b o (aW zero n)).map fun h'=>(.G [],h')
 |.L b o n _=>bif Nat.beq n 0 then some (.G [],h)else(dD h b o (aW zero n)).map fun h'=>(.G [],h')
 |_=>none
def Cp(P:Program)(op:Op)(zero:List V):Bool:=match gq op .clear with
 |some (args,ts)=>Nat.beq args.size 1&&(match ts[0]? with
  |some t=>(match P.underlying t with|some (.slice e)=>jR P e zero|_=>false)
  |none=>false)
 |none=>false
theorem Hp{op:Op}{b:Builtin}{args:Array Operand}{ts:Array TypeId}(hcl:gq op b=some (args,ts))(h:args.size=1):∃x,op=.call {callee:=.builtin b,args:= #[x],argTypes:=ts}:=by
 unfold gq at hcl;split at hcl;rename_i b' args' ts';split at hcl;rename_i hb;subst hb;simp at hcl;obtain⟨rfl,rfl⟩:=hcl;let⟨l⟩:=args';match l,h with
 |[x],_=>exact⟨x,rfl⟩
 cases hcl;cases hcl
theorem CA(H:r_ m h w){o:Oper}{ρ:Operand->Value}{zero:List V}{d v:V}{h':b_}(hc:Cp P o.op zero=true)(hv:h_ m [d] (OV ρ o.op))
 (hs:CB h zero d=some (v,h')):MS P m h w o ρ v h':=by
 unfold Cp at hc;split at hc;rename_i ak ts aj;simp only[Vd]at hc;let⟨ax,ht⟩:=hc;split at ht;rename_i t ae;split at ht;rename_i e hu;let⟨x,hy⟩:=Hp aj (Vf ax);let⟨x',e',rx⟩:=cF hv;rw[hy]at e';change[ρ x]=[x']at e';simp at e';let⟨z,hz,ar⟩:=jD (w:=w) ht;have rz:h_ m zero z.cells.toList:=dK m _ _ ar;have af:(execOp ρ o).run P w=((Builtin.clear_ ts o.type #[x']).run P w).andThen fun y w'=>.ok (.value y) w':=by simp[execOp,hy,resolve,invoke,builtin,e']
 have ac:(∃c,x'=.slice none 0 c)\/(∃a c,x'=.slice a 0 c)->v=.G []->h'=h->MS P m h w o ρ v h':=by rintro hx rfl rfl;refine⟨.tuple #[],w,m,.inl ?_,⟨[],rfl,rfl⟩,H,Xx _ _ _⟩;rw[af];obtain⟨c,rfl⟩|⟨a,c,rfl⟩:=hx;simp[Builtin.clear_,ae,aI hu];cases a<;>simp[Builtin.clear_,ae,aI hu]
 have st:∀b k n c K,m b=some K->x'=.slice (some ⟨K.a,K.b+k,none⟩) n c->(bif Nat.beq n 0 then some (V.G [],h)else(dD h b k (aW zero n)).map fun h'=>(V.G [],h'))=some (v,h')->MS P m h w o ρ v h':=by
  intro b k n c K hm hx Z;cases hb:Nat.beq n 0;rw[hb]at Z;simp only[cond_false]at Z;cases ab:dD h b k (aW zero n)with
  |none=>rw[ab]at Z;cases Z
  |some h2=>
   rw[ab]at Z;simp at Z;obtain⟨rfl,rfl⟩:=Z;have rel:=mg rz n;let⟨w',an,H',E'⟩:=H.i P hm ab rel;refine⟨.tuple #[],w',m,.inl ?_,⟨[],rfl,rfl⟩,H',E'⟩;rw[af,hx];have hn:n≠0:=by intro q;subst q;cases hb
   obtain⟨n',rfl⟩:=Nat.exists_eq_succ_of_ne_zero hn;simp only[Builtin.clear_,ae,Vr,aI hu,Vh,XR,XJ,hz,Builtin.zeroCells,Vz];have e1:z.cells.size=z.cells.toList.length:=by simp
   rw[e1,(iS:z.cells=z.cells.toList.toArray)];simp only[List.size_toArray]at an|-;rw[an];rfl
  rw[hb]at Z;simp at Z;have:=Vf hb;subst this;exact ac (.inr ⟨_,_,hx⟩) Z.1.symm Z.2.symm
 unfold CB at hs;split at hs;cases hs;exact ac (.inl ⟨0,rx⟩) rfl rfl;cases hs;let⟨a,c,hx⟩:=rx;exact ac (.inr ⟨_,_,hx⟩) rfl rfl;let⟨K,hm,_,hx⟩:=rx;exact st _ _ _ _ K hm hx hs;let⟨K,hm,_,hx⟩:=rx;exact st _ _ _ _ K hm hx hs;cases hs;cases ht;cases ht;cases hc
end
section
variable {P : Program} {m : M} {h : b_} {w : World}
def gC:List V->Option (List UInt8)
 |[]=>some []
 |.C .u8 n::l=>match gC l with
  |some s=>some (UInt8.ofNat n.toNat::s)
  |none=>none
 |_=>none
def zC(h:b_)(x:V):Option V:=
 match x with
 |.j=>some (.f [])
 |.z b o n _=>match aq h b o n with
  |some cs=>(gC cs).map .f
  |none=>none
 |.L b o n _=>match aq h b o n with
  |some cs=>(gC cs).map .f
  |none=>none
 |_=>none
def Cq(P:Program)(op:Op):Bool:=match op with
 |.convert src dst _=>(match P.underlying src,P.underlying dst with
  |some (.slice e),some .string=>(match P.underlying e with|some (.int .u8)=>true|_=>false)
  |_,_=>false)
 |_=>false
theorem r9:∀(l:List V)(s:List UInt8)(xs:List Value),gC l=some s→h_ m l xs→∃ns:List Int,xs=ns.map (Value.int .u8)∧s=ns.map fun n=>UInt8.ofNat n.toNat
 |[],s,xs,hb,r=>by simp only[gC,Option.some.injEq]at hb;subst hb;simp only[h_]at r;subst r;exact⟨[],rfl,rfl⟩
 |v::l,s,xs,hb,r=>by unfold gC at hb;split at hb;rename_i q;cases q;rename_i n l' q;cases q;obtain⟨x,xs',rfl,rx,rt⟩:=r;split at hb;rename_i s' hs';cases hb;let⟨ns,h1,h2⟩:=r9 l s' xs' hs' rt;simp only[m_]at rx;exact⟨n::ns,by rw[rx,h1];rfl,by rw[h2];rfl⟩;cases hb;cases hb
theorem w8:∀(ns:List Int)(s:ByteArray),ns.foldl (fun r n=>r.push (UInt8.ofNat n.toNat)) s=⟨s.data++(ns.map fun n=>UInt8.ofNat n.toNat).toArray⟩
 |[],s=>by simp
 |n::ns,s=>by rw[List.foldl_cons,w8 ns];congr 1;simp
theorem CD(H:r_ m h w){o:Oper}{ρ:Operand->Value}{x v:V}(hc:Cq P o.op=true)(hv:h_ m [x] (OV ρ o.op))(K:zC h x=some v):MS P m h w o ρ v h:=by
 unfold Cq at hc;split at hc;rename_i src dst a hy;split at hc;rename_i e af aj;split at hc;rename_i he;let⟨x',e',rx⟩:=cF hv;rw[hy]at e';change[ρ a]=[x']at e';simp at e';have ae:∀b l c,x'=.slice b l c->(execOp ρ o).run P w=((Conv.bytesToString (.slice b l c)).run P w).andThen fun y w'=>.ok (.value y) w':=by intro b l c hx;simp[execOp,hy,e',hx,run_convert_bytes_string w src dst e b l c af he aj]
 have ab:∀b k n cs c Z,m b=some Z->x'=.slice (some ⟨Z.a,Z.b+k,none⟩) n c->aq h b k n=some cs->(gC cs).map V.f=some v->MS P m h w o ρ v h:=by
  intro b k n cs c Z hm hx hl hb;let⟨xs,h1,h2,h3⟩:=H.h P hm hl;cases ac:gC cs with
  |none=>rw[ac]at hb;cases hb
  |some s=>rw[ac]at hb;simp at hb;subst hb;let⟨ns,q1,q2⟩:=r9 cs s xs ac h2;rw[q1]at h1;refine⟨.string ⟨s.toArray⟩,w,m,.inl ?_,?_,H,Xx _ _ _⟩;rw[ae _ _ _ hx,run_bytesToString w _ n c ns h1,w8,<-q2];show Result.ok (Next.value (.string ⟨#[]++s.toArray⟩)) w=_;rw[Array.empty_append];simp[m_]
 unfold zC at K;split at K;cases K;simp[m_]at rx;refine⟨.string .empty,w,m,.inl ?_,?_,H,Xx _ _ _⟩;rw[ae _ _ _ rx];rfl;simp only[m_];rfl;split at K;rename_i cs hl;let⟨Z,hm,_,hx⟩:=rx;exact ab _ _ _ _ _ Z hm hx hl K;cases K;split at K;rename_i cs hl;let⟨Z,hm,_,hx⟩:=rx;exact ab _ _ _ _ _ Z hm hx hl K;cases K;cases K;cases hc;cases hc;cases hc
end
variable {P : Program} {m : M} {h : b_} {w : World}
def k?(h:b_)(z:List UInt8):b_:=⟨h.S.B_ h.i (.e z 0),h.i+1,h.Q⟩
theorem r_.t(H:r_ m h w)(z:List UInt8):r_ (eU m h.i ⟨w.heap.size,0,0,none⟩) (k? h z) (w.alloc (.stringIter ⟨z.toArray⟩ 0))/\P9 m h w (eU m h.i ⟨w.heap.size,0,0,none⟩) (k? h z) (w.alloc (.stringIter ⟨z.toArray⟩ 0)):=by
 have ab:=H.f ⟨w.heap.size,0,0,none⟩;refine⟨⟨⟨?_,?_⟩,?_,?_,?_⟩,⟨ab,?_,YJ _,?_,iS,?_,rfl,rfl,rfl,Y9.d m _ _ rfl,fun b hb=>XY (heap_alloc_old w _ _ hb),pK rfl⟩⟩;intro p cp f k Z;show match h.Q.c_ f with|none=>f=p|some (_,e)=>k<=e
 rw[k?,WB]at Z;by_cases e:p=h.i;grind;rw[if_neg e]at Z;exact H.g.b _ _ _ _ Z;intro p Z;have ae:h.i+1<=p:=Z;refine⟨?_,(H.g.a p oM).2⟩;rw[k?,Vi _ _ oM];exact(H.g.a p oM).1;intro p K Z;by_cases e:p=h.i;subst e;rw[aB]at Z;cases Z;exact⟨.e z 0,by rw[k?,VS],rfl,heap_alloc_new w _⟩;rw[aJ _ _ e]at Z;let⟨b,hb,r⟩:=H.d p K Z;refine⟨b,by rw[k?,Vi _ _ e];exact hb,r.ag ab (fun _ _ _ _ x=>x) (heap_alloc_old w _ _ (H.a p K Z))⟩;intro p K Z;by_cases e:p=h.i;subst e;rw[aB]at Z;cases Z;simp;rw[aJ _ _ e]at Z;have:=H.a p K Z;simp;omega;intro p q lp lq Z hq he ac;by_cases e:p=h.i;subst e;rw[aB]at Z;cases Z;rw[aJ _ _ (WW ac)]at hq;have:=H.a q lq hq;simp at he;omega;rw[aJ _ _ e]at Z;by_cases e2:q=h.i;subst e2;rw[aB]at hq;cases hq;have:=H.a p lp Z;simp at he;omega;rw[aJ _ _ e2]at hq;let⟨cp,cq,f,kp,kq,a,b,d⟩:=H.c p q lp lq Z hq he ac;exact⟨cp,cq,f,kp,kq,by rw[k?,Vi _ _ e];exact a,by rw[k?,Vi _ _ e2];exact b,d⟩;intro p K Z hn;by_cases e:p=h.i;subst e;rw[aB]at Z;cases Z;exact⟨Ve _,.inl (Ve _)⟩;rw[aJ _ _ e]at Z;rw[Z]at hn;cases hn;intro p _ Z;rw[k?,Vi _ _ oM];intro b _ hb;exact heap_alloc_old w _ _ hb
def nL(h:b_)(b:Nat)(z:List UInt8)(pos:Nat):b_:=⟨h.S.B_ b (.e z pos),h.i,h.Q⟩
theorem r_.B(H:r_ m h w){b:Nat}{Z:V1}(hm:m b=some Z){z:List UInt8}{c0:Nat}(hb:h.S.c_ b=some (.e z c0))(pos:Nat):
 r_ m (nL h b z pos) {w with heap:=w.heap.setIfInBounds Z.a (.stringIter ⟨z.toArray⟩ pos)}/\
 P9 m h w m (nL h b z pos) {w with heap:=w.heap.setIfInBounds Z.a (.stringIter ⟨z.toArray⟩ pos)}:=by
 have ak:=H.a b Z hm;have ac:∀p lp,m p=some lp->p≠b->lp.a≠Z.a:=by intro p lp K af ae;let⟨cp,cq,f,kp,kq,a1,a2,_⟩:=H.c p b lp Z K hm ae af;rw[hb]at a2;cases a2
 refine⟨⟨⟨?_,?_⟩,?_,?_,?_⟩,⟨fun _ _ x=>x,fun p l a c=>(by rw[a]at c;cases c),Ve _,?_,iS,?_,rfl,rfl,rfl,fun _ _ _ x=>x,?_,fun _ _ a b=>by simp[a]at b⟩⟩;intro p cp f k K;show match h.Q.c_ f with|none=>f=p|some (_,e)=>k<=e
 rw[nL,WB]at K;by_cases e:p=b;grind;rw[if_neg e]at K;exact H.g.b _ _ _ _ K;intro p K;have aj:=H.g.a p K;have an:p≠b:=by grind
 exact⟨by rw[nL,Vi _ _ an];exact aj.1,aj.2⟩;intro p lp K;by_cases e:p=b;subst e;rw[hm]at K;cases K;let⟨bk,ab,rel⟩:=H.d p Z hm;rw[hb]at ab;cases ab;exact⟨.e z pos,by rw[nL,VS],rel.1,by show _=_;simp[ak]⟩;let⟨bk,ab,r⟩:=H.d p lp K;refine⟨bk,by rw[nL,Vi _ _ e];exact ab,r.ag (fun _ _ x=>x) (fun _ _ _ _ x=>x) ?_⟩;have:=ac p lp K e;simp[WW this];intro p lp K;have:=H.a p lp K;simpa using this;intro p q lp lq K hq ae af;let⟨cp,cq,f,kp,kq,a1,a2,a3⟩:=H.c p q lp lq K hq ae af;have h1:p≠b:=by grind
 have h2:q≠b:=by grind
 exact⟨cp,cq,f,kp,kq,by rw[nL,Vi _ _ h1];exact a1,by rw[nL,Vi _ _ h2];exact a2,a3⟩;intro p hn K;have h1:p≠b:=by grind
 rw[nL,Vi _ _ h1];grind;intro g ax;by_cases h4:g=Z.a;subst h4;let⟨bk,ab,rel⟩:=H.d b Z hm;rw[hb]at ab;cases ab;have ar:w.heap[Z.a]? =some (.stringIter ⟨z.toArray⟩ c0):=rel.2;intro x hx;rw[ar]at hx;cases hx;exact⟨.stringIter ⟨z.toArray⟩ pos,by simp[ak],trivial⟩;exact XY (by simp[WW h4])
def u?(h:b_)(nx:Bool)(x:V):Option (V×b_):=
 bif nx then
  match x with
  |.u b 0=>match h.S.c_ b with
   |some (.e z pos)=>if pos<z.length then some (.G [.h true,.C .i64 (pos:Int),.C .i32 ((Utf8.decode ⟨z.toArray⟩ pos).1:Int)],nL h b z (pos+(Utf8.decode ⟨z.toArray⟩ pos).2))else some (.G [.h false],h)
   |_=>none
  |_=>none
 else
  match x with
  |.f z=>some (.u h.i 0,k? h z)
  |_=>none
def Ip(P:Program)(op:Op)(nx:Bool):Bool:=match op with
 |.range t _=> !nx&&(match P.underlying t with|some .string=>true|_=>false)
 |.next _ s=>nx&&s
 |_=>false
theorem FK(H:r_ m h w){o:Oper}{ρ:Operand->Value}{nx:Bool}{x v:V}{h':b_}(K:Ip P o.op nx=true)(hv:h_ m [x] (OV ρ o.op))(Z:u? h nx x=some (v,h')):MS P m h w o ρ v h':=by
 unfold Ip at K;split at K;rename_i t a hy;simp at K;obtain⟨rfl,K⟩:=K;split at K;rename_i hu;let⟨y,ys,e',ry,rn⟩:=hv;rw[hy]at e';change[ρ a]=y::ys at e';simp only[Vw]at e';unfold u? at Z;simp at Z;split at Z;rename_i z;cases Z;have hx:ρ a=.string ⟨z.toArray⟩:=e'.1.trans ry;let⟨H',E'⟩:=H.t z;refine⟨_,_,_,.inl ?_,⟨_,aB _ _ _,rfl⟩,H',E'⟩;simp[execOp,hy,Instr.range,aI hu,hx,newObj];rfl;cases Z;cases K;rename_i a s hy;simp at K;obtain⟨rfl,rfl⟩:=K;let⟨y,ys,e',ry,rn⟩:=hv;rw[hy]at e';change[ρ a]=y::ys at e';simp only[Vw]at e';unfold u? at Z;simp at Z;split at Z;rename_i b;obtain⟨ab,hm,rfl⟩:=ry;split at Z;rename_i z pos hb;let⟨bk,ae,rel⟩:=H.d b ab hm;rw[hb]at ae;cases ae;have hx:ρ a=.pointer (some ⟨ab.a,0,none⟩):=by rw[e'.1,rel.1]
 have hz:(⟨z.toArray⟩:ByteArray).size=z.length:=by simp[ByteArray.size]
 split at Z;rename_i ac;cases Z;let⟨H',E'⟩:=H.B hm hb (pos+(Utf8.decode ⟨z.toArray⟩ pos).2);refine⟨_,_,_,.inl ?_,⟨_,rfl,_,_,rfl,rfl,_,_,rfl,rfl,_,_,rfl,rfl,rfl⟩,H',E'⟩;have:=Go.Lib.run_next_any_at (P:=P) w ab.a ⟨z.toArray⟩ pos o.type rel.2 (by rw[hz];exact ac);simp[execOp,hy,hx,this,World.iterAt];rename_i ac;cases Z;refine⟨_,_,_,.inl ?_,⟨_,rfl,_,_,rfl,rfl,rfl⟩,H,Xx _ _ _⟩;have:=Go.Lib.run_next_end_at (P:=P) w ab.a ⟨z.toArray⟩ pos o.type rel.2 (by rw[hz];exact ac);simp[execOp,hy,hx,this];cases Z;cases Z;cases K
end Go.Ev
