/- An evaluator of the program, and contracts over it: EvM to EvMe. -/
import Derived.Laws.StructEq
import Derived.MapKept
import Derived.Laws.BytesString
import Derived.Lib.OthersKept
import Derived.Test.YtdbfhmneijcjbaaGreatP00
set_option linter.unusedSimpArgs false
set_option linter.unusedVariables false
set_option linter.constructorNameAsVariable false
set_option linter.unnecessarySimpa false
namespace Go.Ev
section
variable {P : Program} {m : M}
theorem cF{v:V}{y n:Nat}(h:cN v y=some n):∃k,v=.int k (.ofNat n)/\n<=y:=by unfold cN at h;split at h;rename_i k K;cases Z:Nat.ble K y;grind;rw[Z]at h;cases h;exact⟨k,rfl,Si Z⟩;cases h
theorem du{v:V}{y n cap:Nat}{x:Value}(h:cN v y=some n)(r:VRel m v x)(K:y<=cap)(c:BoundsCode)(w:World):(Instr.sliceBound x cap c).run P w=.ok n w:=by
 obtain⟨k,rfl,hn⟩:=cF h;simp only[VRel]at r;subst r;have Z:(0:Int)<=Int.ofNat n/\Int.ofNat n<=(cap:Int):=by grind
 simp only[Instr.sliceBound,asIntOf,Sq,Sy,Sa];rw[if_pos Z];rfl
theorem dY{len y cap:Nat}{lo hi mx isS:Bool}{bs:List V}{l h:Nat}{mo:Option Nat}(Z:aW len y lo hi mx bs=some (l,h,mo))(hy:y<=cap)(hl:len<=y)
 {a b c:Option Value} (e1:a.isSome=lo) (e2:b.isSome=hi) (e3:c.isSome=mx) (r:VsRel m bs (a.toList++b.toList++c.toList)) (w:World):
 (Instr.sliceBounds isS len cap a b c).run P w=.ok (l,h,mo.getD cap) w/\l<=h/\h<=mo.getD y/\mo.getD y<=y:=by
 unfold aW at Z;split at Z;cases a<;>cases b<;>cases c<;>simp at e1 e2 e3;cases Z;refine⟨by simp[Instr.sliceBounds],oM,by simpa using hl,iS⟩
 rename_i v;cases a<;>cases b<;>cases c<;>simp at e1 e2 e3;rename_i x;let⟨x',e,rx⟩:=cg r;simp at e;subst e;cases K:cN v len with
 |none=>rw[K]at Z;cases Z
 |some n=>rw[K]at Z;cases Z;let⟨_,_,hle⟩:=cF K;refine⟨?_,hle,by simpa using hl,iS⟩;simp[Instr.sliceBounds,du K rx (RW len)]
 rename_i v;cases a<;>cases b<;>cases c<;>simp at e1 e2 e3;rename_i x;let⟨x',e,rx⟩:=cg r;simp at e;subst e;cases K:cN v y with
 |none=>rw[K]at Z;cases Z
 |some n=>rw[K]at Z;cases Z;let⟨_,_,hle⟩:=cF K;refine⟨?_,oM,by simpa using hle,iS⟩;simp[Instr.sliceBounds,du K rx hy]
 rename_i u v;cases a<;>cases b<;>cases c<;>simp at e1 e2 e3;rename_i x z;let⟨x',z',e,rx,rz⟩:=cG r;simp at e;obtain⟨rfl,rfl⟩:=e;cases K:cN v y with
 |none=>rw[K]at Z;cases Z
 |some n=>
  rw[K]at Z;simp only[SZ]at Z;cases hc:cN u n with
  |none=>rw[hc]at Z;cases Z
  |some k=>rw[hc]at Z;cases Z;let⟨_,_,hle⟩:=cF K;let⟨_,_,hle2⟩:=cF hc;refine⟨?_,hle2,by simpa using hle,iS⟩;simp[Instr.sliceBounds,du K rz hy,du hc rx (RW h)]
 rename_i u v;cases a<;>cases b<;>cases c<;>simp at e1 e2 e3;rename_i x z;let⟨x',z',e,rx,rz⟩:=cG r;simp at e;obtain⟨rfl,rfl⟩:=e;cases K:cN v y with
 |none=>rw[K]at Z;cases Z
 |some n=>
  rw[K]at Z;simp only[SZ]at Z;cases hc:cN u n with
  |none=>rw[hc]at Z;cases Z
  |some k=>rw[hc]at Z;cases Z;let⟨_,_,hle⟩:=cF K;let⟨_,_,hle2⟩:=cF hc;refine⟨?_,oM,by simpa using hle2,by simpa using hle⟩;simp[Instr.sliceBounds,du K rz hy,du hc rx (RW n)]
 rename_i t u v;cases a<;>cases b<;>cases c<;>simp at e1 e2 e3;rename_i p x z;let⟨p',x',z',e,rp,rx,rz⟩:=qX r;simp at e;obtain⟨rfl,rfl,rfl⟩:=e;cases K:cN v y with
 |none=>rw[K]at Z;cases Z
 |some n=>
  rw[K]at Z;simp only[SZ]at Z;cases hc:cN u n with
  |none=>rw[hc]at Z;cases Z
  |some k=>
   rw[hc]at Z;simp only[SZ]at Z;cases hd:cN t k with
   |none=>rw[hd]at Z;cases Z
   |some j=>rw[hd]at Z;cases Z;let⟨_,_,hle⟩:=cF K;let⟨_,_,hle2⟩:=cF hc;let⟨_,_,hle3⟩:=cF hd;refine⟨?_,hle3,by simpa using hle2,by simpa using hle⟩;simp[Instr.sliceBounds,du K rz hy,du hc rx (RW n),du hd rp (RW h)]
 cases Z
theorem Al(blk base o l esz mm:Nat):(if mm=l then(⟨blk,base+o,none⟩:Addr)else Addr.add ⟨blk,base+o,none⟩ (l*esz))=⟨blk,base+(bif Nat.beq mm l then o else o+l*esz),none⟩:=by
 by_cases h:mm=l;rw[if_pos h,h,TT];rfl;rw[if_neg h,im];have:Nat.beq mm l=false:=by cases hb:Nat.beq mm l;rfl;exact absurd (RY hb) h
 rw[this];simp[TC]
theorem rD{t:TypeId}{x:Operand}{l h Z:Option Operand}(ρ:Operand->Value):OV ρ (.slice t x l h Z)=ρ x::((l.map ρ).toList++(h.map ρ).toList++(Z.map ρ).toList):=by cases l<;>cases h<;>cases Z<;>simp[OV,Op.operands]
theorem Hn{o:Oper}{ρ:Operand->Value}{n esz:Nat}{lo K mx:Bool}{v r:V}{bs:List V}(Z:bH P o.op (.sl (some n) esz lo K mx)=true)(hv:VsRel m (v::bs) (OV ρ o.op))
 (h:xG n v esz lo K mx bs=some r):PS P m o ρ r:=by
 simp only[bH]at Z;split at Z;rename_i t x l hh ae hy;simp only[RU,beq_iff_eq]at Z;let⟨⟨⟨he,h1⟩,h2⟩,h3⟩:=Z;let⟨e,hu,hs⟩:=y9 he;rw[hy,rD]at hv;let⟨x',xs',e',rv,rb⟩:=hv;simp only[Sw]at e';obtain⟨rfl,rfl⟩:=e';unfold xG at h;split at h;rename_i b k;let⟨loc,hm,hx⟩:=rv;cases ha:aW n n lo K mx bs with
 |none=>rw[ha]at h;cases h
 |some q=>let⟨l',h',m'⟩:=q;rw[ha]at h;simp only[Sx,Sh]at h;subst h;have hr:=fun w=>(dY (P:=P) (isS:=false) ha (RW n) (RW n) (eV h1) (eV h2) (eV h3) rb w).1;have ac:=(dY (P:=P) (isS:=false) ha (RW n) (RW n) (eV h1) (eV h2) (eV h3) rb default).2;refine⟨_,⟨loc,hm,oM,rfl⟩,fun w=>?_⟩;simp only[execOp,hy,Instr.sliceAt,hx,Instr.sureAddr,Sq,Sy,aD hu,Sa,hr w,cI hs,Al]
 cases h;cases Z
theorem LW{o:Oper}{ρ:Operand→Value}{esz:Nat}{lo hi mx:Bool}{v r:V}{bs:List V}(hc:bH P o.op (.sl none esz lo hi mx)=true)(hv:VsRel m (v::bs) (OV ρ o.op))
 (h:dX v esz lo hi mx bs=some r):PS P m o ρ r:=by
 simp only[bH]at hc;split at hc;rename_i t x l hh mxo hy;simp only[Bool.and_eq_true,beq_iff_eq]at hc;let⟨⟨⟨he,h1⟩,h2⟩,h3⟩:=hc;let⟨e,hu,hs⟩:=mZ he;rw[hy,rD]at hv;let⟨x',xs',e',rv,rb⟩:=hv;simp only[List.cons.injEq]at e';obtain⟨rfl,rfl⟩:=e';unfold dX at h;split at h;simp only[VRel]at rv;cases ha:aW 0 0 lo hi mx bs with
 |none=>rw[ha]at h;cases h
 |some q=>let⟨l',h',m'⟩:=q;rw[ha]at h;simp only[Option.map_some,Option.some.injEq]at h;subst h;have hr:=fun w=>dY (P:=P) (isS:=true) ha (Nat.le_refl 0) (Nat.le_refl 0) (eV h1) (eV h2) (eV h3) rb w;have hb:=(hr default).2;have hm0:m'.getD 0=0:=oM;have hl0:l'=0:=oM;have hh0:h'=0:=oM;refine⟨_,rfl,fun w=>?_⟩;simp only[execOp,hy,Instr.sliceAt,Instr.slice,rv,Sem.run_bind,Sem.run_pure,aD hu,Result.andThen_ok,(hr w).1,cI hs,hm0,hl0,hh0];simp
 rename_i b k len cap;let⟨loc,hm,hcl,hx⟩:=rv;cases ha:aW len cap lo hi mx bs with
 |none=>rw[ha]at h;cases h
 |some q=>let⟨l',h',m'⟩:=q;rw[ha]at h;simp only[Option.map_some,Option.some.injEq]at h;subst h;have hr:=fun w=>(dY (P:=P) (isS:=true) ha (Nat.le_refl cap) hcl (eV h1) (eV h2) (eV h3) rb w).1;have hbd:=(dY (P:=P) (isS:=true) ha (Nat.le_refl cap) hcl (eV h1) (eV h2) (eV h3) rb default).2;refine⟨_,⟨loc,hm,oM,rfl⟩,fun w=>?_⟩;simp only[execOp,hy,Instr.sliceAt,Instr.slice,hx,Sem.run_bind,Sem.run_pure,aD hu,Result.andThen_ok,hr w,cI hs];have:=Al loc.block loc.base k l' esz (m'.getD cap);by_cases q:m'.getD cap=l';grind;grind
 rename_i b k len e0;cases hb:(Nat.beq e0 esz&&Nat.blt 0 e0);grind;rw[hb]at h;simp only[cond_true]at h;simp only[Bool.and_eq_true,Nat.blt_eq]at hb;let⟨hb1,hb2⟩:=hb;have he0:=Nat.eq_of_beq_eq_true hb1;subst he0;let⟨loc,hm,hlc,hx⟩:=rv;cases ha:aW len len lo hi mx bs with
 |none=>rw[ha]at h;cases h
 |some q=>
  let⟨l',h',m'⟩:=q;rw[ha]at h;simp only[Option.bind_some]at h;have hr:=fun w=>dY (P:=P) (isS:=true) ha hlc (Nat.le_refl len) (eV h1) (eV h2) (eV h3) rb w;have hbd:=(hr default).2;have run:∀w,(execOp ρ o).run P w=.ok (.value (.slice (if m'.getD ((loc.room-k)/e0)=l' then some ⟨loc.block,loc.base+k,none⟩else(some (Addr.add ⟨loc.block,loc.base+k,none⟩ (l'*e0)))) (h'-l') (m'.getD ((loc.room-k)/e0)-l'))) w:=by intro w;simp only[execOp,hy,Instr.sliceAt,Instr.slice,hx,Sem.run_bind,Sem.run_pure,aD hu,Result.andThen_ok,(hr w).1,cI hs];rfl
  cases m' with
  |some mm=>simp only[Option.some.injEq]at h;subst h;simp only[Option.getD_some]at run hbd;refine⟨_,⟨loc,hm,oM,rfl⟩,fun w=>?_⟩;rw[run w];have:=Al loc.block loc.base k l' e0 mm;by_cases q:mm=l';grind;grind
  |none=>
   simp only[Option.getD_none]at run hbd;simp only[]at h;cases hlt:Nat.blt l' len;rw[hlt]at h;simp only[cond_false]at h;have hge:¬l'<len:=by intro q;rw[←Nat.blt_eq]at q;rw[q]at hlt;cases hlt
   cases hz:Nat.beq l' 0;rw[hz]at h;simp only[cond_false,Option.some.injEq]at h;subst h;have hhl:h'-l'=0:=oM;refine⟨.slice (if(loc.room-k)/e0=l' then some ⟨loc.block,loc.base+k,none⟩else(some (Addr.add ⟨loc.block,loc.base+k,none⟩ (l'*e0)))) (h'-l') ((loc.room-k)/e0-l'),?_,run⟩;rw[hhl];by_cases q:(loc.room-k)/e0=l';rw[if_pos q];exact⟨_,_,rfl⟩;rw[if_neg q];exact⟨_,_,rfl⟩;rw[hz]at h;simp only[cond_true,Option.some.injEq]at h;subst h;have hl0:=Nat.eq_of_beq_eq_true hz;subst hl0;refine⟨_,⟨loc,hm,oM,rfl⟩,fun w=>?_⟩;rw[run w];simp only[Nat.zero_mul,im,Nat.add_zero,ite_self,Nat.sub_zero];rw[hlt]at h;simp only[cond_true,Option.some.injEq]at h;subst h;have hlt':l'<len:=by simpa[Nat.blt_eq]using hlt
   have hd:(loc.room-(k+l'*e0))/e0=(loc.room-k)/e0-l':=by rw[←Nat.sub_sub,Nat.mul_comm,Nat.sub_mul_div]
   refine⟨_,⟨loc,hm,oM,rfl⟩,fun w=>?_⟩;rw[run w,if_neg oM,im];rw[hd,Nat.add_assoc]
 cases h;cases hc
theorem pW(s:List UInt8):(⟨s.toArray⟩:ByteArray).toList=s:=by rw[ByteArray.toList_eq]
theorem yB{t:TypeId}{k:Nat}(h:ka P t k=true):oX P t false=true:=by unfold ka at h;unfold oX;split at h;grind;grind;grind;cases h
theorem tc(d:Nat){w:World}:∀(ks:List Nat)(fs:List Field)(j:Nat)(xs ys:List Value)(l l':List V)(r:Bool),iN P j fs ks=true→
 VsRel m l (xs.drop j)→VsRel m l' (ys.drop j)→i5 ks l l'=some r→(Op.eqFields (d+1) (List.toArray xs) (List.toArray ys) fs).run P w=.ok r w
 |[],[],j,xs,ys,l,l',r,hf,hl,hl',hc=>by simp only[i5,Option.some.injEq]at hc;subst hc;rfl
 |[],_::_,_,_,_,_,_,_,hf,_,_,_=>by simp[iN]at hf
 |_::_,[],_,_,_,_,_,_,hf,_,_,_=>by simp[iN]at hf
 |k::ks,f::fs,j,xs,ys,l,l',r,hf,hl,hl',hc=>by
  simp only[iN,Bool.and_eq_true,Bool.not_eq_true',beq_eq_false_iff_ne]at hf;let⟨⟨⟨hname,hoff⟩,hleaf⟩,hrest⟩:=hf;have hoff:=Nat.eq_of_beq_eq_true hoff;have hagg:=yB hleaf;have fD:∀(zs:List Value)(u:V)(us:List V),VsRel m (u::us) (zs.drop j)→∃x,zs[j]? =some x∧VRel m u x∧VsRel m us (zs.drop (j+1)):=by
   rintro zs u us ⟨x,xs',e,r1,r2⟩;have h0:(zs.drop j)[0]? =some x:=by rw[e];rfl
   rw[List.getElem?_drop]at h0;refine⟨x,by simpa using h0,r1,?_⟩;have:zs.drop (j+1)=xs':=by rw[←List.drop_drop,e];rfl
   rw[this];exact r2
  have partR:∀(zs:List Value) x,zs[j]? =some x→(part f.type (List.toArray zs) f.offset).run P w=.ok x w:=by intro zs x hx;simp[part,iw hagg,hoff,hx]
  cases l with
  |nil=>cases k with
   |zero=>simp[i5]at hc
   |succ k=>cases k with
    |zero=>simp[i5]at hc
    |succ k=>cases k<;>simp[i5]at hc
  |cons u us=>
   cases l' with
   |nil=>cases k with
    |zero=>cases u<;>simp[i5]at hc
    |succ k=>cases k with
     |zero=>cases u<;>simp[i5]at hc
     |succ k=>cases k<;>cases u<;>simp[i5]at hc
   |cons v vs=>
    let⟨x,hx,rx,rus⟩:=fD xs u us hl;let⟨y,hy,ry,rvs⟩:=fD ys v vs hl';have step:∀(b:Bool),(Op.equalIn (d+1) f.type x y).run P w=.ok b w→(b=true→i5 ks us vs=some r)→(b=false→r=false)→
     (Op.eqFields (d+1) (List.toArray xs) (List.toArray ys) (f::fs)).run P w=.ok r w:=by
     intro b hb h1 h2;simp only[Op.eqFields];rw[if_pos hname];simp only[Sem.run_bind,partR xs x hx,partR ys y hy,Result.andThen_ok,hb];cases b;have:=h2 rfl;subst this;rfl;simp only[Bool.not_true,Bool.false_eq_true,if_false];exact tc d ks fs (j+1) xs ys us vs r hrest rus rvs (h1 rfl)
    unfold ka at hleaf;split at hleaf;rename_i k0 hu;cases u<;>cases v<;>simp only[i5]at hc<;>first|(cases hc;done)|skip
    rename_i t a t' b;simp only[VRel]at rx ry;subst rx;subst ry;cases hk:mV t t';grind;rw[hk]at hc;simp only[cond_true]at hc;have:=lE hk;subst this;refine step (a==b) (run_equalIn_int w d f.type t k0 a b hu) (fun q=>?_) (fun q=>?_);rw[fy,q]at hc;exact hc;rw[fy,q]at hc;simpa using hc.symm;rename_i hu;cases u<;>cases v<;>simp only[i5]at hc<;>first|(cases hc;done)|skip
    rename_i a b;simp only[VRel]at rx ry;subst rx;subst ry;refine step (a==b) (sR hu a b d) (fun q=>?_) (fun q=>?_);grind;grind;rename_i hu;cases u<;>cases v<;>simp only[i5]at hc<;>first|(cases hc;done)|skip
    rename_i a b;simp only[VRel]at rx ry;subst rx;subst ry;refine step (a==b) (by rw[run_equalIn_string w d f.type _ _ hu,pW,pW]) (fun q=>?_) (fun q=>?_);grind;grind;cases hleaf
theorem KM{o:Oper}{ρ:Operand->Value}{ne:Bool}{ks:List Nat}{l l':List V}{r:Bool}(hc:bH P o.op (.seq ne ks)=true)(hv:VsRel m [.agg l,.agg l'] (OV ρ o.op))(h:i5 ks l l'=some r):
 PS P m o ρ (.bool (bif ne then !r else r)):=by
 simp only[bH]at hc;split at hc;rename_i b' t x y yt hy;simp only[RU,decide_eq_true_eq]at hc;let⟨hb,K⟩:=hc;unfold qd at K;split at K;rename_i Z hu;simp only[RU,TP]at K;let⟨⟨h1,h2⟩,h3⟩:=K;let⟨x',y',e,rx,ry⟩:=cG hv;rw[hy]at e;change[ρ x,ρ y]=[x',y']at e;simp only[Sw,and_true]at e;obtain⟨xs,rfl,af⟩:=rx;obtain⟨ys,rfl,ak⟩:=ry;have ae:P.fieldsOf t=Z:=by unfold Program.fieldsOf;rw[hu]
 have ac:∀w,(Op.equalIn (9999+1) t (.agg (List.toArray xs)) (.agg (List.toArray ys))).run P w=.ok r w:=by intro w;rw[run_equalIn_struct w 9999 t _ _ (by rw[ae];exact hu) h1,ae];exact tc 9998 ks Z.toList 0 xs ys l l' r h3 (by simpa using af) (by simpa using ak) h
 refine⟨_,rfl,fun w=>?_⟩;subst hb;cases ne;simp only[cond_false]at hy|-;simp only[execOp,hy,e.1,e.2,Sq,run_eqGuard_agg w .eql t x y _ _ h2,Sa,run_eql_struct w t,ac w];rfl;simp only[cond_true]at hy|-;simp only[execOp,hy,e.1,e.2,Sq,run_eqGuard_agg w .neq t x y _ _ h2,Sa,run_neq_struct w t,ac w];rfl;cases K;cases hc
theorem q7{op:BinOp}{a b:List UInt8}{v:V}(h:pB op a b=some v)(w:World)(t:TypeId):∃x,(binOp op t (.string ⟨a.toArray⟩) (.string ⟨b.toArray⟩)).run P w=.ok x w/\VRel m v x:=by
 have e:binOp op t (.string ⟨a.toArray⟩) (.string ⟨b.toArray⟩)=Op.stringOp op ⟨a.toArray⟩ ⟨b.toArray⟩:=by cases op<;>rfl
 rw[e];cases op<;>simp only[pB]at h;case add=>
  cases Z:Nat.blt (a.length+b.length) 9223372036854775808;grind;rw[Z]at h;simp only[cond_true]at h;cases h;have ac:a.length+b.length<9223372036854775808:=by simpa[SI]using Z
  have K:¬(((⟨a.toArray⟩:ByteArray).size+(⟨b.toArray⟩:ByteArray).size:Nat):Int)>IntKind.i64.max:=by
   have h1:(⟨a.toArray⟩:ByteArray).size=a.length:=by simp[ByteArray.size]
   have h2:(⟨b.toArray⟩:ByteArray).size=b.length:=by simp[ByteArray.size]
   rw[h1,h2];simp[IntKind.max,IntKind.signed,IntKind.bits];omega
  refine⟨.string (⟨a.toArray⟩++⟨b.toArray⟩),?_,?_⟩;simp only[Op.stringOp];rw[if_neg K];rfl;simp only[VRel];congr 1
 all_goals first
  |(cases h;done)
  |(cases h;exact⟨_,rfl,by simp only[VRel,pW]⟩)
theorem LY{o:Oper}{ρ:Operand→Value}{op:BinOp}{a b:List UInt8}{v:V}(hc:bH P o.op (.sb op)=true)(hv:VsRel m [.str a,.str b] (OV ρ o.op))(h:pB op a b=some v):PS P m o ρ v:=by
 simp only[bH]at hc;split at hc;rename_i b' t x y yt hy;have hb:op=b':=by simpa using hc
 subst hb;let⟨x',y',e,rx,ry⟩:=cG hv;rw[hy]at e;change[ρ x,ρ y]=[x',y']at e;simp only[List.cons.injEq,and_true]at e;simp only[VRel]at rx ry;have hg:∀w,(eqGuard op t x y (.string ⟨a.toArray⟩) (.string ⟨b.toArray⟩)).run P w=.ok () w:=fun w=>by cases op<;>rfl
 let⟨z,_,rz⟩:=q7 (P:=P) (m:=m) h default t;refine⟨z,rz,fun w=>?_⟩;let⟨z',hz,rz'⟩:=q7 (P:=P) (m:=m) h w t;have:z'=z:=by
  cases v with
  |str s=>simp only[VRel]at rz rz';rw[rz,rz']
  |bool s=>simp only[VRel]at rz rz';rw[rz,rz']
  |_=>cases op<;>simp only[pB]at h<;>first|(cases h;done)|(cases hq:Nat.blt (a.length+b.length) 9223372036854775808<;>rw[hq]at h<;>cases h)
 rw[←this];simp only[execOp,hy,e.1,e.2,rx,ry,Sem.run_bind,hg w,Result.andThen_ok,hz];rfl;cases hc
theorem DD{o:Oper}{ρ:Operand->Value}{a:List UInt8}(K:bH P o.op .lenStr=true)(hv:VsRel m [.str a] (OV ρ o.op)):PS P m o ρ (.int .i64 (a.length:Nat)):=by
 let⟨x,ts,t,d,hy,ht,hu,hd⟩:=nD K;let⟨x',e,r⟩:=cg hv;rw[hy]at e;simp[Op.operands,Call.operands]at e;simp only[VRel]at r;refine⟨_,rfl,fun w=>?_⟩;cases d<;>simp at hd;have Z:(⟨a.toArray⟩:ByteArray).size=a.length:=by simp[ByteArray.size]
 simp[execOp,hy,resolve,invoke,builtin,Builtin.len_,ht,e,r,aD hu,goInt,Z]
theorem sB{t:TypeId}(h:Bx P t=true):P.underlying t=some .string:=by unfold Bx at h;split at h<;>simp_all
theorem Hp{o:Oper}{ρ:Operand->Value}{a:List UInt8}{k:IntKind}{i:Nat}{c:UInt8}(K:bH P o.op .ixstr=true)(hv:VsRel m [.str a,.int k (.ofNat i)] (OV ρ o.op))(h:a[i]? =some c):PS P m o ρ (.int .u8 (c.toNat:Nat)):=by
 simp only[bH]at K;split at K;rename_i t x y hy;let⟨x',y',e,rx,ry⟩:=cG hv;rw[hy]at e;change[ρ x,ρ y]=[x',y']at e;simp only[Sw,and_true]at e;simp only[VRel]at rx ry;have hu:=sB K;refine⟨_,rfl,fun w=>?_⟩;have hg:(⟨a.toArray⟩:ByteArray)[i]? =some c:=by
  have Z:i<a.length:=(Ss.1 h).1;have hs:i<(⟨a.toArray⟩:ByteArray).size:=by simpa[ByteArray.size]using Z
  rw[getElem?_pos _ i hs];rw[Sm Z]at h;exact h
 simp only[execOp,hy,e.1,e.2,rx,ry,Instr.index,asIntOf,Sq,Sy,aD hu,Sa];have h0:(0:Int)<=Int.ofNat i:=by simp
 rw[if_pos h0];simp[hg];cases K
theorem Hm{o:Oper}{ρ:Operand->Value}{lo hi:Bool}{a:List UInt8}{bs:List V}{l h:Nat}{mo:Option Nat}(Z:bH P o.op (.slstr lo hi)=true)(hv:VsRel m (.str a::bs) (OV ρ o.op))
 (hb:aW a.length a.length lo hi false bs=some (l,h,mo)):PS P m o ρ (.str ((a.drop l).take (h-l))):=by
 simp only[bH]at Z;split at Z;rename_i t x lw hh ac hy;simp only[RU,beq_iff_eq]at Z;let⟨⟨⟨hs,h1⟩,h2⟩,h3⟩:=Z;have hu:=sB hs;cases ac with
 |some q=>simp at h3
 |none=>
  rw[hy,rD]at hv;let⟨x',xs',e',rv,rb⟩:=hv;simp only[Sw]at e';obtain⟨rfl,rfl⟩:=e';simp only[VRel]at rv;have K:(⟨a.toArray⟩:ByteArray).size=a.length:=by simp[ByteArray.size]
  have hr:=fun w=>(dY (P:=P) (isS:=false) hb (RW _) (RW _) (a:=lw.map ρ) (b:=hh.map ρ) (c:=none) (eV h1) (eV h2) rfl (by simpa using rb) w).1;refine⟨.string ((⟨a.toArray⟩:ByteArray).extract l h),?_,fun w=>?_⟩;simp only[VRel];congr 1;apply ByteArray.ext;simp[ByteArray.data_extract,List.extract_eq_take_drop];simp only[execOp,hy,Instr.sliceAt,Instr.slice,rv,Sq,Sy,aD hu,Sa,Option.map_none,Option.isSome_none,SP,if_false,K,hr w]
 cases Z
end
section
variable {P : Program} {m : M}
theorem GF{o:Oper}{ρ:Operand->Value}{k:PK}{vs:List V}{v:V}(Z:bH P o.op k=true)(hv:VsRel m vs (OV ρ o.op))(h:aP k vs=some v):PS P m o ρ v:=by
 unfold aP at h;split at h;exact L0 Z hv h;cases h;exact Jb Z hv;cases h;exact Ho Z hv;cases h;exact DC Z hv;exact L5 Z hv h;exact LX Z hv h;cases h;exact KN Z hv;cases h;exact KQ Z hv;exact Jd Z hv h;cases h;exact L6 Z hv;rename_i kd ne a b;cases K:j4 kd a b with
 |none=>rw[K]at h;cases h
 |some r=>rw[K]at h;cases h;exact KO Z hv K
 cases h;exact Hu Z hv;exact Ht Z hv h;rename_i len esz b o' i;cases K:kP i len with
 |none=>rw[K]at h;cases h
 |some r=>rw[K]at h;cases h;exact KU Z hv K
 rename_i esz b o' len cap i;cases K:kP i len with
 |none=>rw[K]at h;cases h
 |some r=>rw[K]at h;cases h;let⟨x,y,e,rx,ry⟩:=cG hv;let⟨loc,hm,_⟩:=rx;exact Hq hm Z hv (fun x hx=>by obtain⟨l2,h2,_,rfl⟩:=hx;rw[hm]at h2;cases h2;exact⟨_,rfl⟩) K
 rename_i esz b o' len e0 i;cases K:kP i len with
 |none=>rw[K]at h;cases h
 |some r=>rw[K]at h;cases h;let⟨x,y,e,rx,ry⟩:=cG hv;let⟨loc,hm,_⟩:=rx;exact Hq hm Z hv (fun x hx=>by obtain⟨l2,h2,_,rfl⟩:=hx;rw[hm]at h2;cases h2;exact⟨_,rfl⟩) K
 rename_i len esz ia l i;cases K:kP i len with
 |none=>rw[K]at h;cases h
 |some r=>rw[K]at h;exact Hr Z hv K h
 exact KV Z hv h;rename_i fn n;cases K:dA n vs with
 |none=>rw[K]at h;cases h
 |some r=>rw[K]at h;cases h;exact KT Z hv K
 cases h;exact KS Z hv;rename_i zero ac;cases K:dP zero ac vs with
 |none=>rw[K]at h;cases h
 |some r=>rw[K]at h;cases h;exact Hv Z hv K
 exact LW Z hv h;exact Hn Z hv h;cases h;exact pf (len:=0) Z hv (fun x hx=>⟨_,_,hx⟩);cases h;exact pf Z hv (fun x hx=>by obtain⟨_,_,_,rfl⟩:=hx;exact⟨_,_,rfl⟩);cases h;exact pf Z hv (fun x hx=>by obtain⟨_,_,_,rfl⟩:=hx;exact⟨_,_,rfl⟩);cases h;exact pf (len:=0) Z hv (fun x hx=>by obtain⟨_,_,rfl⟩:=hx;exact⟨_,_,rfl⟩);cases h;exact pf (len:=0) Z hv (fun x hx=>⟨_,_,hx⟩);cases h;exact DG Z hv;cases h;exact Cl (cap:=0) Z hv (fun x hx=>⟨_,_,hx⟩);cases h;exact Cl Z hv (fun x hx=>by obtain⟨_,_,_,rfl⟩:=hx;exact⟨_,_,rfl⟩);cases h;exact DH Z hv;cases h;exact L4 Z hv;cases h;exact LZ Z hv;cases h;exact Jc Z hv;rename_i ne ks l l';cases K:i5 ks l l' with
 |none=>rw[K]at h;cases h
 |some r=>rw[K]at h;cases h;exact KM Z hv K
 exact LY Z hv h;cases h;exact DD Z hv;rename_i a k i;cases K:a[i]? with
 |none=>rw[K]at h;cases h
 |some r=>rw[K]at h;cases h;exact Hp Z hv K
 rename_i lo hi a bs;cases K:aW a.length a.length lo hi false bs with
 |none=>rw[K]at h;cases h
 |some r=>let⟨l,h',mo⟩:=r;rw[K]at h;cases h;exact Hm Z hv K
 cases h
end
def L7(r:Result Next)(x:Value)(w':World):Prop:=r=.ok (.value x) w'\/(r=.ok .skip w'/\x=undef)
def MS(P:Program)(m:M)(h:Heap)(w:World)(o:Oper)(ρ:Operand->Value)(v:V)(h':Heap):Prop:=
 ∃x w' m',L7 ((execOp ρ o).run P w) x w'/\VRel m' v x/\HRel m' h' w'/\Ext m h w m' h' w'
theorem Hw{P:Program}{m:M}{h:Heap}{w:World}{o:Oper}{ρ:Operand->Value}{v:V}(H:HRel m h w)(p:PS P m o ρ v):MS P m h w o ρ v h:=by let⟨x,r,e⟩:=p;exact⟨x,w,m,.inl (e w),r,H,Uy _ _ _⟩
section
variable {P : Program} {m : M} {h : Heap} {w : World}
noncomputable def jk(h:Heap)(n:Nat)(ia:Bool)(v:V):Option V:=
 match v with
 |.ptr b o=>bif ia then(aj h b o n).map .agg else ab h b o
 |_=>none
def xv(P:Program)(op:Op)(n:Nat)(ia:Bool):Bool:=match op with
 |.load t _=>dH P t n&&oX P t ia
 |_=>false
theorem zM(H:HRel m h w){o:Oper}{ρ:Operand->Value}{n:Nat}{ia:Bool}{v r:V}(K:xv P o.op n ia=true)(hv:VsRel m [v] (OV ρ o.op))(Z:jk h n ia v=some r):
 ∃x,VRel m r x/\(execOp ρ o).run P w=.ok (.value x) w:=by
 unfold xv at K;split at K;rename_i t a hy;simp only[RU]at K;let⟨x,e,rx⟩:=cg hv;rw[hy]at e;simp[Op.operands]at e;unfold jk at Z;split at Z;rename_i b k;obtain⟨ac,hm,rfl⟩:=rx;cases ia;simp only[cond_false]at Z;let⟨x,hx,rx⟩:=H.load1 hm Z;refine⟨x,rx,?_⟩;simp[execOp,hy,e,Instr.loadAt,Instr.sureAddr,loadVar,iw K.2,run_load,hx];simp only[cond_true]at Z;cases hh:aj h b k n with
 |none=>rw[hh]at Z;cases Z
 |some vs=>rw[hh]at Z;cases Z;let⟨xs,hx,rx,_⟩:=H.load P hm hh;refine⟨.agg (List.toArray xs),⟨xs,rfl,rx⟩,?_⟩;simp[execOp,hy,e,Instr.loadAt,Instr.sureAddr,loadVar,iw K.2,cI K.1,hx]
 cases Z;cases K
noncomputable def ig(h:Heap)(n:Nat)(p v:V):Option Heap:=
 match p with
 |.ptr b o=>bif Nat.beq v.cells.length n then di h b o v.cells else none
 |_=>none
def tf(P:Program)(op:Op)(n:Nat):Bool:=match op with
 |.store t _ _=>dH P t n
 |_=>false
theorem xF(H:HRel m h w){o:Oper}{ρ:Operand->Value}{n:Nat}{p v:V}{h':Heap}(K:tf P o.op n=true)(hv:VsRel m [p,v] (OV ρ o.op))(Z:ig h n p v=some h'):
 MS P m h w o ρ (.tup []) h':=by
 unfold tf at K;split at K;rename_i t a x hy;let⟨x',y',e,rx,ry⟩:=cG hv;rw[hy]at e;change[ρ a,ρ x]=[x',y']at e;simp only[Sw,and_true]at e;unfold ig at Z;split at Z;rename_i b k;obtain⟨ae,hm,rfl⟩:=rx;cases hb:Nat.beq v.cells.length n;grind;rw[hb]at Z;simp only[cond_true]at Z;have hn:=RY hb;have rc:=ry.cells;let⟨w',hrun,H',E'⟩:=H.store P hm Z rc;have ac:¬y'.cells.size≠n:=by have:=rc.length;simp at this|-;omega
 refine⟨undef,w',m,.inr ⟨?_,rfl⟩,⟨[],rfl,rfl⟩,H',E'⟩;simp only[execOp,hy,e.1,e.2,Instr.storeAt,Instr.sureAddr,storeVar,Sq,Sy,Sa,cI K];rw[if_neg ac];simp[hrun];cases Z;cases K
theorem dh(X:Array Value)(elem:TypeId):(newRow elem X).run P w=.ok ⟨w.heap.size,0,none⟩ (w.alloc (.cells X elem)):=by simp[newRow]
theorem HRel.alloc_list(H:HRel m h w){c:List V}{xs:List Value}(elem:TypeId)(r:VsRel m c xs):
 HRel (eh m h.next ⟨w.heap.size,0,c.length,none⟩) (halloc h c) (w.alloc (.cells (List.toArray xs) elem))/\
 Ext m h w (eh m h.next ⟨w.heap.size,0,c.length,none⟩) (halloc h c) (w.alloc (.cells (List.toArray xs) elem)):=by
 have:=H.alloc c (List.toArray xs) elem (by simp[r.length]) (fun i v hi=>by let⟨x,hx,rx⟩:=r.get i v hi;exact⟨x,by simpa using hx,rx⟩);simpa[r.length]using this
def oI(P:Program)(op:Op)(zero:List V):Bool:=match op with
 |.alloc t=>jo P t zero
 |_=>false
theorem xL(H:HRel m h w){o:Oper}{ρ:Operand->Value}{zero:List V}(Z:oI P o.op zero=true):MS P m h w o ρ (.ptr h.next 0) (halloc h zero):=by unfold oI at Z;split at Z;rename_i t hy;let⟨z,hz,hv⟩:=iU (w:=w) Z;let⟨H',E'⟩:=H.alloc_list t (dy m _ _ hv);refine⟨_,_,_,.inl ?_,⟨_,aA _ _ _,rfl⟩,H',E'⟩;have K:=dh (P:=P) (w:=w) z.cells t;simp[execOp,hy,Instr.alloc,hz,newVar,K];cases Z
def xx(op:Op):Bool:=match op with
 |.box _ _=>true
 |_=>false
theorem AS(H:HRel m h w){o:Oper}{ρ:Operand->Value}{v:V}(Z:xx o.op=true)(hv:VsRel m [v] (OV ρ o.op)):MS P m h w o ρ (.ptr h.next 0) (halloc h v.cells):=by unfold xx at Z;split at Z;rename_i t a hy;let⟨x,e,rx⟩:=cg hv;rw[hy]at e;simp[Op.operands]at e;let⟨H',E'⟩:=H.alloc_list t rx.cells;refine⟨_,_,_,.inl ?_,⟨_,aA _ _ _,rfl⟩,H',E'⟩;have K:=dh (P:=P) (w:=w) x.cells t;simp[execOp,hy,e,Instr.box,newVar,K];cases Z
end
section
variable {P : Program} {m : M} {h : Heap} {w : World}
noncomputable def aU(zero:List V)(n:Nat):List V:=Nat.rec (motive:=fun _=>List V) [] (fun _ ih=>zero++ih) n
theorem qf(zero:List V)(n:Nat):(aU zero n).length=n*zero.length:=by
 induction n with
 |zero=>show([]:List V).length=_;simp
 |succ n ih=>show(zero++aU zero n).length=_;simp[ih,Uz,UH]
theorem Ek(zero:List V)(n i:Nat)(hi:i<n*zero.length):(aU zero n)[i]? =zero[i%zero.length]? :=by
 induction n generalizing i with
 |zero=>simp at hi
 |succ n ih=>show(zero++aU zero n)[i]? =_;by_cases c:i<zero.length;rw[List.getElem?_append_left c,Nat.mod_eq_of_lt c];rw[List.getElem?_append_right oM,ih (i-zero.length) (by rw[Nat.succ_mul]at hi;omega),←Nat.mod_eq_sub_mod oM]
theorem kS{zero:List V}{z:List Value}(r:VsRel m zero z)(n:Nat):VsRel m (aU zero n) ((Array.range (n*z.length)).map fun i=>z.toArray[i%z.toArray.size]!).toList:=by
 have K:=r.length;refine VsRel.of_get (by simp[qf,K]) fun i v hi=>?_;have Z:i<n*zero.length:=by obtain q|q:=TB i (n*zero.length);exact q;rw[TU (by rw[qf];exact q)]at hi;cases hi
 rw[Ek _ _ _ Z]at hi;let⟨x,hx,rx⟩:=r.get _ _ hi;refine⟨x,?_,rx⟩;have hz:0<z.length:=by grind
 have hm:i%z.length<z.length:=TY _ hz;rw[<-K]at hx;simp[K,Z];rw[<-K];rw[Sm hm]at hx;cases hx;simp[hm]
noncomputable def srcCells(h:Heap)(esz:Nat)(v:V)(n:Nat):Option (List V):=
 match v with
 |.slice b o _ _=>aj h b o (n*esz)
 |.sliceU b o _ _=>aj h b o (n*esz)
 |.nils=>bif Nat.beq n 0 then some []else none
 |.sliceE=>bif Nat.beq n 0 then some []else none
 |.sliceZ _ _=>bif Nat.beq n 0 then some []else none
 |.str s=>bif Nat.beq esz 1&&Nat.beq n s.length then some (s.map fun b=>.int .u8 (Int.ofNat b.toNat))else none
 |_=>none
def srcLen(v:V):Option Nat:=
 match v with
 |.slice _ _ n _=>some n
 |.sliceU _ _ n _=>some n
 |.nils=>some 0
 |.sliceE=>some 0
 |.sliceZ _ _=>some 0
 |.str s=>some s.length
 |_=>none
def gW(v:V):Option Nat:=
 match v with
 |.str _=>none
 |v=>srcLen v
theorem rA{v:V}{n:Nat}{x:Value}(Z:srcLen v=some n)(r:VRel m v x)(w:World):(Builtin.lenOf x).run P w=.ok n w:=by unfold srcLen at Z;split at Z;cases Z;obtain⟨_,_,_,rfl⟩:=r;rfl;cases Z;obtain⟨_,_,_,rfl⟩:=r;rfl;cases Z;simp only[VRel]at r;subst r;rfl;cases Z;obtain⟨_,_,rfl⟩:=r;rfl;cases Z;simp only[VRel]at r;subst r;rfl;cases Z;simp only[VRel]at r;subst r;simp[Builtin.lenOf,ByteArray.size];cases Z
theorem vU(m:M):∀(s:List UInt8),VsRel m (s.map fun b=>V.int .u8 (Int.ofNat b.toNat)) (s.map fun b=>Value.int .u8 b.toNat)
 |[]=>rfl
 |b::s=>⟨_,_,rfl,rfl,vU m s⟩
theorem ju(H:HRel m h w){esz n:Nat}{v:V}{x:Value}{vs:List V}(Z:srcCells h esz v n=some vs)(r:VRel m v x):
 ∃xs,(Builtin.firstCells esz n x).run P w=.ok (List.toArray xs) w/\VsRel m vs xs/\vs.length=n*esz:=by
 unfold srcCells at Z;split at Z;obtain⟨ac,hm,_,rfl⟩:=r;exact H.load P hm Z;obtain⟨ac,hm,_,rfl⟩:=r;exact H.load P hm Z;cases K:Nat.beq n 0;grind;rw[K]at Z;cases Z;have:=RY K;subst this;simp only[VRel]at r;subst r;exact⟨[],rfl,rfl,iS⟩;cases K:Nat.beq n 0;grind;rw[K]at Z;cases Z;have:=RY K;subst this;obtain⟨a,c,rfl⟩:=r;refine⟨[],?_,rfl,iS⟩;simp[Builtin.firstCells,loadCells,loadCellsFrom];cases K:Nat.beq n 0;grind;rw[K]at Z;cases Z;have:=RY K;subst this;simp only[VRel]at r;subst r;refine⟨[],?_,rfl,iS⟩;simp[Builtin.firstCells,loadCells,loadCellsFrom];rename_i s;cases K:(Nat.beq esz 1&&Nat.beq n s.length);grind;rw[K]at Z;simp only[cond_true,Sh]at Z;simp only[RU]at K;have h1:=RY K.1;have h2:=RY K.2;subst h1;subst h2;subst Z;simp only[VRel]at r;subst r;refine⟨s.map fun b=>Value.int .u8 b.toNat,?_,vU m s,iS⟩;have:((⟨s.toArray⟩:ByteArray).extract 0 s.length).data=s.toArray:=by rw[ByteArray.data_extract];simp
 simp only[Builtin.firstCells,this,Sy];simp;cases Z
noncomputable def vZ(h:Heap)(zero:List V)(bytes:Nat)(l c:V):Option (V×Heap):=
 match l,c with
 |.int _ (.ofNat l),.int _ (.ofNat c)=>
  bif Nat.ble l c&&Nat.blt c 9223372036854775808&&Nat.ble (bytes*c) 281474976710656 then some (.slice h.next 0 l c,halloc h (aU zero c))else none
 |_,_=>none
def oF(P:Program)(op:Op)(zero:List V)(bytes:Nat):Bool:=match op with
 |.makeSlice t _ _=>match P.underlying t with
  |some (.slice e)=>jo P e zero&&dH P e zero.length&&Nat.blt 0 zero.length&&(match P.info? e with|some i=>Nat.beq i.bytes bytes|none=>false)
  |_=>false
 |_=>false
theorem jq{n:Nat}(Z:n<9223372036854775808):IntKind.i64.wrap (Int.ofNat n)=(n:Int):=by
 rw[<-dW];show(bif Nat.blt n 9223372036854775808 then _ else _)=_;have:Nat.blt n 9223372036854775808=true:=by rw[SI];exact Z
 rw[this];rfl
theorem zL(H:HRel m h w){o:Oper}{ρ:Operand→Value}{zero:List V}{bytes:Nat}{l c v:V}{h':Heap}(hc:oF P o.op zero bytes=true)(hv:VsRel m [l,c] (OV ρ o.op))
 (hs:vZ h zero bytes l c=some (v,h')):MS P m h w o ρ v h':=by
 unfold oF at hc;split at hc;rename_i t a b hy;split at hc;rename_i e hu;simp only[Bool.and_eq_true,Nat.blt_eq]at hc;let⟨⟨⟨hz,hsz⟩,hpos⟩,hi⟩:=hc;split at hi;rename_i i hinf;have hby:=Nat.eq_of_beq_eq_true hi;let⟨x',y',e',rx,ry⟩:=cG hv;rw[hy]at e';change[ρ a,ρ b]=[x',y']at e';simp only[List.cons.injEq,and_true]at e';unfold vZ at hs;split at hs;rename_i k1 l k2 c;cases hb:(Nat.ble l c&&Nat.blt c 9223372036854775808&&Nat.ble (bytes*c) 281474976710656);grind;rw[hb]at hs;simp only[cond_true,Option.some.injEq,Prod.mk.injEq]at hs;obtain⟨rfl,rfl⟩:=hs;simp only[Bool.and_eq_true,Nat.blt_eq]at hb;let⟨⟨h1,h2⟩,h3⟩:=hb;have h1:=Nat.le_of_ble_eq_true h1;have h3:=Nat.le_of_ble_eq_true h3;simp only[VRel]at rx ry;let⟨z,hzz,hvz⟩:=iU (w:=w) hz;have rz:VsRel m zero z.cells.toList:=dy m _ _ hvz;have hzl:=rz.length;have rel:=kS rz c;let⟨H',E'⟩:=H.alloc_list e rel;refine⟨_,_,_,.inl ?_,⟨_,aA _ _ _,h1,rfl⟩,H',E'⟩;have w1:IntKind.i64.wrap (Int.ofNat l)=(l:Int):=jq oM;have w2:IntKind.i64.wrap (Int.ofNat c)=(c:Int):=jq h2;have hcond:¬((decide ((c:Int)<0)||decide ((i.bytes:Int) *(c:Int)>2^48)||decide ((l:Int)<0)||decide ((l:Int)>(c:Int)))=true):=by grind
 have hnr:=fun X=>dh (P:=P) (w:=w) X e;simp only[execOp,hy,e'.1,e'.2,rx,ry,Instr.makeSlice,asInt,asIntOf,Sem.run_bind,Sem.run_pure,Result.andThen_ok,aD hu,dT hinf,w1,w2];rw[if_neg (by simpa[Bool.or_assoc]using hcond)];simp only[Sem.run_bind,run_askRoom,Result.andThen_ok,cI hsz,Int.toNat_natCast];by_cases hc0:c*zero.length=0;rw[if_pos hc0];simp only[Sem.run_bind,Result.andThen_ok,Sem.run_pure,hnr];have e1:∀zz:Array Value,(Array.range (c*zero.length)).map (fun i=>zz[i%zz.size]!)= #[]:=fun zz=>by rw[hc0];simp
 have e2:∀zz:Array Value,(Array.range (c*z.cells.toList.length)).map (fun i=>zz[i%zz.size]!)= #[]:=fun zz=>by rw[hzl];exact e1 zz
 rw[e1,e2];rw[if_neg hc0];simp only[Sem.run_bind,hzz,Result.andThen_ok,Sem.run_pure,hnr];rw[hzl];cases hs;cases hi;cases hc;cases hc
def mkN(bytes:Nat)(l c:V):Option (Nat×Nat):=
 match l,c with
 |.int _ (.ofNat l),.int _ (.ofNat c)=>bif Nat.ble l c&&Nat.blt c 9223372036854775808&&Nat.ble (bytes*c) 281474976710656 then some (l,c)else none
 |_,_=>none
theorem Du{o:Oper}{ρ:Operand→Value}{zero:List V}{bytes:Nat}{l c:V}{n k:Nat}(hc:oF P o.op zero bytes=true)(hv:VsRel m [l,c] (OV ρ o.op))
 (hs:mkN bytes l c=some (n,k)):∃X elem,(execOp ρ o).run P w=.ok (.value (.slice (some ⟨w.heap.size,0,none⟩) n k)) (w.alloc (.cells X elem))∧VsRel m (aU zero k) X.toList∧n≤k:=by
 unfold oF at hc;split at hc;rename_i t a b hy;split at hc;rename_i e hu;simp only[Bool.and_eq_true,Nat.blt_eq]at hc;let⟨⟨⟨hz,hsz⟩,hpos⟩,hi⟩:=hc;split at hi;rename_i i hinf;have hby:=Nat.eq_of_beq_eq_true hi;let⟨x',y',e',rx,ry⟩:=cG hv;rw[hy]at e';change[ρ a,ρ b]=[x',y']at e';simp only[List.cons.injEq,and_true]at e';unfold mkN at hs;split at hs;rename_i k1 l k2 c;cases hb:(Nat.ble l c&&Nat.blt c 9223372036854775808&&Nat.ble (bytes*c) 281474976710656);grind;rw[hb]at hs;simp only[cond_true,Option.some.injEq,Prod.mk.injEq]at hs;obtain⟨rfl,rfl⟩:=hs;simp only[Bool.and_eq_true,Nat.blt_eq]at hb;let⟨⟨h1,h2⟩,h3⟩:=hb;have h1:=Nat.le_of_ble_eq_true h1;have h3:=Nat.le_of_ble_eq_true h3;simp only[VRel]at rx ry;let⟨z,hzz,hvz⟩:=iU (w:=w) hz;have rz:VsRel m zero z.cells.toList:=dy m _ _ hvz;have hzl:=rz.length;have rel:=kS rz c;refine⟨_,e,?_,rel,h1⟩;have w1:IntKind.i64.wrap (Int.ofNat l)=(l:Int):=jq oM;have w2:IntKind.i64.wrap (Int.ofNat c)=(c:Int):=jq h2;have hcond:¬((decide ((c:Int)<0)||decide ((i.bytes:Int) *(c:Int)>2^48)||decide ((l:Int)<0)||decide ((l:Int)>(c:Int)))=true):=by grind
 have hnr:=fun X=>dh (P:=P) (w:=w) X e;simp only[execOp,hy,e'.1,e'.2,rx,ry,Instr.makeSlice,asInt,asIntOf,Sem.run_bind,Sem.run_pure,Result.andThen_ok,aD hu,dT hinf,w1,w2];rw[if_neg (by simpa[Bool.or_assoc]using hcond)];simp only[Sem.run_bind,run_askRoom,Result.andThen_ok,cI hsz,Int.toNat_natCast];by_cases hc0:c*zero.length=0;rw[if_pos hc0];simp only[Sem.run_bind,Result.andThen_ok,Sem.run_pure,hnr];have e1:∀zz:Array Value,(Array.range (c*zero.length)).map (fun i=>zz[i%zz.size]!)= #[]:=fun zz=>by rw[hc0];simp
 have e2:∀zz:Array Value,(Array.range (c*z.cells.toList.length)).map (fun i=>zz[i%zz.size]!)= #[]:=fun zz=>by rw[hzl];exact e1 zz
 rw[e1,e2];rw[if_neg hc0];simp only[Sem.run_bind,hzz,Result.andThen_ok,Sem.run_pure,hnr];rw[hzl];cases hs;cases hi;cases hc;cases hc
end
section
variable {P : Program} {m : M} {h : Heap} {w : World}
def iV(esz:Nat):List (Nat×Operand)->List (Nat×Nat)->Bool
 |[],[]=>true
 |(i,_)::ps,(off,n)::qs=>Nat.beq off (i*esz)&&Nat.beq n esz&&iV esz ps qs
 |_,_=>false
theorem nC{esz:Nat}{ρ:Operand→Value}:∀(qs:List (Nat×Nat))(ps:List (Nat×Operand)),iV esz ps qs=true→
 (ps.map fun p=>(p.1,ρ p.2)).map (fun p=>some (p.1*esz,esz))=qs.map some
 |[],[],_=>rfl
 |[],_::_,h=>by simp[iV]at h
 |_::_,[],h=>by simp[iV]at h
 |(off,n)::qs,(i,x)::ps,h=>by simp only[iV,Bool.and_eq_true]at h;have h1:=Nat.eq_of_beq_eq_true h.1.1;have h2:=Nat.eq_of_beq_eq_true h.1.2;simp only[List.map_cons,nC qs ps h.2,h1,h2]
noncomputable def jI(h:Heap)(zero:List V)(places:List (Nat×Nat))(len:Nat)(vs:List V):Option (V×Heap):=
 match dP (aU zero len) places vs with
 |some c=>some (.slice h.next 0 len len,halloc h c)
 |none=>none
def lN(P:Program)(op:Op)(zero:List V)(places:List (Nat×Nat))(len:Nat):Bool:=match op with
 |.buildSlice t len' parts=>match P.underlying t with
  |some (.slice e)=>Nat.beq len len'&&jo P e zero&&dH P e zero.length&&Nat.blt 0 zero.length&&Nat.ble (len*zero.length) 16777216&&iV zero.length parts.toList places
  |_=>false
 |_=>false
theorem qC{o:Oper}{ρ:Operand->Value}{zero:List V}{Z:List (Nat×Nat)}{len:Nat}{vs c:List V}(hc:lN P o.op zero Z len=true)
 (hv:VsRel m vs (OV ρ o.op)) (hf:dP (aU zero len) Z vs=some c):
 ∃X elem,(execOp ρ o).run P w=.ok (.value (.slice (some ⟨w.heap.size,0,none⟩) len len)) (w.alloc (.cells X elem))/\VsRel m c X.toList:=by
 unfold lN at hc;split at hc;rename_i t az K hy;split at hc;rename_i e hu;simp only[RU,SI]at hc;let⟨⟨⟨⟨⟨hl,hz⟩,hsz⟩,hpos⟩,af⟩,hpl⟩:=hc;have hl:=RY hl;have af:=Si af;subst hl;let⟨z,hzz,hvz⟩:=iU (w:=w) hz;have rz:VsRel m zero z.cells.toList:=dy m _ _ hvz;have ar:=rz.length;have rel:=kS rz len;rw[hy]at hv;have ax:VsRel m vs ((K.toList.map fun p=>(p.1,ρ p.2)).map (·.2)):=by simpa[OV,Op.operands,VR]using hv
 let⟨r',h1,h2⟩:=sN (fun i=>some (i*zero.length,zero.length)) Z vs _ (aU zero len) _ c hf rel ax (nC Z K.toList hpl);refine⟨List.toArray r',e,?_,by simpa using h2⟩;have an:=fun X=>dh (P:=P) (w:=w) X e;have ac:(K.map fun(p:Nat×Operand)=>(p.1,ρ p.2)).toList=K.toList.map fun p=>(p.1,ρ p.2):=by simp
 have ay:¬len*zero.length>2^24:=oM;have ae:(Array.range (len*zero.length)).map (fun i=>z.cells[i%z.cells.size]!)=List.toArray ((Array.range (len*z.cells.toList.length)).map fun i=>z.cells.toList.toArray[i%z.cells.toList.toArray.size]!).toList:=by rw[ar]
 simp only[execOp,hy,Instr.buildSlice,Sq,aD hu,Sa,cI hsz];rw[if_neg ay];by_cases ak:len*zero.length=0;simp only[ak,if_true,Sq,Sy,Sa];have e1:(Array.range 0).map (fun i=>(#[]:Array Value)[i%(#[]:Array Value).size]!)=List.toArray ((Array.range (len*z.cells.toList.length)).map fun i=>z.cells.toList.toArray[i%z.cells.toList.toArray.size]!).toList:=by grind
 rw[e1,ac,h1];simp[an];rw[if_neg ak];simp only[Sq,hzz,Sa,Sy];rw[ae,ac,h1];simp[an];cases hc;cases hc
theorem ue(H:HRel m h w){o:Oper}{ρ:Operand->Value}{zero:List V}{Z:List (Nat×Nat)}{len:Nat}{vs:List V}{v:V}{h':Heap}(hc:lN P o.op zero Z len=true)
 (hv:VsRel m vs (OV ρ o.op)) (K:jI h zero Z len vs=some (v,h')):MS P m h w o ρ v h':=by
 unfold jI at K;split at K;rename_i c hf;simp only[Sh,SJ]at K;obtain⟨rfl,rfl⟩:=K;let⟨X,e,hrun,rX⟩:=qC (P:=P) (w:=w) hc hv hf;let⟨H',E'⟩:=H.alloc_list e rX;refine⟨_,_,_,.inl ?_,⟨_,aA _ _ _,RW _,rfl⟩,H',E'⟩;simpa using hrun;cases K
noncomputable def mB(h:Heap)(esz:Nat)(d s:V):Option (V×Heap):=
 match gW d,srcLen s with
 |some dl,some sl=>
  let n:=Nat.min sl dl
  bif Nat.beq n 0 then some (.int .i64 0,h)else
   match srcCells h esz s n with
   |some vs=>
    match d with
    |.slice b o _ _=>(di h b o vs).map fun h'=>(.int .i64 n,h')
    |.sliceU b o _ _=>(di h b o vs).map fun h'=>(.int .i64 n,h')
    |_=>none
   |none=>none
 |_,_=>none
def xw(P:Program)(op:Op)(esz:Nat):Bool:=match fL op .copy with
 |some (args,ts)=>Nat.beq args.size 2&&(match ts[0]? with|some t=>kG P t none esz|none=>false)
 |none=>false
theorem xU{op:Op}{b:Builtin}{args:Array Operand}{ts:Array TypeId}(hcl:fL op b=some (args,ts))(h:args.size=2):∃x y,op=.call {callee:=.builtin b,args:= #[x,y],argTypes:=ts}:=by
 unfold fL at hcl;split at hcl;rename_i b' args' ts';split at hcl;rename_i hb;subst hb;simp only[Option.some.injEq,Prod.mk.injEq]at hcl;obtain⟨rfl,rfl⟩:=hcl;let⟨l⟩:=args';match l,h with
 |[x,y],_=>exact⟨x,y,rfl⟩
 cases hcl;cases hcl
theorem VRel.nonnil{v:V}{x:Value}{n:Nat}(r:VRel m v x)(Z:gW v=some n):∃a c,x=.slice a n c:=by unfold gW at Z;split at Z;cases Z;rename_i K;unfold srcLen at Z;split at Z;cases Z;obtain⟨_,_,_,rfl⟩:=r;exact⟨_,_,rfl⟩;cases Z;obtain⟨_,_,_,rfl⟩:=r;exact⟨_,_,rfl⟩;cases Z;exact⟨_,_,r⟩;cases Z;obtain⟨_,_,rfl⟩:=r;exact⟨_,_,rfl⟩;cases Z;exact⟨_,_,r⟩;grind;cases Z
theorem Fw{v:V}{x:Value}{n:Nat}(r:VRel m v x)(Z:srcLen v=some n)(esz:Nat)(w:World):(Builtin.firstCells esz 0 x).run P w=.ok #[] w:=by unfold srcLen at Z;split at Z;obtain⟨_,_,_,rfl⟩:=r;simp[Builtin.firstCells,loadCells,loadCellsFrom];obtain⟨_,_,_,rfl⟩:=r;simp[Builtin.firstCells,loadCells,loadCellsFrom];simp only[VRel]at r;subst r;simp[Builtin.firstCells];obtain⟨_,_,rfl⟩:=r;simp[Builtin.firstCells,loadCells,loadCellsFrom];simp only[VRel]at r;subst r;simp[Builtin.firstCells,loadCells,loadCellsFrom];simp only[VRel]at r;subst r;simp[Builtin.firstCells];cases Z
theorem zR(H:HRel m h w){o:Oper}{ρ:Operand→Value}{esz:Nat}{d s v:V}{h':Heap}(hc:xw P o.op esz=true)(hv:VsRel m [d,s] (OV ρ o.op))
 (hs:mB h esz d s=some (v,h')):MS P m h w o ρ v h':=by
 unfold xw at hc;split at hc;rename_i args ts hcl;simp only[Bool.and_eq_true]at hc;let⟨hsz,ht⟩:=hc;split at ht;rename_i t hts;let⟨e,hu,hes⟩:=mZ ht;let⟨x,y,hy⟩:=xU hcl (Nat.eq_of_beq_eq_true hsz);let⟨x',y',e',rx,ry⟩:=cG hv;rw[hy]at e';change[ρ x,ρ y]=[x',y']at e';simp only[List.cons.injEq,and_true]at e';unfold mB at hs;split at hs;rename_i dl sl hdl hsl;let⟨da,dc,hdx⟩:=rx.nonnil hdl;have hlen:=fun w=>rA (P:=P) hsl ry w;have base:∀w1,(execOp ρ o).run P w1=((Builtin.firstCells esz (Nat.min sl dl) y').run P w1).andThen fun cells w2=>
  ((match da with|some a=>storeCells a cells.toList|none=>pure ()).run P w2).andThen fun _ w3=>.ok (.value (goInt (Nat.min sl dl))) w3:=by
  intro w1;simp only[execOp,hy,resolve,invoke,builtin,Builtin.copy_,Sem.run_bind,Sem.run_pure,Result.andThen_ok];simp only[List.map_toArray,List.map_cons,List.map_nil,e'.1,e'.2,hts,hdx,aD hu,hlen,cI hes,Sem.run_bind,Result.andThen_ok,
   List.getElem?_toArray,List.getElem?_cons_zero,List.getElem?_cons_succ]
  cases(Builtin.firstCells esz (Nat.min sl dl) y').run P w1 with
  |halt x y=>rfl
  |ok cells w2=>
   simp only[Result.andThen_ok];cases da with
   |none=>rfl
   |some a=>simp only[Sem.run_bind,Sem.run_pure];cases(storeCells a cells.toList).run P w2<;>rfl
 cases hb:Nat.beq (Nat.min sl dl) 0;simp only[hb,cond_false]at hs;split at hs;rename_i vs hvs;let⟨xs,hxs,rxs,hvl⟩:=ju (P:=P) H hvs ry;have fin:∀b k loc,m b=some loc→da=some ⟨loc.block,loc.base+k,none⟩→(di h b k vs).map (fun h'=>(V.int .i64 (Nat.min sl dl:Nat),h'))=some (v,h')→MS P m h w o ρ v h':=by
  intro b k loc hm hda hst;cases hst':di h b k vs with
  |none=>rw[hst']at hst;cases hst
  |some h2=>rw[hst']at hst;simp only[Option.map_some,Option.some.injEq,Prod.mk.injEq]at hst;obtain⟨rfl,rfl⟩:=hst;let⟨w',hrun,H',E'⟩:=H.store P hm hst' rxs;refine⟨_,w',m,.inl ?_,rfl,H',E'⟩;rw[base w,hxs,hda];simp[hrun,goInt]
 split at hs;rename_i b k q1 q2;let⟨loc,hm,_,hx⟩:=rx;rw[hx]at hdx;simp only[Value.slice.injEq]at hdx;exact fin b k loc hm hdx.1.symm hs;rename_i b k q1 q2;let⟨loc,hm,_,hx⟩:=rx;rw[hx]at hdx;simp only[Value.slice.injEq]at hdx;exact fin b k loc hm hdx.1.symm hs;cases hs;cases hs;simp only[hb,cond_true,Option.some.injEq,Prod.mk.injEq]at hs;obtain⟨rfl,rfl⟩:=hs;have hn0:Nat.min sl dl=0:=Nat.eq_of_beq_eq_true hb;refine⟨_,w,m,.inl ?_,rfl,H,Ext.refl _ _ _⟩;rw[base w,hn0];rw[Fw ry hsl esz w];cases da<;>simp[storeCells,goInt]
 cases hs;cases ht;cases hc
end
section
variable {P : Program} {m : M} {h : Heap} {w : World}
theorem ve(newLen:Nat):∀r c,c<newLen->Builtin.growBy newLen r c<=2*newLen+1024
 |0,c,hc=>by simp only[Builtin.growBy];omega
 |r+1,c,hc=>by
  simp only[Builtin.growBy];rw[if_neg oM];by_cases hn:c+(c+768)/4<newLen;exact ve newLen r _ hn;cases r with
  |zero=>simp only[Builtin.growBy];omega
  |succ r=>simp only[Builtin.growBy];rw[if_pos oM];omega
theorem Am{Z cap:Nat}(K:cap<Z):Builtin.nextslicecap Z cap<=2*Z+1024:=by unfold Builtin.nextslicecap;split;omega;split;omega;exact ve Z 4 cap K
def xA(P:Program)(op:Op)(esz bytes:Nat):Bool:=match fL op .append with
 |some (args,ts)=>Nat.beq args.size 2&&(match ts[0]?,ts[1]? with
  |some t,some tx=>(match P.underlying t,P.underlying tx with
   |some (.slice e),some dx=>(match dx with|.slice _=>true|.string=>true|_=>false)&&(match P.info? e with
    |some i=>Nat.beq i.size esz&&Nat.beq i.bytes bytes&&(match i.zero with|some z=>Nat.beq z.cells.size esz|none=>false)
    |none=>false)
   |_,_=>false)
  |_,_=>false)&&Nat.blt 0 esz&&Nat.blt 0 bytes
 |none=>false
structure AppFacts(P:Program)(o:Oper)(esz bytes:Nat)(x y:Operand)(elem:TypeId)(z:Value):Prop where
 pos:0<esz
 zsz:z.cells.size=esz
 fits:∀(ρ:Operand->Value)(w:World)(base:Option Addr)(sLen sCap n:Nat),ρ x=.slice base sLen sCap->(Builtin.lenOf (ρ y)).run P w=.ok n w->sLen+n<=sCap->
  (execOp ρ o).run P w=((Builtin.firstCells esz n (ρ y)).run P w).andThen fun new w1=>
   ((match base with|some a=>storeCells (a.add (sLen*esz)) new.toList|none=>pure ()).run P w1).andThen fun _ w2=>.ok (.value (.slice base (sLen+n) sCap)) w2
 grows:∀(ρ:Operand->Value)(w:World)(base:Option Addr)(sLen sCap n:Nat),ρ x=.slice base sLen sCap->(Builtin.lenOf (ρ y)).run P w=.ok n w->¬sLen+n<=sCap->
  (2*(sLen+n)+1024) *bytes<=281474976710656->∃newCap,sLen+n<=newCap/\
  (execOp ρ o).run P w=((Builtin.firstCells esz sLen (ρ x)).run P w.drew).andThen fun old w1=>((Builtin.firstCells esz n (ρ y)).run P w1).andThen fun new w2=>
   ((newRow elem (old++new++Builtin.zeroCells z.cells (newCap-(sLen+n)))).run P w2).andThen fun a w3=>.ok (.value (.slice (some a) (sLen+n) newCap)) w3
theorem Dr{o:Oper}{esz bytes:Nat}(hc:xA P o.op esz bytes=true):∃x y ts elem z,o.op=.call {callee:=.builtin .append,args:= #[x,y],argTypes:=ts}∧AppFacts P o esz bytes x y elem z:=by
 unfold xA at hc;split at hc
 ·rename_i args ts hcl;simp only[Bool.and_eq_true,Nat.blt_eq]at hc;obtain⟨⟨⟨hsz,ht⟩,hesz⟩,hby⟩:=hc;obtain⟨x,y,hy⟩:=xU hcl (Nat.eq_of_beq_eq_true hsz);split at ht
  ·rename_i t tx ht0 ht1;split at ht
   ·rename_i e dx hu hux;simp only[Bool.and_eq_true]at ht;obtain⟨hdx,ht⟩:=ht;have hcase:(∃e2,dx=.slice e2)∨dx=.string:=by grind
    obtain⟨e2,rfl⟩|rfl:=hcase;all_goals
     split at ht
     ·rename_i i hi;simp only[Bool.and_eq_true]at ht;obtain⟨⟨h1,h2⟩,h3⟩:=ht;split at h3
      ·rename_i z hz;have h1:=Nat.eq_of_beq_eq_true h1;have h2:=Nat.eq_of_beq_eq_true h2;have h3:=Nat.eq_of_beq_eq_true h3;refine⟨x,y,ts,e,z,hy,hesz,h3,?_,?_⟩
       ·intro ρ w base sLen sCap n hx hl hle;simp only[execOp,hy,resolve,invoke,builtin,Builtin.append_,Sem.run_bind,Sem.run_pure,Result.andThen_ok];simp only[List.map_toArray,List.map_cons,List.map_nil,hx,ht0,ht1,aD hu,aD hux,hl,sizeOf,dT hi,h1,Sem.run_bind,Sem.run_pure,Result.andThen_ok,
         List.getElem?_toArray,List.getElem?_cons_zero,List.getElem?_cons_succ,Bool.false_eq_true,if_false,if_pos hle,Bool.not_false,if_true]
        cases(Builtin.firstCells esz n (ρ y)).run P w with
        |halt a b=>rfl
        |ok new w1=>
         simp only[Result.andThen_ok];cases base with
         |none=>rfl
         |some a=>simp only[Sem.run_bind,Sem.run_pure];cases(storeCells (a.add (sLen*esz)) new.toList).run P w1<;>rfl
       ·intro ρ w base sLen sCap n hx hl hle hlim;refine⟨(Question.appendCap (sLen+n) sCap e).cut (w.tape w.drawn (.appendCap (sLen+n) sCap e)),by simp only[Question.cut];omega,?_⟩;have hnc:Builtin.nextslicecap (sLen+n) sCap≤2*(sLen+n)+1024:=Am oM;have hb1:¬(((sLen+n:Nat):Int)>IntKind.i64.max∧(false=true∨i.bytes=0)):=by grind
        have hb2:¬Builtin.nextslicecap (sLen+n) sCap*i.bytes>2^48:=by
         rw[h2];have:=Nat.mul_le_mul_right bytes hnc;omega
        have hzz:∀w,(zeroValue e).run P w=.ok z w:=fun w=>by simp[zeroValue,dT hi,hz]
        simp only[execOp,hy,resolve,invoke,builtin,Builtin.append_,Sem.run_bind,Sem.run_pure,Result.andThen_ok];simp only[List.map_toArray,List.map_cons,List.map_nil,hx,ht0,ht1,aD hu,aD hux,hl,sizeOf,dT hi,h1,Sem.run_bind,Sem.run_pure,Result.andThen_ok,
         List.getElem?_toArray,List.getElem?_cons_zero,List.getElem?_cons_succ,Bool.false_eq_true,if_false,if_neg hle,Bool.not_false,if_true]
        rw[if_neg (eV hb1)];simp only[Sem.run_bind,dT hi,Result.andThen_ok];rw[if_neg hb2];simp only[Sem.run_bind,run_choose,Question.forced,Bool.false_eq_true,if_false,Result.andThen_ok,dT hi,run_askRoom,Sem.run_pure,World.drew_eq];cases(Builtin.firstCells esz sLen (.slice base sLen sCap)).run P w.drew with
        |halt a b=>rfl
        |ok old w1=>
         simp only[Result.andThen_ok];cases(Builtin.firstCells esz n (ρ y)).run P w1 with
         |halt a b=>rfl
         |ok new w2=>
          simp only[Result.andThen_ok,hzz];cases(newRow e (old++new++Builtin.zeroCells z.cells ((Question.appendCap (sLen+n) sCap e).cut (w.tape w.drawn (.appendCap (sLen+n) sCap e))-(sLen+n)))).run P w2<;>rfl
      ·cases h3
     ·cases ht
   ·cases ht
  ·cases ht
 ·cases hc
end
noncomputable def tH(h:Heap)(esz bytes need:Nat)(c:List V):Option (V×Heap):=
 bif Nat.ble ((2*need+1024) *bytes) 281474976710656 then some (.sliceU h.next 0 need esz,halloc h c)else none
noncomputable def jQ(h:Heap)(esz bytes:Nat)(s x:V):Option (V×Heap):=
 match srcLen x with
 |none=>none
 |some n=>
  bif Nat.beq n 0 then
   match gW s with
   |some _=>some (s,h)
   |none=>none
  else
   match srcCells h esz x n with
   |none=>none
   |some xs=>
    match s with
    |.nils=>tH h esz bytes n xs
    |.slice b o len cap=>
     bif Nat.ble (len+n) cap then(di h b (o+len*esz) xs).map fun h'=>(.slice b o (len+n) cap,h')
     else match aj h b o (len*esz)with
      |some old=>tH h esz bytes (len+n) (old++xs)
      |none=>none
    |.sliceU b o len e=>
     bif Nat.beq e esz&&Nat.ble ((2*(len+n)+1024) *bytes) 281474976710656 then
      match dN h b with
      |some c=>
       bif Nat.ble (o+(len+n) *esz) c.length then(di h b (o+len*esz) xs).map fun h'=>(.sliceU b o (len+n) e,h')
       else bif Nat.ble (o+len*esz) c.length&&au xs then
        match dA (len*esz) (fX c o)with
        |some old=>(mX h b (o+len*esz) (old++xs)).map fun h'=>(.sliceU h.next 0 (len+n) e,h')
        |none=>none
       else none
      |none=>none
     else none
    |_=>none
section
variable {P : Program} {m : M} {h : Heap} {w : World}
theorem jR(z:Array Value)(n:Nat):(Builtin.zeroCells z n).size=n*z.size:=by simp[Builtin.zeroCells]
theorem HRel.drew(H:HRel m h w):HRel m h w.drew:=H.congr rfl
theorem qA(H:HRel m h w){o:Oper}{ρ:Operand->Value}{esz bytes:Nat}{x y:Operand}{elem:TypeId}{z:Value}(F:AppFacts P o esz bytes x y elem z)
 {base:Option Addr} {len cap n:Nat} {old xs:List V} {v:V} {h':Heap} (hx:ρ x=.slice base len cap) (hn:∀w,(Builtin.lenOf (ρ y)).run P w=.ok n w) (ac:¬len+n<=cap)
 (K:∃ys,(Builtin.firstCells esz len (ρ x)).run P w.drew=.ok (List.toArray ys) w.drew/\VsRel m old ys/\old.length=len*esz)
 (hnew:∃ys,(Builtin.firstCells esz n (ρ y)).run P w.drew=.ok (List.toArray ys) w.drew/\VsRel m xs ys/\xs.length=n*esz)
 (hs:tH h esz bytes (len+n) (old++xs)=some (v,h')):MS P m h w o ρ v h':=by
 unfold tH at hs;cases hb:Nat.ble ((2*(len+n)+1024) *bytes) 281474976710656;grind;rw[hb]at hs;simp only[cond_true,Sh,SJ]at hs;obtain⟨rfl,rfl⟩:=hs;let⟨nc,hnc,hrun⟩:=F.grows ρ w base len cap n hx (hn w) ac (Si hb);let⟨ys,h1,r1,l1⟩:=K;let⟨zs,h2,r2,l2⟩:=hnew;rw[h1]at hrun;simp only[Sa]at hrun;rw[h2]at hrun;simp only[Sa,dh]at hrun;have rr:=Ux r1 r2;have ak:=r1.length;have ae:=r2.length;have Z:(List.toArray ys++List.toArray zs++Builtin.zeroCells z.cells (nc-(len+n))).size=nc*esz:=by simp[jR,F.zsz,ak,ae,l1,l2,<-Us];congr 1;omega
 have:=H.drew.alloc (old++xs) (List.toArray ys++List.toArray zs++Builtin.zeroCells z.cells (nc-(len+n))) elem
  (by rw[Z];simp[l1,l2,<-Us];exact Ti _ hnc)
  (fun i v hi=>by
   let⟨q,hq,rq⟩:=rr.get i v hi;refine⟨q,?_,rq⟩;have af:i<(ys++zs).length:=(Ss.1 hq).1;rw[UY (eV af)];simpa using hq)
 let⟨H',E'⟩:=this;refine⟨_,_,_,.inl hrun,⟨_,aA _ _ _,?_,?_⟩,H',(Ext.drew m h w).trans E'⟩;simp only[Z,Vk];rw[UP _ F.pos];exact hnc;simp only[Z,Vk];rw[UP _ F.pos]
theorem AU(H:HRel m h w){o:Oper}{ρ:Operand->Value}{esz bytes:Nat}{s x v:V}{h':Heap}(hc:xA P o.op esz bytes=true)(hv:VsRel m [s,x] (OV ρ o.op))
 (Z:jQ h esz bytes s x=some (v,h')):MS P m h w o ρ v h':=by
 let⟨ox,oy,ts,elem,z,hy,F⟩:=Dr hc;let⟨x',y',e',rx,ry⟩:=cG hv;rw[hy]at e';change[ρ ox,ρ oy]=[x',y']at e';simp only[Sw,and_true]at e';unfold jQ at Z;split at Z;cases Z;rename_i n hn;have ak:∀w,(Builtin.lenOf (ρ oy)).run P w=.ok n w:=fun w=>by rw[e'.2];exact rA hn ry w
 cases hb:Nat.beq n 0;simp only[hb,cond_false]at Z;split at Z;cases Z;rename_i xs a9;have hnew:∃ys,(Builtin.firstCells esz n (ρ oy)).run P w.drew=.ok (List.toArray ys) w.drew/\VsRel m xs ys/\xs.length=n*esz:=by rw[e'.2];exact ju (P:=P) H.drew a9 ry
 have ax:∃ys,(Builtin.firstCells esz n (ρ oy)).run P w=.ok (List.toArray ys) w/\VsRel m xs ys/\xs.length=n*esz:=by rw[e'.2];exact ju (P:=P) H a9 ry
 have bg:n≠0:=by intro q;subst q;simp at hb
 split at Z
 -- nil
 simp only[VRel]at rx;have K:ρ ox=.slice none 0 0:=e'.1.trans rx;refine qA (old:=[]) (len:=0) H F K ak oM ⟨[],?_,rfl,iS⟩ hnew (eV Z);rw[K];rfl
 -- a slice of a known capacity
 rename_i b k len cap;let⟨loc,hm,hlc,K⟩:=rx;have K:=e'.1.trans K;cases ac:Nat.ble (len+n) cap;simp only[ac,cond_false]at Z;split at Z;rename_i old ay;refine qA H F K ak (by intro q;rw[UT q]at ac;cases ac) ?_ hnew Z;rw[K];exact H.drew.load P hm ay;cases Z;simp only[ac,cond_true]at Z;have ac:=Si ac;cases ae:di h b (k+len*esz) xs with
 |none=>rw[ae]at Z;cases Z
 |some h2=>rw[ae]at Z;simp only[Sx,Sh,SJ]at Z;obtain⟨rfl,rfl⟩:=Z;let⟨ys,h1,r1,l1⟩:=ax;let⟨w',hrun,H',E'⟩:=H.store P hm ae r1;refine⟨_,w',m,.inl ?_,⟨loc,hm,ac,rfl⟩,H',E'⟩;rw[F.fits ρ w _ len cap n K (ak w) ac,h1];simp only[Sa,im,TC,hrun]
 -- a slice of which only a least capacity is known
 rename_i b k len e;let⟨loc,hm,hlc,K⟩:=rx;have K:=e'.1.trans K;cases a1:(Nat.beq e esz&&Nat.ble ((2*(len+n)+1024) *bytes) 281474976710656);rw[a1]at Z;cases Z;rw[a1]at Z;simp only[cond_true]at Z;simp only[RU]at a1;have he:=RY a1.1;subst he;have bc:=Si a1.2;split at Z;rename_i c az;let⟨f,mk,hg,hrd⟩:=oQ az;let⟨bk,bf,rel⟩:=H.blk b loc hm;rw[hg]at bf;cases bf;let⟨C,el,fz,hC,hroom,hcl,hcell,hfz⟩:=rel hrd;cases ac:Nat.ble (k+(len+n) *e) c.length;simp only[ac,cond_false]at Z;have bv:¬k+(len+n) *e<=c.length:=by intro q;rw[UT q]at ac;cases ac
 cases a4:(Nat.ble (k+len*e) c.length&&au xs);rw[a4]at Z;cases Z;rw[a4]at Z;simp only[cond_true]at Z;simp only[RU]at a4;have ba:=Si a4.1;have a8:=a4.2;split at Z;rename_i old ay;let⟨hold',hol⟩:=jS ay;rw[bM]at hold' hol;cases a6:mX h b (k+len*e) (old++xs)with
 |none=>rw[a6]at Z;cases Z
 |some h2=>
  rw[a6]at Z;simp only[Sx,Sh,SJ]at Z;obtain⟨rfl,rfl⟩:=Z;let⟨ys,hy1,r1,l1⟩:=ax;have bA:=r1.length;have ar:old.length=len*e:=by rw[hold'];simp at hol|-;omega
  have a2:∀i:Nat,i<len*e->old[i]? =c[k+i]? :=by intro i hi;rw[hold',Uf,if_pos hi,To]
  have bw:(len+n) *e=len*e+n*e:=Us _ _ _;have a0:=F.pos;have bB:0<n*e:=VT oM a0;by_cases an:len+n<=(loc.room-k)/e
  -- in place
  have bz:(len+n) *e<=loc.room-k:=by have:=Ti e an;exact SD this (Nat.div_mul_le_self _ _)
  let⟨w',hrun,ae⟩:=jW P loc.block (loc.base+(k+len*e)) el fz ys 0 C w hC oM
   (fun j hj=>by have:=hfz (k+len*e+j) oM;rwa[(oM:loc.base+(k+len*e+j)=loc.base+(k+len*e)+0+j)]at this)
   (uN a8 r1)
  let⟨C',hC',hsz',hget'⟩:=ae.row C el fz hC;have a5:=H.super (loc':=⟨loc.block,loc.base+k,loc.room-k,none⟩) (news:=xs) (w':=w') hm hg a6 (eG ar) ba oM
   ⟨RW _,by simp[ar,l1];omega⟩
   ⟨C',el,fz,hC',by simp only[];omega,fun i u hi=>by
    simp only[];rw[hget' (loc.base+k+i)];by_cases a7:i<len*e;rw[Tt oM,a2 i a7]at hi;rw[if_neg oM,TC];exact hcell _ u hi;rw[TJ oM]at hi;let⟨q,hq,rq⟩:=r1.get _ _ hi;have bC:=(Ss.1 hq).1;refine⟨q,?_,rq⟩;rw[if_pos oM,if_pos oM,<-hq];congr 1;omega,
    fun i hi=>by simp only[]at hi|-;have:=hfz (k+i) oM;rwa[<-TC]at this⟩
   (.inr ⟨rfl,rfl,ae.other,fun C0 bj bm aH=>by
    rw[hC]at aH;cases aH;exact⟨C',hC',hsz',fun j hj=>by rw[hget' j,if_neg oM]⟩⟩)
   (fun _=>⟨by simp only[];omega,fun C0 bj bm C1 aH bh j hj=>by
    rw[hC]at aH;cases aH;rw[hC']at bh;cases bh;rw[hget' j,if_neg oM]⟩)
   (by rw[ae.size];exact RW _) (by rw[ae.size];exact H.inb b loc hm) ae.os ae.tape ae.output
  let⟨H',E'⟩:=a5;refine⟨_,w',_,.inl ?_,⟨_,aA _ _ _,an,rfl⟩,H',E'⟩;rw[F.fits ρ w _ len _ n K (ak w) an,hy1];simp only[Sa,im,TC,hrun];simp
  -- a new row
  let⟨nc,hnc,hrun⟩:=F.grows ρ w _ len _ n K (ak w) an bc;let⟨zs,h2',r2,l2⟩:=hnew;have a3:∃ys,(Builtin.firstCells e len (ρ ox)).run P w.drew=.ok (List.toArray ys) w.drew/\VsRel m old ys/\old.length=len*e:=by rw[K];apply H.drew.load P hm;unfold aj;rw[az];exact ay
  let⟨os,h1,ro,lo⟩:=a3;rw[h1]at hrun;simp only[Sa]at hrun;rw[h2']at hrun;simp only[Sa,dh]at hrun;have rr:=Ux ro r2;have bp:=ro.length;have bn:=r2.length;have br:(List.toArray os++List.toArray zs++Builtin.zeroCells z.cells (nc-(len+n))).size=nc*e:=by simp[jR,F.zsz,bp,bn,lo,l2,<-Us];congr 1;omega
  have bt:(len+n) *e<=nc*e:=Ti e hnc;have a5:=H.super (loc':=⟨w.heap.size,0,nc*e,none⟩) (news:=xs) (w':=w.drew.alloc (.cells (List.toArray os++List.toArray zs++Builtin.zeroCells z.cells (nc-(len+n))) elem)) hm hg a6 (eG ar) ba oM
   ⟨RW _,by simp[ar,l1];omega⟩
   ⟨_,elem,(0,0),heap_alloc_new w.drew _,by simp only[br];omega,fun i u hi=>by
    let⟨q,hq,rq⟩:=rr.get i u hi;refine⟨q,?_,rq⟩;have a7:i<(os++zs).length:=(Ss.1 hq).1;simp only[Tj];rw[UY (eV a7)];simpa using hq,fun i hi=>by simp⟩
   (.inl ⟨rfl,fun i hi=>heap_alloc_old w.drew _ _ hi⟩) (fun q=>by have:=H.inb b loc hm;simp only[]at q;omega) iS iS rfl rfl rfl
  let⟨H',E'⟩:=a5;refine⟨_,_,_,.inl hrun,⟨_,aA _ _ _,?_,?_⟩,H',E'⟩;simp only[Vk];rw[UP _ a0];exact hnc;simp only[Vk];rw[UP _ a0];rfl
 cases Z;simp only[ac,cond_true]at Z;have ac:=Si ac;cases ae:di h b (k+len*e) xs with
 |none=>rw[ae]at Z;cases Z
 |some h2=>
  rw[ae]at Z;simp only[Sx,Sh,SJ]at Z;obtain⟨rfl,rfl⟩:=Z;let⟨ys,h1,r1,l1⟩:=ax;let⟨w',hrun,H',E'⟩:=H.store P hm ae r1;have an:len+n<=(loc.room-k)/e:=by rw[Nat.le_div_iff_mul_le F.pos];omega
  refine⟨_,w',m,.inl ?_,⟨loc,hm,an,rfl⟩,H',E'⟩;rw[F.fits ρ w _ len _ n K (ak w) an,h1];simp only[Sa,im,TC,hrun]
 cases Z;cases Z;simp only[hb,cond_true]at Z;have bg:=RY hb;subst bg;split at Z;rename_i sl af;simp only[Sh,SJ]at Z;obtain⟨rfl,rfl⟩:=Z;let⟨a,c,K⟩:=rx.nonnil af;have bi:sl+0<=c:=by unfold gW at af;split at af;cases af;rename_i bo;unfold srcLen at af;split at af;cases af;let⟨_,_,q,e⟩:=rx;rw[K]at e;cases e;exact q;cases af;let⟨_,_,q,e⟩:=rx;rw[K]at e;cases e;exact q;cases af;simp only[VRel]at rx;rw[K]at rx;cases rx;omega;cases af;omega;cases af;omega;exact absurd rfl (bo _);cases af
 refine⟨x',w,m,.inl ?_,rx,H,Uy _ _ _⟩;rw[F.fits ρ w a sl c 0 (e'.1.trans K) (ak w) bi,e'.2];rw[Fw ry hn esz w,K];cases a<;>simp[storeCells]
 cases Z
end
section
variable {P : Program} {m : M} {h : Heap} {w : World}
def r9(ks:Option (List Nat))(a b:V):Option Bool:=
 match ks,a,b with
 |none,.int k a,.int k' b=>bif mV k k' then some (ieq a b)else none
 |some ks,.agg l,.agg l'=>i5 ks l l'
 |_,_,_=>none
def nO(P:Program)(t:TypeId):Option (List Nat)->Bool
 |none=>ka P t 0
 |some ks=>qd P t ks
def nP:Option (List Nat)->V->Bool
 |none,.int _ _=>true
 |some ks,.agg l=>Nat.beq l.length ks.length
 |_,_=>false
def fW(ks:Option (List Nat))(key:V):List (V×V×Nat)->Nat->Option (Option (Nat×V))
 |[],_=>some none
 |(k,v,_)::es,i=>match r9 ks key k with
  |some true=>some (some (i,v))
  |some false=>fW ks key es (i+1)
  |none=>none
def EsRel(m:M):List (V×V×Nat)->List MapEntry->Prop
 |[],es'=>es'=[]
 |(k,v,n)::es,es'=>∃e r,es'=e::r/\VRel m k e.key/\VRel m v e.val/\e.born=n/\EsRel m es r
def RO(m:M):Option (Nat×V)->Option (Nat×Value)->Prop
 |none,r=>r=none
 |some (i,v),r=>∃x,r=some (i,x)/\VRel m v x
theorem EsRel.of_get:∀(es:List (V×V×Nat))(es':List MapEntry),es'.length=es.length→(∀(i:Nat) k v n,es[i]? =some (k,v,n)→∃e:MapEntry,es'[i]? =some e∧VRel m k e.key∧VRel m v e.val∧e.born=n)→EsRel m es es'
 |[],es',hl,_=>by cases es'<;>simp_all [EsRel]
 |(k,v,n)::es,[],hl,_=>by simp at hl
 |(k,v,n)::es,e::r,hl,hg=>by let⟨e',h1,h2⟩:=hg 0 k v n rfl;simp at h1;subst h1;exact⟨e,r,rfl,h2.1,h2.2.1,h2.2.2,EsRel.of_get es r (eV hl) (fun i k v n hi=>by simpa using hg (i+1) k v n (eV hi))⟩
theorem EsRel.length:∀{es:List (V×V×Nat)}{es':List MapEntry},EsRel m es es'->es'.length=es.length
 |[],_,h=>by simp only[EsRel]at h;subst h;rfl
 |(_,_,_)::_,_,⟨_,_,rfl,_,_,_,t⟩=>by simp[EsRel.length t]
theorem EsRel.get:∀{es:List (V×V×Nat)}{es':List MapEntry},EsRel m es es'->∀(i:Nat) k v n,es[i]? =some (k,v,n)->∃e:MapEntry,es'[i]? =some e/\VRel m k e.key/\VRel m v e.val/\e.born=n
 |[],_,_,i,_,_,_,hi=>by simp at hi
 |(_,_,_)::_,_,⟨e,_,rfl,h1,h2,h3,t⟩,0,k,v,n,hi=>by grind
 |(_,_,_)::_,_,⟨_,_,rfl,_,_,_,t⟩,i+1,k,v,n,hi=>by simpa using EsRel.get t i k v n (eV hi)
theorem yT{kk:IntKind}{key:V}{x:Value}(rx:VRel m key x):∀(es:List (V×V×Nat))(es':List MapEntry)(i:Nat)(r:Option (Nat×V)),EsRel m es es'→
 fW none key es i=some r→∃r',Instr.findNow (.int kk) x es' i=some r'∧RO m r r'
 |[],es',i,r,he,hf=>by simp only[EsRel]at he;subst he;simp only[fW,Option.some.injEq]at hf;subst hf;exact⟨none,rfl,rfl⟩
 |(k,v,n)::es,es',i,r,he,hf=>by
  obtain⟨e,t,rfl,h1,h2,h3,ht⟩:=he;simp only[fW]at hf;cases hk:r9 none key k with
  |none=>rw[hk]at hf;cases hf
  |some b=>
   rw[hk]at hf;have key1:Instr.sameNow (.int kk) x e.key=some b:=by
    cases key<;>cases k<;>simp only[r9]at hk<;>first|(cases hk;done)|skip
    rename_i t1 a t2 b';cases hkb:mV t1 t2;grind;rw[hkb]at hk;simp only[cond_true,Option.some.injEq]at hk;have:=lE hkb;subst this;simp only[VRel]at rx h1;rw[rx,h1,←hk,fy];simp[Instr.sameNow]
   cases b;simp only[]at hf;obtain⟨r',f1,f2⟩:=yT rx es t (i+1) r ht hf;exact⟨r',by simp only[Instr.findNow,key1];exact f1,f2⟩;simp only[Option.some.injEq]at hf;subst hf;exact⟨some (i,e.val),by simp only[Instr.findNow,key1],_,rfl,h2⟩
theorem xf{t:TypeId}{ks:List Nat}(K:qd P t ks=true){l l':List V}{x y:Value}{r:Bool}(rx:VRel m (.agg l) x)(ry:VRel m (.agg l') y)(hc:i5 ks l l'=some r)(w:World):
 (Op.equal t x y).run P w=.ok r w:=by
 unfold qd at K;split at K;rename_i Z hu;simp only[RU,TP]at K;let⟨⟨h1,h2⟩,h3⟩:=K;obtain⟨xs,rfl,ae⟩:=rx;obtain⟨ys,rfl,af⟩:=ry;have ac:P.fieldsOf t=Z:=by unfold Program.fieldsOf;rw[hu]
 show(Op.equalIn (9999+1) t (.agg (List.toArray xs)) (.agg (List.toArray ys))).run P w=.ok r w;rw[run_equalIn_struct w 9999 t _ _ (by rw[ac];exact hu) h1,ac];exact tc 9998 ks Z.toList 0 xs ys l l' r h3 (by simpa using ae) (by simpa using af) hc;cases K
theorem qj{t:TypeId}{ks:List Nat}(hs:qd P t ks=true){key:V}{x:Value}(rx:VRel m key x)(w:World):∀(es:List (V×V×Nat))(es':List MapEntry)(i:Nat)(r:Option (Nat×V)),EsRel m es es'→
 fW (some ks) key es i=some r→∃r',(Instr.findAsking t x es' i).run P w=.ok r' w∧RO m r r'
 |[],es',i,r,he,hf=>by simp only[EsRel]at he;subst he;simp only[fW,Option.some.injEq]at hf;subst hf;exact⟨none,rfl,rfl⟩
 |(k,v,n)::es,es',i,r,he,hf=>by
  obtain⟨e,u,rfl,h1,h2,h3,ht⟩:=he;simp only[fW]at hf;cases hk:r9 (some ks) key k with
  |none=>rw[hk]at hf;cases hf
  |some b=>
   rw[hk]at hf;have key1:(Op.equal t x e.key).run P w=.ok b w:=by
    cases key<;>cases k<;>simp only[r9]at hk<;>first|(cases hk;done)|skip
    exact xf hs rx h1 hk w
   cases b;simp only[]at hf;let⟨r',f1,f2⟩:=qj hs rx w es u (i+1) r ht hf;exact⟨r',by simp[Instr.findAsking,key1,f1],f2⟩;simp only[Option.some.injEq]at hf;subst hf;exact⟨some (i,e.val),by simp[Instr.findAsking,key1],_,rfl,h2⟩
theorem qk{t:TypeId}{ks:Option (List Nat)}(hs:nO P t ks=true){key:V}{x:Value}(rx:VRel m key x)(w:World){es:List (V×V×Nat)}{K:List MapEntry}{r:Option (Nat×V)}(he:EsRel m es K)
 (hf:fW ks key es 0=some r):∃r',(Instr.findKey t x K).run P w=.ok r' w/\RO m r r':=by
 cases ks with
 |none=>
  simp only[nO,ka]at hs;split at hs;all_goals first|(cases hs;done)|skip
  rename_i kk _ hu;let⟨r',f1,f2⟩:=yT (kk:=kk) rx es K 0 r he hf;refine⟨r',?_,f2⟩;simp only[Instr.findKey,Sq,aD hu,Sa,f1,Sy];all_goals (rename_i h0 _;cases h0)
 |some ks=>
  simp only[nO]at hs;let⟨r',f1,f2⟩:=qj hs rx w es K 0 r he hf;have hu:∃Z,P.underlying t=some (.struct Z):=by unfold qd at hs;split at hs;grind;cases hs
  let⟨Z,hu⟩:=hu;cases K with
  |nil=>
   refine⟨r',?_,f2⟩;have:r'=none:=by simp[Instr.findAsking]at f1;exact f1.symm
   subst this;simp only[Instr.findKey,Sq,aD hu,Sa,Instr.findNow,Sy]
  |cons e u=>
   refine⟨r',?_,f2⟩;have hn:Instr.findNow (.struct Z) x (e::u) 0=none:=by simp only[Instr.findNow,Instr.sameNow]
   simp only[Instr.findKey,Sq,aD hu,Sa,hn,f1]
theorem mA{t:TypeId}{k:Nat}(Z:ka P t k=true)(e:Bool)(n:Nat)(x:Value)(w:World):(Instr.checkKey e (n+1) t x).run P w=.ok () w:=by
 unfold ka at Z;split at Z;all_goals first|(cases Z;done)|skip
 all_goals
  rename_i K;simp only[Instr.checkKey,Sq,aD K,Sa];cases x<;>rfl
theorem qt{cs:List Value}(e:Bool)(n:Nat)(w:World):∀(ks:List Nat)(fs:List Field)(j:Nat),iN P j fs ks=true→j+ks.length≤cs.length→
 (forIn (m:=Sem) fs PUnit.unit (fun f _=>do
  if f.name≠ "_" then Instr.checkKey e (n+1) f.type (←part f.type (List.toArray cs) f.offset)
  pure (ForInStep.yield PUnit.unit))).run P w=.ok PUnit.unit w
 |[],[],j,_,_=>by simp
 |[],_::_,_,hf,_=>by simp[iN]at hf
 |_::_,[],_,hf,_=>by simp[iN]at hf
 |k::ks,f::fs,j,hf,hl=>by
  simp only[iN,Bool.and_eq_true,Bool.not_eq_true',beq_eq_false_iff_ne]at hf;let⟨⟨⟨hname,hoff⟩,hleaf⟩,hrest⟩:=hf;have hoff:=Nat.eq_of_beq_eq_true hoff;have hagg:=yB hleaf;simp only[List.length_cons]at hl;have hj:j<cs.length:=oM;have hp:(part f.type (List.toArray cs) f.offset).run P w=.ok cs[j] w:=by simp[part,iw hagg,hoff,hj]
  have ih:=qt (cs:=cs) e n w ks fs (j+1) hrest oM;simp only[List.forIn_cons,Sem.run_bind,hname,ne_eq,not_false_eq_true,if_true,Result.andThen_ok,hp,mA hleaf,Sem.run_pure];exact ih
theorem oL{t:TypeId}{ks:Option (List Nat)}(K:nO P t ks=true){key:V}{x:Value}(rx:VRel m key x)(hf:nP ks key=true)(e:Bool)(w:World):(Instr.checkKey e 10000 t x).run P w=.ok () w:=by
 cases ks with
 |none=>exact mA K e 9999 x w
 |some ks=>
  cases key<;>simp only[nP]at hf<;>first|(cases hf;done)|skip
  rename_i l;have hf:=RY hf;obtain⟨xs,rfl,ac⟩:=rx;simp only[nO,qd]at K;split at K;rename_i Z hu;simp only[RU,TP]at K;have hx:=ac.length;show(Instr.checkKey e (9998+1+1) t _).run P w=_;rw[Instr.checkKey];simp only[Sq,aD hu,Sa];rw[<-Array.forIn_toList];have:=qt (P:=P) (cs:=xs) e 9998 w ks Z.toList 0 K.2 oM;simp only[ne_eq,seval]at this|-;rw[this];rfl;cases K
end
mutual
def vEq:V->V->Bool
 |.bool a,.bool b=> !(xor a b)
 |.int k n,.int k' n'=>mV k k'&&ieq n n'
 |.str s,.str t=>s==t
 |.nilp,.nilp=>true
 |.ptr b o,.ptr b' o'=>Nat.beq b b'&&Nat.beq o o'
 |.nils,.nils=>true
 |.slice b o l c,.slice b' o' l' c'=>Nat.beq b b'&&Nat.beq o o'&&Nat.beq l l'&&Nat.beq c c'
 |.sliceU b o l c,.sliceU b' o' l' c'=>Nat.beq b b'&&Nat.beq o o'&&Nat.beq l l'&&Nat.beq c c'
 |.sliceE,.sliceE=>true
 |.nilm,.nilm=>true
 |.map b,.map b'=>Nat.beq b b'
 |.nilf,.nilf=>true
 |.func f a c,.func f' a' c'=>decide (f=f')&&mC a a'&&mC c c'
 |.nili,.nili=>true
 |.iface t v,.iface t' v'=>Nat.beq t t'&&vEq v v'
 |.agg l,.agg l'=>mC l l'
 |.tup l,.tup l'=>mC l l'
 |.yld b,.yld b'=>Nat.beq b b'
 |.sliceZ a c,.sliceZ a' c'=>decide (a=a')&&Nat.beq c c'
 |_,_=>false
def mC:List V->List V->Bool
 |[],[]=>true
 |v::vs,u::us=>vEq v u&&mC vs us
 |_,_=>false
end
mutual
theorem qU:∀(a b:V),vEq a b=true→a=b
 |.bool a,b,h=>by cases b<;>simp[vEq]at h;rename_i b;cases a<;>cases b<;>simp_all
 |.int k n,b,h=>by cases b<;>simp[vEq]at h;rename_i k' n';have:=lE h.1;subst this;have h2:=h.2;rw[fy]at h2;simp at h2;subst h2;rfl
 |.str s,b,h=>by cases b<;>simp[vEq]at h;subst h;rfl
 |.nilp,b,h=>by cases b<;>simp[vEq]at h;rfl
 |.ptr p o,b,h=>by cases b<;>simp[vEq]at h;obtain⟨rfl,rfl⟩:=h;rfl
 |.nils,b,h=>by cases b<;>simp[vEq]at h;rfl
 |.slice p o l c,b,h=>by cases b<;>simp[vEq]at h;obtain⟨⟨⟨rfl,rfl⟩,rfl⟩,rfl⟩:=h;rfl
 |.sliceU p o l c,b,h=>by cases b<;>simp[vEq]at h;obtain⟨⟨⟨rfl,rfl⟩,rfl⟩,rfl⟩:=h;rfl
 |.sliceE,b,h=>by cases b<;>simp[vEq]at h;rfl
 |.nilm,b,h=>by cases b<;>simp[vEq]at h;rfl
 |.map p,b,h=>by cases b<;>simp[vEq]at h;subst h;rfl
 |.nilf,b,h=>by cases b<;>simp[vEq]at h;rfl
 |.func f x y,b,h=>by cases b<;>simp only[vEq,Bool.false_eq_true]at h;simp only[Bool.and_eq_true,decide_eq_true_eq]at h;obtain⟨⟨rfl,h1⟩,h2⟩:=h;rw[kU _ _ h1,kU _ _ h2]
 |.nili,b,h=>by cases b<;>simp[vEq]at h;rfl
 |.iface t v,b,h=>by cases b<;>simp only[vEq,Bool.false_eq_true]at h;simp only[Bool.and_eq_true]at h;rw[Nat.eq_of_beq_eq_true h.1,qU _ _ h.2]
 |.agg l,b,h=>by cases b<;>simp only[vEq,Bool.false_eq_true]at h;rw[kU _ _ h]
 |.tup l,b,h=>by cases b<;>simp only[vEq,Bool.false_eq_true]at h;rw[kU _ _ h]
 |.yld p,b,h=>by cases b<;>simp[vEq]at h;subst h;rfl
 |.sliceZ a c,b,h=>by cases b<;>simp[vEq]at h;obtain⟨rfl,rfl⟩:=h;rfl
theorem kU:∀(a b:List V),mC a b=true->a=b
 |[],[],_=>rfl
 |[],_::_,h=>by simp[mC]at h
 |_::_,[],h=>by simp[mC]at h
 |v::vs,u::us,h=>by simp only[mC,RU]at h;rw[qU v u h.1,kU vs us h.2]
end
section
variable {P : Program} {m : M} {h : Heap} {w : World}
def HN:V->Bool
 |.int _ _=>true
 |.bool _=>true
 |.str _=>true
 |_=>false
def mj:Option (List Nat)->V->Bool
 |some ks,.agg l=>Nat.beq l.length ks.length&&l.all HN
 |ks,v=>nP ks v
theorem r8{ks:Option (List Nat)}{v:V}(h:mj ks v=true):nP ks v=true:=by unfold mj at h;split at h;simp only[RU]at h;exact h.1;exact h
theorem uA{v:V}{x y:Value}(Z:HN v=true)(rx:VRel m v x)(K:VRel m v y)(n:Nat):x=y/\Instr.sameBits n x y=true:=by
 cases v<;>simp only[HN]at Z<;>first|(cases Z;done)|skip
 all_goals
  simp only[VRel]at rx K;subst rx;subst K;refine⟨rfl,?_⟩;cases n<;>simp[Instr.sameBits,beq_toListBytes]
theorem rE(n:Nat):∀(l:List V)(xs ys:List Value),l.all HN=true→VsRel m l xs→VsRel m l ys→xs=ys∧((xs.zip ys).all fun p=>Instr.sameBits n p.1 p.2)=true
 |[],xs,ys,_,hx,hy=>by simp only[VsRel]at hx hy;subst hx;subst hy;exact⟨rfl,rfl⟩
 |v::l,xs,ys,hs,⟨x,xs',e1,r1,t1⟩,⟨y,ys',e2,r2,t2⟩=>by subst e1;subst e2;simp only[List.all_cons,Bool.and_eq_true]at hs;let⟨a,b⟩:=uA hs.1 r1 r2 n;let⟨c,d⟩:=rE n l xs' ys' hs.2 t1 t2;exact⟨by rw[a,c],by simp only[List.zip_cons_cons,List.all_cons,b,d];rfl⟩
theorem EX{ks:Option (List Nat)}{v:V}{x y:Value}(Z:mj ks v=true)(rx:VRel m v x)(ry:VRel m v y):Instr.sameBits 10000 x y=true:=by unfold mj at Z;split at Z;rename_i ks l;simp only[RU]at Z;obtain⟨xs,rfl,K⟩:=rx;obtain⟨ys,rfl,ac⟩:=ry;let⟨a,b⟩:=rE 9999 l xs ys Z.2 K ac;subst a;show Instr.sameBits (9999+1) _ _=true;simp only[Instr.sameBits,RU];exact⟨iS,by simpa using b⟩;rename_i ae;unfold nP at Z;split at Z;exact(uA rfl rx ry 10000).2;grind;cases Z
noncomputable def kw(h:Heap):Heap:=⟨h.bl.set h.next (.mp [] 0),h.next+1,h.fams⟩
theorem HRel.allocM(H:HRel m h w):HRel (eh m h.next ⟨w.heap.size,0,0,none⟩) (kw h) (w.alloc (.map #[] 0))/\Ext m h w (eh m h.next ⟨w.heap.size,0,0,none⟩) (kw h) (w.alloc (.map #[] 0)):=by
 have ac:=H.le_mset ⟨w.heap.size,0,0,none⟩;refine⟨⟨⟨?_,?_⟩,?_,?_,?_⟩,⟨ac,?_,VI _,?_,iS,?_,rfl,rfl,rfl,Cov.new m _ _ rfl,fun b hb=>UX (heap_alloc_old w _ _ hb),nK rfl⟩⟩;intro p cp f k Z;show match h.fams.get f with|none=>f=p|some (_,e)=>k<=e
 rw[kw,TF]at Z;by_cases e:p=h.next;grind;rw[if_neg e]at Z;exact H.wf.fam _ _ _ _ Z;intro p Z;have af:h.next+1<=p:=Z;refine⟨?_,(H.wf.fresh p oM).2⟩;rw[kw,Sd _ _ oM];exact(H.wf.fresh p oM).1;intro p K Z;by_cases e:p=h.next;subst e;rw[aA]at Z;cases Z;exact⟨.mp [] 0,by rw[kw,SU],[],heap_alloc_new w _,rfl,fun i k v n hi=>by simp at hi⟩;rw[aE _ _ e]at Z;let⟨b,hb,r⟩:=H.blk p K Z;refine⟨b,by rw[kw,Sd _ _ e];exact hb,r.mono ac (fun _ _ _ _ x=>x) (heap_alloc_old w _ _ (H.inb p K Z))⟩;intro p K Z;by_cases e:p=h.next;subst e;rw[aA]at Z;cases Z;simp;rw[aE _ _ e]at Z;have:=H.inb p K Z;simp;omega;intro p q lp lq Z hq he ae;by_cases e:p=h.next;subst e;rw[aA]at Z;cases Z;rw[aE _ _ (Ub ae)]at hq;have:=H.inb q lq hq;simp only[]at he;omega;rw[aE _ _ e]at Z;by_cases e2:q=h.next;subst e2;rw[aA]at hq;cases hq;have:=H.inb p lp Z;simp only[]at he;omega;rw[aE _ _ e2]at hq;let⟨cp,cq,f,kp,kq,a,b,d⟩:=H.sep p q lp lq Z hq he ae;exact⟨cp,cq,f,kp,kq,by rw[kw,Sd _ _ e];exact a,by rw[kw,Sd _ _ e2];exact b,d⟩;intro p K Z hn;by_cases e:p=h.next;subst e;rw[aA]at Z;cases Z;exact⟨RW _,.inl (RW _)⟩;rw[aE _ _ e]at Z;rw[Z]at hn;cases hn;intro p _ Z;rw[kw,Sd _ _ oM];intro b _ hb;exact heap_alloc_old w _ _ hb
noncomputable def jN(h:Heap)(b:Nat)(es:List (V×V×Nat))(clock:Nat):Heap:=⟨h.bl.set b (.mp es clock),h.next,h.fams⟩
theorem HRel.setM(H:HRel m h w){b:Nat}{K:Loc}(hm:m b=some K){ay:List (V×V×Nat)}{c0:Nat}(hb:h.bl.get b=some (.mp ay c0)){es:List (V×V×Nat)}{ac:List MapEntry}(Z:Nat)(he:EsRel m es ac):
 HRel m (jN h b es Z) {w with heap:=w.heap.setIfInBounds K.block (.map (List.toArray ac) Z)}/\
 Ext m h w m (jN h b es Z) {w with heap:=w.heap.setIfInBounds K.block (.map (List.toArray ac) Z)}:=by
 have ar:=H.inb b K hm;have ae:∀p lp,m p=some lp->p≠b->lp.block≠K.block:=by intro p lp hp ak an;let⟨cp,cq,f,kp,kq,a1,a2,_⟩:=H.sep p b lp K hp hm an ak;rw[hb]at a2;cases a2
 refine⟨⟨⟨?_,?_⟩,?_,?_,?_⟩,⟨fun _ _ x=>x,fun p l a c=>(by rw[a]at c;cases c),RW _,?_,iS,?_,rfl,rfl,rfl,fun _ _ _ x=>x,?_,fun _ _ a b=>by simp[a]at b⟩⟩;intro p cp f k hp;show match h.fams.get f with|none=>f=p|some (_,e)=>k<=e
 rw[jN,TF]at hp;by_cases e:p=b;grind;rw[if_neg e]at hp;exact H.wf.fam _ _ _ _ hp;intro p hp;have ax:=H.wf.fresh p hp;have az:p≠b:=by grind
 exact⟨by rw[jN,Sd _ _ az];exact ax.1,ax.2⟩;intro p lp hp;by_cases e:p=b;subst e;rw[hm]at hp;cases hp;refine⟨.mp es Z,by rw[jN,SU],ac,by simp[ar],he.length,he.get⟩;let⟨bk,af,r⟩:=H.blk p lp hp;refine⟨bk,by rw[jN,Sd _ _ e];exact af,r.mono (fun _ _ x=>x) (fun _ _ _ _ x=>x) ?_⟩;have:=ae p lp hp e;simp[Ub this];intro p lp hp;have:=H.inb p lp hp;simpa using this;intro p q lp lq hp hq an ak;let⟨cp,cq,f,kp,kq,a1,a2,a3⟩:=H.sep p q lp lq hp hq an ak;have h1:p≠b:=by grind
 have h2:q≠b:=by grind
 exact⟨cp,cq,f,kp,kq,by rw[jN,Sd _ _ h1];exact a1,by rw[jN,Sd _ _ h2];exact a2,a3⟩;intro p hn hp;have h1:p≠b:=by grind
 rw[jN,Sd _ _ h1];grind;intro g aH;by_cases h4:g=K.block;subst h4;let⟨bk,af,rel⟩:=H.blk b K hm;rw[hb]at af;cases af;let⟨es1,he1,_⟩:=rel;intro x hx;rw[he1]at hx;cases hx;exact⟨.map (List.toArray ac) Z,by simp[ar],trivial⟩;exact UX (by simp[Ub h4])
noncomputable def amm(h:Heap):List V->Option (V×Heap)
 |[]=>some (.map h.next,kw h)
 |[.int _ _]=>some (.map h.next,kw h)
 |_=>none
def Gh(P:Program)(op:Op):Bool:=match op with
 |.makeMap t _=>(match P.underlying t with|some (.map _ _)=>true|_=>false)
 |_=>false
theorem Dt(H:HRel m h w){o:Oper}{ρ:Operand→Value}{vs:List V}{v:V}{h':Heap}(hc:Gh P o.op=true)(hv:VsRel m vs (OV ρ o.op))(hs:amm h vs=some (v,h')):MS P m h w o ρ v h':=by
 unfold Gh at hc;split at hc;rename_i t r hy;split at hc;rename_i kt et hu;let⟨H',E'⟩:=H.allocM;rw[hy]at hv;have run:∀q:Option Value,(∀y,q=some y→∃k n,y=.int k n)→(Instr.makeMap t q).run P w=.ok (.map (some w.heap.size)) (w.alloc (.map #[] 0)):=by
  intro q hq;cases q with
  |none=>simp[Instr.makeMap]
  |some y=>obtain⟨k,n,rfl⟩:=hq y rfl;simp[Instr.makeMap,aD hu,asInt,asIntOf]
 have go:(∀y,r.map ρ=some y→∃k n,y=.int k n)→v=.map h.next→h'=kw h→MS P m h w o ρ v h':=by rintro hq rfl rfl;refine⟨_,_,_,.inl ?_,⟨_,aA _ _ _,rfl⟩,H',E'⟩;simp[execOp,hy,run _ hq]
 unfold amm at hs;split at hs;cases hs;refine go (fun y hq=>?_) rfl rfl;cases r with
 |none=>cases hq
 |some a=>simp[OV,Op.operands,VsRel]at hv
 rename_i k n;cases hs;refine go (fun y hq=>?_) rfl rfl;cases r with
 |none=>cases hq
 |some a=>let⟨x,e,rx⟩:=cg hv;simp[OV,Op.operands]at e;simp at hq;simp only[VRel]at rx;exact⟨k,n,by rw[←hq,e,rx]⟩
 cases hs;cases hc;cases hc
def DQ(P:Program)(t:TypeId)(z:V):Bool:=match P.info? t with
 |some i=>match i.zero with
  |some x=>vis z x
  |none=>false
 |none=>false
theorem CI{t:TypeId}{z:V}(Z:DQ P t z=true)(w:World):∃x,(zeroValue t).run P w=.ok x w/\VRel m z x:=by unfold DQ at Z;split at Z;rename_i i hi;split at Z;rename_i x K;exact⟨x,by simp[zeroValue,dT hi,K],ww m _ _ Z⟩;cases Z;cases Z
noncomputable def Az(h:Heap):V->Option (List (V×V×Nat))
 |.nilm=>some []
 |.map b=>match h.bl.get b with
  |some (.mp es _)=>some es
  |_=>none
 |_=>none
noncomputable def alk(h:Heap)(ks:Option (List Nat))(zero:V)(ok:Bool)(x key:V):Option V:=
 match Az h x with
 |some es=>bif mj ks key then
  match fW ks key es 0 with
  |some (some (_,v))=>some (bif ok then .tup [v,.bool true]else v)
  |some none=>some (bif ok then .tup [zero,.bool false]else zero)
  |none=>none
  else none
 |none=>none
def Gi(P:Program)(op:Op)(ks:Option (List Nat))(zero:V)(ok:Bool):Bool:=match op with
 |.lookup t _ _ ok'=>(ok==ok')&&(match P.underlying t with|some (.map k e)=>nO P k ks&&DQ P e zero|_=>false)
 |_=>false
theorem Dv(H:HRel m h w){o:Oper}{ρ:Operand→Value}{ks:Option (List Nat)}{zero:V}{ok:Bool}{x key v:V}(hc:Gi P o.op ks zero ok=true)(hv:VsRel m [x,key] (OV ρ o.op))
 (hs:alk h ks zero ok x key=some v):MS P m h w o ρ v h:=by
 unfold Gi at hc;split at hc;rename_i t a b ok' hy;simp only[Bool.and_eq_true,beq_iff_eq]at hc;obtain⟨hok,hc⟩:=hc;subst hok;split at hc;rename_i kt et hu;simp only[Bool.and_eq_true]at hc;obtain⟨hk,hz⟩:=hc;obtain⟨x',y',e',rx,ry⟩:=cG hv;rw[hy]at e';change[ρ a,ρ b]=[x',y']at e';simp only[List.cons.injEq,and_true]at e';unfold alk at hs;split at hs;rename_i es hes;cases hkf:mj ks key;grind;rw[hkf]at hs;simp only[cond_true]at hs;have hck:=fun e=>oL (P:=P) hk ry (r8 hkf) e w;obtain⟨zx,hzx,rz⟩:=CI (m:=m) hz w;have main:∀es':List MapEntry,EsRel m es es'→(∀r',(Instr.findKey kt y' es').run P w=.ok r' w→(Instr.lookup t x' y' ok).run P w=.ok (match r' with
  |some (_,u)=>if ok then .tuple #[u,.bool true]else u
  |none=>if ok then .tuple #[zx,.bool false]else zx) w)→MS P m h w o ρ v h:=by
  intro es' he hrun;cases hf:fW ks key es 0 with
  |none=>rw[hf]at hs;cases hs
  |some r=>
   rw[hf]at hs;obtain⟨r',f1,f2⟩:=qk hk ry w he hf;have hl:=hrun r' f1;cases r with
   |none=>simp only[RO]at f2;subst f2;simp only[Option.some.injEq]at hs;subst hs;refine⟨if ok then .tuple #[zx,.bool false]else zx,w,m,.inl ?_,?_,H,Ext.refl _ _ _⟩;simp[execOp,hy,e'.1,e'.2,hl];cases ok;exact rz;exact⟨[zx,.bool false],rfl,zx,_,rfl,rz,_,_,rfl,rfl,rfl⟩
   |some p=>obtain⟨i,u⟩:=p;obtain⟨ux,rfl,ru⟩:=f2;simp only[Option.some.injEq]at hs;subst hs;refine⟨if ok then .tuple #[ux,.bool true]else ux,w,m,.inl ?_,?_,H,Ext.refl _ _ _⟩;simp[execOp,hy,e'.1,e'.2,hl];cases ok;exact ru;exact⟨[ux,.bool true],rfl,ux,_,rfl,ru,_,_,rfl,rfl,rfl⟩
 unfold Az at hes;split at hes;cases hes;simp only[VRel]at rx;subst rx;refine main [] rfl (fun r' hr=>?_);simp only[Instr.lookup,Sem.run_bind,aD hu,Result.andThen_ok,Sem.run_pure,hck,hr];cases r' with
 |none=>simp[hzx]
 |some p=>simp
 rename_i b';split at hes;rename_i es1 cl hb;cases hes;obtain⟨loc,hm,rfl⟩:=rx;obtain⟨bk,hbk,rel⟩:=H.blk b' loc hm;rw[hb]at hbk;cases hbk;obtain⟨es',g1,g2,g3⟩:=rel;refine main es' (EsRel.of_get _ _ g2 g3) (fun r' hr=>?_);simp only[Instr.lookup,Sem.run_bind,aD hu,Result.andThen_ok,Sem.run_pure,Go.MapKept.run_getObj_map g1,hck,hr];cases r' with
 |none=>simp[hzx]
 |some p=>simp
 cases hes;cases hes;cases hs;cases hc;cases hc
noncomputable def amu(h:Heap)(ks:Option (List Nat))(x key val:V):Option (V×Heap):=
 match x with
 |.map b=>match h.bl.get b with
  |some (.mp es clock)=>bif mj ks key then
   match fW ks key es 0 with
   |some (some (i,_))=>match es[i]? with
    |some (k,_,n)=>bif vEq key k then some (.tup [],jN h b (es.set i (key,val,n)) clock)else none
    |none=>none
   |some none=>some (.tup [],jN h b (es++[(key,val,clock)]) (clock+1))
   |none=>none
   else none
  |_=>none
 |_=>none
def Gg(P:Program)(op:Op)(ks:Option (List Nat)):Bool:=match op with
 |.mapUpdate t _ _ _=>(match P.underlying t with|some (.map k _)=>nO P k ks|_=>false)
 |.insert t _ _ _=>(match P.underlying t with|some (.map k _)=>nO P k ks|_=>false)
 |_=>false
theorem EsRel.append{es es2:List (V×V×Nat)}{es' es2':List MapEntry}(a:EsRel m es es')(b:EsRel m es2 es2'):EsRel m (es++es2) (es'++es2'):=by
 induction es generalizing es' with
 |nil=>simp only[EsRel]at a;subst a;exact b
 |cons p es ih=>let⟨k,v,n⟩:=p;obtain⟨e,r,rfl,h1,h2,h3,t⟩:=a;exact⟨e,r++es2',rfl,h1,h2,h3,ih t⟩
theorem EsRel.set{es:List (V×V×Nat)}{es':List MapEntry}(a:EsRel m es es'){i:Nat}{k v:V}{n:Nat}{e:MapEntry}(h1:VRel m k e.key)(h2:VRel m v e.val)(h3:e.born=n):EsRel m (es.set i (k,v,n)) (es'.set i e):=by
 induction es generalizing es' i with
 |nil=>simp only[EsRel]at a;subst a;simp[EsRel]
 |cons p es ih=>
  let⟨k0,v0,n0⟩:=p;obtain⟨e0,r,rfl,g1,g2,g3,t⟩:=a;cases i with
  |zero=>exact⟨e,r,rfl,h1,h2,h3,t⟩
  |succ i=>exact⟨e0,r.set i e,rfl,g1,g2,g3,ih t⟩
theorem Ds(H:HRel m h w){o:Oper}{ρ:Operand→Value}{ks:Option (List Nat)}{x key val v:V}{h':Heap}(hc:Gg P o.op ks=true)(hv:VsRel m [x,key,val] (OV ρ o.op))
 (hs:amu h ks x key val=some (v,h')):MS P m h w o ρ v h':=by
 have main:∀(t:TypeId)(a b c:Operand),(execOp ρ o).run P w=((Instr.mapUpdate t (ρ a) (ρ b) (ρ c)).run P w).andThen (fun _ w'=>.ok .skip w')→OV ρ o.op=[ρ a,ρ b,ρ c]→
  (∃kt et,P.underlying t=some (.map kt et)∧nO P kt ks=true)→MS P m h w o ρ v h':=by
  rintro t a b c hex hops ⟨kt,et,hu,hk⟩;rw[hops]at hv;let⟨x',y',z',e',rx,ry,rz⟩:=qX hv;simp only[List.cons.injEq,and_true]at e';unfold amu at hs;split at hs;rename_i b';split at hs;rename_i es clock hb;cases hkf:mj ks key;grind;rw[hkf]at hs;simp only[cond_true]at hs;have hck:=fun e=>oL (P:=P) hk ry (r8 hkf) e w;obtain⟨loc,hm,rfl⟩:=rx;let⟨bk,hbk,rel⟩:=H.blk b' loc hm;rw[hb]at hbk;cases hbk;let⟨es',g1,g2,g3⟩:=rel;have he:=EsRel.of_get _ _ g2 g3;cases hf:fW ks key es 0 with
  |none=>rw[hf]at hs;cases hs
  |some r=>
   rw[hf]at hs;let⟨r',f1,f2⟩:=qk hk ry w he hf;cases r with
   |none=>simp only[RO]at f2;subst f2;simp only[Option.some.injEq,Prod.mk.injEq]at hs;obtain⟨rfl,rfl⟩:=hs;have he':EsRel m (es++[(key,val,clock)]) (es'++[{key:=y',val:=z',born:=clock}]):=he.append ⟨_,_,rfl,ry,rz,rfl,rfl⟩;let⟨H',E'⟩:=H.setM hm hb (clock+1) he';refine⟨undef,_,m,.inr ⟨?_,rfl⟩,⟨[],rfl,rfl⟩,H',E'⟩;rw[hex,e'.1,e'.2.1,e'.2.2];simp only[Instr.mapUpdate,Sem.run_bind,aD hu,Result.andThen_ok,Go.MapKept.run_getObj_map g1,hck,f1,Go.MapKept.run_setObj_map _ g1,List.push_toArray]
   |some p=>
    let⟨i,u⟩:=p;obtain⟨ux,rfl,ru⟩:=f2;simp only[]at hs;split at hs;rename_i k0 v0 n0 hi;cases hq:vEq key k0;grind;rw[hq]at hs;simp only[cond_true,Option.some.injEq,Prod.mk.injEq]at hs;obtain⟨rfl,rfl⟩:=hs;have:=qU _ _ hq;subst this;let⟨e0,q1,q2,q3,q4⟩:=he.get i _ _ _ hi;have hsb:=EX hkf q2 ry;have he':EsRel m (es.set i (key,val,n0)) (es'.set i {e0 with key:=y',val:=z'}):=he.set ry rz q4;let⟨H',E'⟩:=H.setM hm hb clock he';refine⟨undef,_,m,.inr ⟨?_,rfl⟩,⟨[],rfl,rfl⟩,H',E'⟩;rw[hex,e'.1,e'.2.1,e'.2.2];have hmod:(List.toArray es').modify i (fun e=>{e with key:=y',val:=z'})=List.toArray (es'.set i {e0 with key:=y',val:=z'}):=by grind
    have hget:(List.toArray es')[i]? =some e0:=by simpa using q1
    simp only[Instr.mapUpdate,Sem.run_bind,aD hu,Result.andThen_ok,Go.MapKept.run_getObj_map g1,hck,f1,hget,Option.map_some,Option.getD_some,Instr.keyThatStays,hsb,if_true,Sem.run_pure,hmod,Go.MapKept.run_setObj_map _ g1];cases hs
  cases hs;cases hs
 unfold Gg at hc;split at hc;rename_i t a b c hy;split at hc;rename_i kt et hu;refine main t a b c ?_ (by rw[hy];rfl) ⟨kt,et,hu,hc⟩;simp[execOp,hy];cases hc;rename_i t a b c hy;split at hc;rename_i kt et hu;refine main t a b c ?_ (by rw[hy];rfl) ⟨kt,et,hu,hc⟩;simp[execOp,hy];cases hc;cases hc
end
section
variable {P : Program} {m : M} {h : Heap} {w : World}
noncomputable def AR(h:Heap)(zero:List V)(d:V):Option (V×Heap):=
 match d with
 |.nils=>some (.tup [],h)
 |.sliceE=>some (.tup [],h)
 |.slice b o n _=>bif Nat.beq n 0 then some (.tup [],h)else(di h b o (aU zero n)).map fun h'=>(.tup [],h')
 |.sliceU b o n _=>bif Nat.beq n 0 then some (.tup [],h)else(di h b o (aU zero n)).map fun h'=>(.tup [],h')
 |_=>none
def AL(P:Program)(op:Op)(zero:List V):Bool:=match fL op .clear with
 |some (args,ts)=>Nat.beq args.size 1&&(match ts[0]? with
  |some t=>(match P.underlying t with|some (.slice e)=>jo P e zero|_=>false)
  |none=>false)
 |none=>false
theorem EG{op:Op}{b:Builtin}{args:Array Operand}{ts:Array TypeId}(hcl:fL op b=some (args,ts))(h:args.size=1):∃x,op=.call {callee:=.builtin b,args:= #[x],argTypes:=ts}:=by
 unfold fL at hcl;split at hcl;rename_i b' args' ts';split at hcl;rename_i hb;subst hb;simp only[Option.some.injEq,Prod.mk.injEq]at hcl;obtain⟨rfl,rfl⟩:=hcl;let⟨l⟩:=args';match l,h with
 |[x],_=>exact⟨x,rfl⟩
 cases hcl;cases hcl
theorem AQ(H:HRel m h w){o:Oper}{ρ:Operand→Value}{zero:List V}{d v:V}{h':Heap}(hc:AL P o.op zero=true)(hv:VsRel m [d] (OV ρ o.op))
 (hs:AR h zero d=some (v,h')):MS P m h w o ρ v h':=by
 unfold AL at hc;split at hc;rename_i args ts hcl;simp only[Bool.and_eq_true]at hc;let⟨hsz,ht⟩:=hc;split at ht;rename_i t hts;split at ht;rename_i e hu;let⟨x,hy⟩:=EG hcl (Nat.eq_of_beq_eq_true hsz);let⟨x',e',rx⟩:=cg hv;rw[hy]at e';change[ρ x]=[x']at e';simp only[List.cons.injEq,and_true]at e';let⟨z,hz,hvz⟩:=iU (w:=w) ht;have rz:VsRel m zero z.cells.toList:=dy m _ _ hvz;have hgo:(execOp ρ o).run P w=((Builtin.clear_ ts o.type #[x']).run P w).andThen fun y w'=>.ok (.value y) w':=by simp only[execOp,hy,resolve,invoke,builtin,Sem.run_bind,Sem.run_pure,Result.andThen_ok,List.map_toArray,List.map_cons,List.map_nil,e']
 have nop:(∃c,x'=.slice none 0 c)∨(∃a c,x'=.slice a 0 c)→v=.tup []→h'=h→MS P m h w o ρ v h':=by rintro hx rfl rfl;refine⟨.tuple #[],w,m,.inl ?_,⟨[],rfl,rfl⟩,H,Ext.refl _ _ _⟩;rw[hgo];obtain⟨c,rfl⟩|⟨a,c,rfl⟩:=hx;simp[Builtin.clear_,hts,aD hu];cases a<;>simp[Builtin.clear_,hts,aD hu]
 have st:∀b k n c loc,m b=some loc→x'=.slice (some ⟨loc.block,loc.base+k,none⟩) n c→(bif Nat.beq n 0 then some (V.tup [],h)else(di h b k (aU zero n)).map fun h'=>(V.tup [],h'))=some (v,h')→MS P m h w o ρ v h':=by
  intro b k n c loc hm hx hst;cases hb:Nat.beq n 0;rw[hb]at hst;simp only[cond_false]at hst;cases hst':di h b k (aU zero n)with
  |none=>rw[hst']at hst;cases hst
  |some h2=>
   rw[hst']at hst;simp only[Option.map_some,Option.some.injEq,Prod.mk.injEq]at hst;obtain⟨rfl,rfl⟩:=hst;have rel:=kS rz n;let⟨w',hrun,H',E'⟩:=H.store P hm hst' rel;refine⟨.tuple #[],w',m,.inl ?_,⟨[],rfl,rfl⟩,H',E'⟩;rw[hgo,hx];have hn:n≠0:=by intro q;subst q;cases hb
   obtain⟨n',rfl⟩:=Nat.exists_eq_succ_of_ne_zero hn;simp only[Builtin.clear_,hts,Sem.run_bind,aD hu,Result.andThen_ok,List.getElem?_toArray,List.getElem?_cons_zero,hz,Builtin.zeroCells,Sem.run_pure];have e1:z.cells.size=z.cells.toList.length:=by simp
   rw[e1,(iS:z.cells=z.cells.toList.toArray)];simp only[List.size_toArray]at hrun⊢;rw[hrun];rfl
  rw[hb]at hst;simp only[cond_true,Option.some.injEq,Prod.mk.injEq]at hst;have:=Nat.eq_of_beq_eq_true hb;subst this;exact nop (.inr ⟨_,_,hx⟩) hst.1.symm hst.2.symm
 unfold AR at hs;split at hs;cases hs;exact nop (.inl ⟨0,rx⟩) rfl rfl;cases hs;let⟨a,c,hx⟩:=rx;exact nop (.inr ⟨_,_,hx⟩) rfl rfl;let⟨loc,hm,_,hx⟩:=rx;exact st _ _ _ _ loc hm hx hs;let⟨loc,hm,_,hx⟩:=rx;exact st _ _ _ _ loc hm hx hs;cases hs;cases ht;cases ht;cases hc
end
section
variable {P : Program} {m : M} {h : Heap} {w : World}
def bytesOf:List V->Option (List UInt8)
 |[]=>some []
 |.int .u8 n::l=>match bytesOf l with
  |some s=>some (UInt8.ofNat n.toNat::s)
  |none=>none
 |_=>none
noncomputable def xK(h:Heap)(x:V):Option V:=
 match x with
 |.nils=>some (.str [])
 |.slice b o n _=>match aj h b o n with
  |some cs=>(bytesOf cs).map .str
  |none=>none
 |.sliceU b o n _=>match aj h b o n with
  |some cs=>(bytesOf cs).map .str
  |none=>none
 |_=>none
def AM(P:Program)(op:Op):Bool:=match op with
 |.convert src dst _=>(match P.underlying src,P.underlying dst with
  |some (.slice e),some .string=>(match P.underlying e with|some (.int .u8)=>true|_=>false)
  |_,_=>false)
 |_=>false
theorem qv:∀(l:List V)(s:List UInt8)(xs:List Value),bytesOf l=some s→VsRel m l xs→∃ns:List Int,xs=ns.map (Value.int .u8)∧s=ns.map fun n=>UInt8.ofNat n.toNat
 |[],s,xs,hb,r=>by simp only[bytesOf,Option.some.injEq]at hb;subst hb;simp only[VsRel]at r;subst r;exact⟨[],rfl,rfl⟩
 |v::l,s,xs,hb,r=>by unfold bytesOf at hb;split at hb;rename_i q;cases q;rename_i n l' q;cases q;obtain⟨x,xs',rfl,rx,rt⟩:=r;split at hb;rename_i s' hs';cases hb;let⟨ns,h1,h2⟩:=qv l s' xs' hs' rt;simp only[VRel]at rx;exact⟨n::ns,by rw[rx,h1];rfl,by rw[h2];rfl⟩;cases hb;cases hb
theorem vh:∀(ns:List Int)(s:ByteArray),ns.foldl (fun r n=>r.push (UInt8.ofNat n.toNat)) s=⟨s.data++(ns.map fun n=>UInt8.ofNat n.toNat).toArray⟩
 |[],s=>by simp
 |n::ns,s=>by rw[List.foldl_cons,vh ns];congr 1;simp[ByteArray.push]
theorem AT(H:HRel m h w){o:Oper}{ρ:Operand→Value}{x v:V}(hc:AM P o.op=true)(hv:VsRel m [x] (OV ρ o.op))(hs:xK h x=some v):MS P m h w o ρ v h:=by
 unfold AM at hc;split at hc;rename_i src dst a hy;split at hc;rename_i e hsrc hdst;split at hc;rename_i he;let⟨x',e',rx⟩:=cg hv;rw[hy]at e';change[ρ a]=[x']at e';simp only[List.cons.injEq,and_true]at e';have hgo:∀b l c,x'=.slice b l c→(execOp ρ o).run P w=((Conv.bytesToString (.slice b l c)).run P w).andThen fun y w'=>.ok (.value y) w':=by intro b l c hx;simp only[execOp,hy,e',hx,Sem.run_bind,run_convert_bytes_string w src dst e b l c hsrc he hdst,Sem.run_pure]
 have main:∀b k n cs c loc,m b=some loc→x'=.slice (some ⟨loc.block,loc.base+k,none⟩) n c→aj h b k n=some cs→(bytesOf cs).map V.str=some v→MS P m h w o ρ v h:=by
  intro b k n cs c loc hm hx hl hb;let⟨xs,h1,h2,h3⟩:=H.load P hm hl;cases hbo:bytesOf cs with
  |none=>rw[hbo]at hb;cases hb
  |some s=>rw[hbo]at hb;simp only[Option.map_some,Option.some.injEq]at hb;subst hb;let⟨ns,q1,q2⟩:=qv cs s xs hbo h2;rw[q1]at h1;refine⟨.string ⟨s.toArray⟩,w,m,.inl ?_,?_,H,Ext.refl _ _ _⟩;rw[hgo _ _ _ hx,run_bytesToString w _ n c ns h1,vh,←q2];show Result.ok (Next.value (.string ⟨#[]++s.toArray⟩)) w=_;rw[Array.empty_append];simp only[VRel]
 unfold xK at hs;split at hs;cases hs;simp only[VRel]at rx;refine⟨.string .empty,w,m,.inl ?_,?_,H,Ext.refl _ _ _⟩;rw[hgo _ _ _ rx];rfl;simp only[VRel];rfl;split at hs;rename_i cs hl;let⟨loc,hm,_,hx⟩:=rx;exact main _ _ _ _ _ loc hm hx hl hs;cases hs;split at hs;rename_i cs hl;let⟨loc,hm,_,hx⟩:=rx;exact main _ _ _ _ _ loc hm hx hl hs;cases hs;cases hs;cases hc;cases hc;cases hc
end
variable {P : Program} {m : M} {h : Heap} {w : World}
noncomputable def hsi(h:Heap)(z:List UInt8):Heap:=⟨h.bl.set h.next (.si z 0),h.next+1,h.fams⟩
theorem HRel.allocI(H:HRel m h w)(z:List UInt8):HRel (eh m h.next ⟨w.heap.size,0,0,none⟩) (hsi h z) (w.alloc (.stringIter ⟨z.toArray⟩ 0))/\Ext m h w (eh m h.next ⟨w.heap.size,0,0,none⟩) (hsi h z) (w.alloc (.stringIter ⟨z.toArray⟩ 0)):=by
 have ac:=H.le_mset ⟨w.heap.size,0,0,none⟩;refine⟨⟨⟨?_,?_⟩,?_,?_,?_⟩,⟨ac,?_,VI _,?_,iS,?_,rfl,rfl,rfl,Cov.new m _ _ rfl,fun b hb=>UX (heap_alloc_old w _ _ hb),nK rfl⟩⟩;intro p cp f k Z;show match h.fams.get f with|none=>f=p|some (_,e)=>k<=e
 rw[hsi,TF]at Z;by_cases e:p=h.next;grind;rw[if_neg e]at Z;exact H.wf.fam _ _ _ _ Z;intro p Z;have af:h.next+1<=p:=Z;refine⟨?_,(H.wf.fresh p oM).2⟩;rw[hsi,Sd _ _ oM];exact(H.wf.fresh p oM).1;intro p K Z;by_cases e:p=h.next;subst e;rw[aA]at Z;cases Z;exact⟨.si z 0,by rw[hsi,SU],rfl,heap_alloc_new w _⟩;rw[aE _ _ e]at Z;let⟨b,hb,r⟩:=H.blk p K Z;refine⟨b,by rw[hsi,Sd _ _ e];exact hb,r.mono ac (fun _ _ _ _ x=>x) (heap_alloc_old w _ _ (H.inb p K Z))⟩;intro p K Z;by_cases e:p=h.next;subst e;rw[aA]at Z;cases Z;simp;rw[aE _ _ e]at Z;have:=H.inb p K Z;simp;omega;intro p q lp lq Z hq he ae;by_cases e:p=h.next;subst e;rw[aA]at Z;cases Z;rw[aE _ _ (Ub ae)]at hq;have:=H.inb q lq hq;simp only[]at he;omega;rw[aE _ _ e]at Z;by_cases e2:q=h.next;subst e2;rw[aA]at hq;cases hq;have:=H.inb p lp Z;simp only[]at he;omega;rw[aE _ _ e2]at hq;let⟨cp,cq,f,kp,kq,a,b,d⟩:=H.sep p q lp lq Z hq he ae;exact⟨cp,cq,f,kp,kq,by rw[hsi,Sd _ _ e];exact a,by rw[hsi,Sd _ _ e2];exact b,d⟩;intro p K Z hn;by_cases e:p=h.next;subst e;rw[aA]at Z;cases Z;exact⟨RW _,.inl (RW _)⟩;rw[aE _ _ e]at Z;rw[Z]at hn;cases hn;intro p _ Z;rw[hsi,Sd _ _ oM];intro b _ hb;exact heap_alloc_old w _ _ hb
noncomputable def mq(h:Heap)(b:Nat)(z:List UInt8)(pos:Nat):Heap:=⟨h.bl.set b (.si z pos),h.next,h.fams⟩
theorem HRel.setI(H:HRel m h w){b:Nat}{Z:Loc}(hm:m b=some Z){z:List UInt8}{c0:Nat}(hb:h.bl.get b=some (.si z c0))(pos:Nat):
 HRel m (mq h b z pos) {w with heap:=w.heap.setIfInBounds Z.block (.stringIter ⟨z.toArray⟩ pos)}/\
 Ext m h w m (mq h b z pos) {w with heap:=w.heap.setIfInBounds Z.block (.stringIter ⟨z.toArray⟩ pos)}:=by
 have an:=H.inb b Z hm;have ae:∀p lp,m p=some lp->p≠b->lp.block≠Z.block:=by intro p lp K af ak;let⟨cp,cq,f,kp,kq,a1,a2,_⟩:=H.sep p b lp Z K hm ak af;rw[hb]at a2;cases a2
 refine⟨⟨⟨?_,?_⟩,?_,?_,?_⟩,⟨fun _ _ x=>x,fun p l a c=>(by rw[a]at c;cases c),RW _,?_,iS,?_,rfl,rfl,rfl,fun _ _ _ x=>x,?_,fun _ _ a b=>by simp[a]at b⟩⟩;intro p cp f k K;show match h.fams.get f with|none=>f=p|some (_,e)=>k<=e
 rw[mq,TF]at K;by_cases e:p=b;grind;rw[if_neg e]at K;exact H.wf.fam _ _ _ _ K;intro p K;have ar:=H.wf.fresh p K;have ay:p≠b:=by grind
 exact⟨by rw[mq,Sd _ _ ay];exact ar.1,ar.2⟩;intro p lp K;by_cases e:p=b;subst e;rw[hm]at K;cases K;let⟨bk,ac,rel⟩:=H.blk p Z hm;rw[hb]at ac;cases ac;exact⟨.si z pos,by rw[mq,SU],rel.1,by show _=_;simp[an]⟩;let⟨bk,ac,r⟩:=H.blk p lp K;refine⟨bk,by rw[mq,Sd _ _ e];exact ac,r.mono (fun _ _ x=>x) (fun _ _ _ _ x=>x) ?_⟩;have:=ae p lp K e;simp[Ub this];intro p lp K;have:=H.inb p lp K;simpa using this;intro p q lp lq K hq ak af;let⟨cp,cq,f,kp,kq,a1,a2,a3⟩:=H.sep p q lp lq K hq ak af;have h1:p≠b:=by grind
 have h2:q≠b:=by grind
 exact⟨cp,cq,f,kp,kq,by rw[mq,Sd _ _ h1];exact a1,by rw[mq,Sd _ _ h2];exact a2,a3⟩;intro p hn K;have h1:p≠b:=by grind
 rw[mq,Sd _ _ h1];grind;intro g az;by_cases h4:g=Z.block;subst h4;let⟨bk,ac,rel⟩:=H.blk b Z hm;rw[hb]at ac;cases ac;have ax:w.heap[Z.block]? =some (.stringIter ⟨z.toArray⟩ c0):=rel.2;intro x hx;rw[ax]at hx;cases hx;exact⟨.stringIter ⟨z.toArray⟩ pos,by simp[an],trivial⟩;exact UX (by simp[Ub h4])
noncomputable def ait(h:Heap)(nx:Bool)(x:V):Option (V×Heap):=
 bif nx then
  match x with
  |.ptr b 0=>match h.bl.get b with
   |some (.si z pos)=>if pos<z.length then some (.tup [.bool true,.int .i64 (pos:Int),.int .i32 ((Utf8.decode ⟨z.toArray⟩ pos).1:Int)],mq h b z (pos+(Utf8.decode ⟨z.toArray⟩ pos).2))else some (.tup [.bool false],h)
   |_=>none
  |_=>none
 else
  match x with
  |.str z=>some (.ptr h.next 0,hsi h z)
  |_=>none
def Gj(P:Program)(op:Op)(nx:Bool):Bool:=match op with
 |.range t _=> !nx&&(match P.underlying t with|some .string=>true|_=>false)
 |.next _ s=>nx&&s
 |_=>false
theorem Dw(H:HRel m h w){o:Oper}{ρ:Operand->Value}{nx:Bool}{x v:V}{h':Heap}(K:Gj P o.op nx=true)(hv:VsRel m [x] (OV ρ o.op))(Z:ait h nx x=some (v,h')):MS P m h w o ρ v h':=by
 unfold Gj at K;split at K;rename_i t a hy;simp only[RU,TP]at K;obtain⟨rfl,K⟩:=K;split at K;rename_i hu;let⟨y,ys,e',ry,rn⟩:=hv;rw[hy]at e';change[ρ a]=y::ys at e';simp only[Sw]at e';unfold ait at Z;simp only[cond_false]at Z;split at Z;rename_i z;cases Z;have hx:ρ a=.string ⟨z.toArray⟩:=e'.1.trans ry;let⟨H',E'⟩:=H.allocI z;refine⟨_,_,_,.inl ?_,⟨_,aA _ _ _,rfl⟩,H',E'⟩;simp[execOp,hy,Instr.range,aD hu,hx,newObj];rfl;cases Z;cases K;rename_i a s hy;simp only[RU]at K;obtain⟨rfl,rfl⟩:=K;let⟨y,ys,e',ry,rn⟩:=hv;rw[hy]at e';change[ρ a]=y::ys at e';simp only[Sw]at e';unfold ait at Z;simp only[cond_true]at Z;split at Z;rename_i b;obtain⟨ac,hm,rfl⟩:=ry;split at Z;rename_i z pos hb;let⟨bk,af,rel⟩:=H.blk b ac hm;rw[hb]at af;cases af;have hx:ρ a=.pointer (some ⟨ac.block,0,none⟩):=by rw[e'.1,rel.1]
 have hz:(⟨z.toArray⟩:ByteArray).size=z.length:=by simp[ByteArray.size]
 split at Z;rename_i ae;cases Z;let⟨H',E'⟩:=H.setI hm hb (pos+(Utf8.decode ⟨z.toArray⟩ pos).2);refine⟨_,_,_,.inl ?_,⟨_,rfl,_,_,rfl,rfl,_,_,rfl,rfl,_,_,rfl,rfl,rfl⟩,H',E'⟩;have:=Go.Lib.run_next_any_at (P:=P) w ac.block ⟨z.toArray⟩ pos o.type rel.2 (by rw[hz];exact ae);simp[execOp,hy,hx,this,World.iterAt];rename_i ae;cases Z;refine⟨_,_,_,.inl ?_,⟨_,rfl,_,_,rfl,rfl,rfl⟩,H,Uy _ _ _⟩;have:=Go.Lib.run_next_end_at (P:=P) w ac.block ⟨z.toArray⟩ pos o.type rel.2 (by rw[hz];exact ae);simp[execOp,hy,hx,this];cases Z;cases Z;cases K
end Go.Ev
