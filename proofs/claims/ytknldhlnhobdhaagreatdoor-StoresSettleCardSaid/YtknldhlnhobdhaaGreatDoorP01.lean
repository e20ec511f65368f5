/- An evaluator of the program, and contracts over it: EvM to EvMe. -/
import Derived.Laws.StructEq
import Derived.MapKept
import Derived.Laws.BytesString
import Derived.Lib.OthersKept
import Derived.Test.YtknldhlnhobdhaaGreatDoorP00
set_option linter.unusedSimpArgs false
set_option linter.unusedVariables false
set_option linter.constructorNameAsVariable false
set_option linter.unnecessarySimpa false
noncomputable section
namespace Go.Ev
section
variable {P : Program} {m : M}
theorem cH{v:V}{y n:Nat}(h:cQ v y=some n):∃k,v=.A k (.ofNat n)/\n<=y:=by unfold cQ at h;split at h;rename_i k K;cases Z:Nat.ble K y;grind;rw[Z]at h;cases h;exact⟨k,rfl,Wh Z⟩;cases h
theorem dC{v:V}{y n cap:Nat}{x:Value}(h:cQ v y=some n)(r:l_ m v x)(K:y<=cap)(c:BoundsCode)(w:World):(Instr.sliceBound x cap c).run P w=.ok n w:=by
 obtain⟨k,rfl,hn⟩:=cH h;simp only[l_]at r;subst r;have Z:(0:Int)<=Int.ofNat n/\Int.ofNat n<=(cap:Int):=by grind
 simp only[Instr.sliceBound,asIntOf,Wm,Wx,Wd];rw[if_pos Z];rfl
theorem dZ{len y cap:Nat}{lo hi mx isS:Bool}{bs:List V}{l h:Nat}{mo:Option Nat}(Z:aZ len y lo hi mx bs=some (l,h,mo))(hy:y<=cap)(hl:len<=y)
 {a b c:Option Value} (e1:a.isSome=lo) (e2:b.isSome=hi) (e3:c.isSome=mx) (r:f_ m bs (a.toList++b.toList++c.toList)) (w:World):
 (Instr.sliceBounds isS len cap a b c).run P w=.ok (l,h,mo.getD cap) w/\l<=h/\h<=mo.getD y/\mo.getD y<=y:=by
 unfold aZ at Z;split at Z;cases a<;>cases b<;>cases c<;>simp at e1 e2 e3;cases Z;refine⟨by simp[Instr.sliceBounds],oM,by simpa using hl,iS⟩
 rename_i v;cases a<;>cases b<;>cases c<;>simp at e1 e2 e3;rename_i x;let⟨x',e,rx⟩:=bY r;simp at e;subst e;cases K:cQ v len with
 |none=>rw[K]at Z;cases Z
 |some n=>rw[K]at Z;cases Z;let⟨_,_,ac⟩:=cH K;refine⟨?_,ac,by simpa using hl,iS⟩;simp[Instr.sliceBounds,dC K rx (VZ len)]
 rename_i v;cases a<;>cases b<;>cases c<;>simp at e1 e2 e3;rename_i x;let⟨x',e,rx⟩:=bY r;simp at e;subst e;cases K:cQ v y with
 |none=>rw[K]at Z;cases Z
 |some n=>rw[K]at Z;cases Z;let⟨_,_,ac⟩:=cH K;refine⟨?_,oM,by simpa using ac,iS⟩;simp[Instr.sliceBounds,dC K rx hy]
 rename_i u v;cases a<;>cases b<;>cases c<;>simp at e1 e2 e3;rename_i x z;let⟨x',z',e,rx,rz⟩:=cI r;simp at e;obtain⟨rfl,rfl⟩:=e;cases K:cQ v y with
 |none=>rw[K]at Z;cases Z
 |some n=>
  rw[K]at Z;simp only[WN]at Z;cases hc:cQ u n with
  |none=>rw[hc]at Z;cases Z
  |some k=>rw[hc]at Z;cases Z;let⟨_,_,ac⟩:=cH K;let⟨_,_,ae⟩:=cH hc;refine⟨?_,ae,by simpa using ac,iS⟩;simp[Instr.sliceBounds,dC K rz hy,dC hc rx (VZ h)]
 rename_i u v;cases a<;>cases b<;>cases c<;>simp at e1 e2 e3;rename_i x z;let⟨x',z',e,rx,rz⟩:=cI r;simp at e;obtain⟨rfl,rfl⟩:=e;cases K:cQ v y with
 |none=>rw[K]at Z;cases Z
 |some n=>
  rw[K]at Z;simp only[WN]at Z;cases hc:cQ u n with
  |none=>rw[hc]at Z;cases Z
  |some k=>rw[hc]at Z;cases Z;let⟨_,_,ac⟩:=cH K;let⟨_,_,ae⟩:=cH hc;refine⟨?_,oM,by simpa using ae,by simpa using ac⟩;simp[Instr.sliceBounds,dC K rz hy,dC hc rx (VZ n)]
 rename_i t u v;cases a<;>cases b<;>cases c<;>simp at e1 e2 e3;rename_i p x z;let⟨p',x',z',e,rp,rx,rz⟩:=sF r;simp at e;obtain⟨rfl,rfl,rfl⟩:=e;cases K:cQ v y with
 |none=>rw[K]at Z;cases Z
 |some n=>
  rw[K]at Z;simp only[WN]at Z;cases hc:cQ u n with
  |none=>rw[hc]at Z;cases Z
  |some k=>
   rw[hc]at Z;simp only[WN]at Z;cases hd:cQ t k with
   |none=>rw[hd]at Z;cases Z
   |some j=>rw[hd]at Z;cases Z;let⟨_,_,ac⟩:=cH K;let⟨_,_,ae⟩:=cH hc;let⟨_,_,af⟩:=cH hd;refine⟨?_,af,by simpa using ae,by simpa using ac⟩;simp[Instr.sliceBounds,dC K rz hy,dC hc rx (VZ n),dC hd rp (VZ h)]
 cases Z
theorem Bq(blk base o l esz mm:Nat):(if mm=l then(⟨blk,base+o,none⟩:Addr)else Addr.add ⟨blk,base+o,none⟩ (l*esz))=⟨blk,base+(bif Nat.beq mm l then o else o+l*esz),none⟩:=by
 by_cases h:mm=l;rw[if_pos h,h,XU];rfl;rw[if_neg h,iT];have:Nat.beq mm l=false:=by cases hb:Nat.beq mm l;rfl;exact absurd (Wb hb) h
 rw[this];simp[XA]
theorem sX{t:TypeId}{x:Operand}{l h Z:Option Operand}(ρ:Operand->Value):OV ρ (.slice t x l h Z)=ρ x::((l.map ρ).toList++(h.map ρ).toList++(Z.map ρ).toList):=by cases l<;>cases h<;>cases Z<;>simp[OV,Op.operands]
theorem Jk{o:Oper}{ρ:Operand->Value}{n esz:Nat}{lo K mx:Bool}{v r:V}{bs:List V}(hc:bL P o.op (.s (some n) esz lo K mx)=true)(hv:f_ m (v::bs) (OV ρ o.op))
 (h:uN n v esz lo K mx bs=some r):PS P m o ρ r:=by
 simp[bL]at hc;split at hc;rename_i t x l hh af hy;simp at hc;let⟨⟨⟨he,h1⟩,h2⟩,h3⟩:=hc;let⟨e,hu,hs⟩:=Ap he;rw[hy,sX]at hv;let⟨x',ae,e',rv,rb⟩:=hv;simp only[Ww]at e';obtain⟨rfl,rfl⟩:=e';unfold uN at h;split at h;rename_i b k;let⟨ac,hm,hx⟩:=rv;cases Z:aZ n n lo K mx bs with
 |none=>rw[Z]at h;cases h
 |some q=>let⟨l',h',m'⟩:=q;rw[Z]at h;simp at h;subst h;have hr:=fun w=>(dZ (P:=P) (isS:=false) Z (VZ n) (VZ n) (eV h1) (eV h2) (eV h3) rb w).1;have ak:=(dZ (P:=P) (isS:=false) Z (VZ n) (VZ n) (eV h1) (eV h2) (eV h3) rb default).2;refine⟨_,⟨ac,hm,oM,rfl⟩,fun w=>?_⟩;simp[execOp,hy,Instr.sliceAt,hx,Instr.sureAddr,aD hu,hr w,cK hs,Bq]
 cases h;cases hc
theorem O2{o:Oper}{ρ:Operand->Value}{esz:Nat}{lo hi mx:Bool}{v r:V}{bs:List V}(hc:bL P o.op (.s none esz lo hi mx)=true)(hv:f_ m (v::bs) (OV ρ o.op))
 (h:eJ v esz lo hi mx bs=some r):PS P m o ρ r:=by
 simp[bL]at hc;split at hc;rename_i t x l hh aT hy;simp at hc;let⟨⟨⟨he,h1⟩,h2⟩,h3⟩:=hc;let⟨e,hu,hs⟩:=oL he;rw[hy,sX]at hv;let⟨x',aR,e',rv,rb⟩:=hv;simp only[Ww]at e';obtain⟨rfl,rfl⟩:=e';unfold eJ at h;split at h;simp[l_]at rv;cases ha:aZ 0 0 lo hi mx bs with
 |none=>rw[ha]at h;cases h
 |some q=>let⟨l',h',m'⟩:=q;rw[ha]at h;simp at h;subst h;have hr:=fun w=>dZ (P:=P) (isS:=true) ha (VZ 0) (VZ 0) (eV h1) (eV h2) (eV h3) rb w;have hb:=(hr default).2;have ax:m'.getD 0=0:=oM;have ae:l'=0:=oM;have ay:h'=0:=oM;refine⟨_,rfl,fun w=>?_⟩;simp only[execOp,hy,Instr.sliceAt,Instr.slice,rv,Wm,Wx,aD hu,Wd,(hr w).1,cK hs,ax,ae,ay];simp
 rename_i b k len cap;let⟨Z,hm,ak,hx⟩:=rv;cases ha:aZ len cap lo hi mx bs with
 |none=>rw[ha]at h;cases h
 |some q=>let⟨l',h',m'⟩:=q;rw[ha]at h;simp at h;subst h;have hr:=fun w=>(dZ (P:=P) (isS:=true) ha (VZ cap) ak (eV h1) (eV h2) (eV h3) rb w).1;have af:=(dZ (P:=P) (isS:=true) ha (VZ cap) ak (eV h1) (eV h2) (eV h3) rb default).2;refine⟨_,⟨Z,hm,oM,rfl⟩,fun w=>?_⟩;simp only[execOp,hy,Instr.sliceAt,Instr.slice,hx,Wm,Wx,aD hu,Wd,hr w,cK hs];have:=Bq Z.a Z.b k l' esz (m'.getD cap);by_cases q:m'.getD cap=l';grind;grind
 rename_i b k len K;cases hb:(Nat.beq K esz&&Nat.blt 0 K);grind;rw[hb]at h;simp at h;simp only[VY,WB]at hb;let⟨aH,a0⟩:=hb;have ar:=Wb aH;subst ar;let⟨Z,hm,az,hx⟩:=rv;cases ha:aZ len len lo hi mx bs with
 |none=>rw[ha]at h;cases h
 |some q=>
  let⟨l',h',m'⟩:=q;rw[ha]at h;simp only[WN]at h;have hr:=fun w=>dZ (P:=P) (isS:=true) ha az (VZ len) (eV h1) (eV h2) (eV h3) rb w;have af:=(hr default).2;have run:∀w,(execOp ρ o).run P w=.ok (.value (.slice (if m'.getD ((Z.c-k)/K)=l' then some ⟨Z.a,Z.b+k,none⟩else(some (Addr.add ⟨Z.a,Z.b+k,none⟩ (l'*K)))) (h'-l') (m'.getD ((Z.c-k)/K)-l'))) w:=by intro w;simp only[execOp,hy,Instr.sliceAt,Instr.slice,hx,Wm,Wx,aD hu,Wd,(hr w).1,cK hs];rfl
  cases m' with
  |some mm=>simp at h;subst h;simp only[Zb]at run af;refine⟨_,⟨Z,hm,oM,rfl⟩,fun w=>?_⟩;rw[run w];have:=Bq Z.a Z.b k l' K mm;by_cases q:mm=l';grind;grind
  |none=>
   simp only[Zc]at run af;simp at h;cases ac:Nat.blt l' len;rw[ac]at h;simp at h;have aN:¬l'<len:=by intro q;rw[<-WB]at q;rw[q]at ac;cases ac
   cases hz:Nat.beq l' 0;rw[hz]at h;simp at h;subst h;have an:h'-l'=0:=oM;refine⟨.slice (if(Z.c-k)/K=l' then some ⟨Z.a,Z.b+k,none⟩else(some (Addr.add ⟨Z.a,Z.b+k,none⟩ (l'*K)))) (h'-l') ((Z.c-k)/K-l'),?_,run⟩;rw[an];by_cases q:(Z.c-k)/K=l';rw[if_pos q];exact⟨_,_,rfl⟩;rw[if_neg q];exact⟨_,_,rfl⟩;rw[hz]at h;simp at h;subst h;have ae:=Wb hz;subst ae;refine⟨_,⟨Z,hm,oM,rfl⟩,fun w=>?_⟩;rw[run w];simp[iT];rw[ac]at h;simp at h;subst h;have aJ:l'<len:=by simpa[WB]using ac
   have hd:(Z.c-(k+l'*K))/K=(Z.c-k)/K-l':=by rw[<-Nat.sub_sub,Nat.mul_comm,Nat.sub_mul_div]
   refine⟨_,⟨Z,hm,oM,rfl⟩,fun w=>?_⟩;rw[run w,if_neg oM,iT];rw[hd,XA]
 cases h;cases hc
theorem qI(s:List UInt8):(⟨s.toArray⟩:ByteArray).toList=s:=by rw[ByteArray.toList_eq]
theorem zM{t:TypeId}{k:Nat}(h:kV P t k=true):pX P t false=true:=by unfold kV at h;unfold pX;split at h;grind;grind;grind;cases h
theorem uz(d:Nat){w:World}:∀(ks:List Nat)(fs:List Field)(j:Nat)(xs ys:List Value)(l l':List V)(r:Bool),jA P j fs ks=true→
 f_ m l (xs.drop j)→f_ m l' (ys.drop j)→iZ ks l l'=some r→(Op.eqFields (d+1) (List.toArray xs) (List.toArray ys) fs).run P w=.ok r w
 |[],[],j,xs,ys,l,l',r,hf,hl,hl',hc=>by simp only[iZ,Option.some.injEq]at hc;subst hc;rfl
 |[],_::_,_,_,_,_,_,_,hf,_,_,_=>by simp[jA]at hf
 |_::_,[],_,_,_,_,_,_,hf,_,_,_=>by simp[jA]at hf
 |k::ks,f::fs,j,xs,ys,l,l',r,hf,hl,hl',hc=>by
  simp only[jA,Bool.and_eq_true,Bool.not_eq_true',beq_eq_false_iff_ne]at hf;let⟨⟨⟨hname,hoff⟩,hleaf⟩,hrest⟩:=hf;have hoff:=Nat.eq_of_beq_eq_true hoff;have hagg:=zM hleaf;have C5:∀(zs:List Value)(u:V)(us:List V),f_ m (u::us) (zs.drop j)→∃x,zs[j]? =some x∧l_ m u x∧f_ m us (zs.drop (j+1)):=by
   rintro zs u us ⟨x,xs',e,r1,r2⟩;have h0:(zs.drop j)[0]? =some x:=by rw[e];rfl
   rw[List.getElem?_drop]at h0;refine⟨x,by simpa using h0,r1,?_⟩;have:zs.drop (j+1)=xs':=by rw[←List.drop_drop,e];rfl
   rw[this];exact r2
  have partR:∀(zs:List Value) x,zs[j]? =some x→(part f.type (List.toArray zs) f.offset).run P w=.ok x w:=by intro zs x hx;simp[part,jo hagg,hoff,hx]
  cases l with
  |nil=>cases k with
   |zero=>simp[iZ]at hc
   |succ k=>cases k with
    |zero=>simp[iZ]at hc
    |succ k=>cases k<;>simp[iZ]at hc
  |cons u us=>
   cases l' with
   |nil=>cases k with
    |zero=>cases u<;>simp[iZ]at hc
    |succ k=>cases k with
     |zero=>cases u<;>simp[iZ]at hc
     |succ k=>cases k<;>cases u<;>simp[iZ]at hc
   |cons v vs=>
    let⟨x,hx,rx,rus⟩:=C5 xs u us hl;let⟨y,hy,ry,rvs⟩:=C5 ys v vs hl';have step:∀(b:Bool),(Op.equalIn (d+1) f.type x y).run P w=.ok b w→(b=true→iZ ks us vs=some r)→(b=false→r=false)→
     (Op.eqFields (d+1) (List.toArray xs) (List.toArray ys) (f::fs)).run P w=.ok r w:=by
     intro b hb h1 h2;simp only[Op.eqFields];rw[if_pos hname];simp only[Sem.run_bind,partR xs x hx,partR ys y hy,Result.andThen_ok,hb];cases b;have:=h2 rfl;subst this;rfl;simp only[Bool.not_true,Bool.false_eq_true,if_false];exact uz d ks fs (j+1) xs ys us vs r hrest rus rvs (h1 rfl)
    unfold kV at hleaf;split at hleaf;rename_i k0 hu;cases u<;>cases v<;>simp only[iZ]at hc<;>first|(cases hc;done)|skip
    rename_i t a t' b;simp only[l_]at rx ry;subst rx;subst ry;cases hk:kX t t';grind;rw[hk]at hc;simp only[cond_true]at hc;have:=mF hk;subst this;refine step (a==b) (run_equalIn_int w d f.type t k0 a b hu) (fun q=>?_) (fun q=>?_);rw[ew,q]at hc;exact hc;rw[ew,q]at hc;simpa using hc.symm;rename_i hu;cases u<;>cases v<;>simp only[iZ]at hc<;>first|(cases hc;done)|skip
    rename_i a b;simp only[l_]at rx ry;subst rx;subst ry;refine step (a==b) (uj hu a b d) (fun q=>?_) (fun q=>?_);grind;grind;rename_i hu;cases u<;>cases v<;>simp only[iZ]at hc<;>first|(cases hc;done)|skip
    rename_i a b;simp only[l_]at rx ry;subst rx;subst ry;refine step (a==b) (by rw[run_equalIn_string w d f.type _ _ hu,qI,qI]) (fun q=>?_) (fun q=>?_);grind;grind;cases hleaf
theorem ND{o:Oper}{ρ:Operand->Value}{ne:Bool}{ks:List Nat}{l l':List V}{r:Bool}(hc:bL P o.op (.I ne ks)=true)(hv:f_ m [.B l,.B l'] (OV ρ o.op))(h:iZ ks l l'=some r):
 PS P m o ρ (.h (bif ne then !r else r)):=by
 simp[bL]at hc;split at hc;rename_i b' t x y yt hy;simp at hc;let⟨hb,hs⟩:=hc;unfold qS at hs;split at hs;rename_i Z hu;simp at hs;let⟨⟨h1,h2⟩,h3⟩:=hs;let⟨x',y',e,rx,ry⟩:=cI hv;rw[hy]at e;change[ρ x,ρ y]=[x',y']at e;simp at e;obtain⟨xs,rfl,af⟩:=rx;obtain⟨ys,rfl,ae⟩:=ry;have ac:P.fieldsOf t=Z:=by unfold Program.fieldsOf;rw[hu]
 have K:∀w,(Op.equalIn (9999+1) t (.agg (List.toArray xs)) (.agg (List.toArray ys))).run P w=.ok r w:=by intro w;rw[run_equalIn_struct w 9999 t _ _ (by rw[ac];exact hu) h1,ac];exact uz 9998 ks Z.toList 0 xs ys l l' r h3 (by simpa using af) (by simpa using ae) h
 refine⟨_,rfl,fun w=>?_⟩;subst hb;cases ne;simp at hy|-;simp only[execOp,hy,e.1,e.2,Wm,run_eqGuard_agg w .eql t x y _ _ h2,Wd,run_eql_struct w t,K w];rfl;simp at hy|-;simp only[execOp,hy,e.1,e.2,Wm,run_eqGuard_agg w .neq t x y _ _ h2,Wd,run_neq_struct w t,K w];rfl;cases hs;cases hc
theorem sR{op:BinOp}{a b:List UInt8}{v:V}(h:qg op a b=some v)(w:World)(t:TypeId):∃x,(binOp op t (.string ⟨a.toArray⟩) (.string ⟨b.toArray⟩)).run P w=.ok x w/\l_ m v x:=by
 have e:binOp op t (.string ⟨a.toArray⟩) (.string ⟨b.toArray⟩)=Op.stringOp op ⟨a.toArray⟩ ⟨b.toArray⟩:=by cases op<;>rfl
 rw[e];cases op<;>simp[qg]at h;case add=>
  cases Z:Nat.blt (a.length+b.length) 9223372036854775808;grind;rw[Z]at h;simp only[cond_true]at h;cases h;have K:a.length+b.length<9223372036854775808:=by simpa[WB]using Z
  have hs:¬(((⟨a.toArray⟩:ByteArray).size+(⟨b.toArray⟩:ByteArray).size:Nat):Int)>IntKind.i64.max:=by
   have h1:(⟨a.toArray⟩:ByteArray).size=a.length:=by simp[ByteArray.size]
   have h2:(⟨b.toArray⟩:ByteArray).size=b.length:=by simp[ByteArray.size]
   rw[h1,h2];simp;omega
  refine⟨.string (⟨a.toArray⟩++⟨b.toArray⟩),?_,?_⟩;simp only[Op.stringOp];rw[if_neg hs];rfl;simp only[l_];congr 1
 all_goals first
  |(cases h;done)
  |(cases h;exact⟨_,rfl,by simp[l_]⟩)
theorem O4{o:Oper}{ρ:Operand->Value}{op:BinOp}{a b:List UInt8}{v:V}(hc:bL P o.op (.B op)=true)(hv:f_ m [.f a,.f b] (OV ρ o.op))(h:qg op a b=some v):PS P m o ρ v:=by
 simp[bL]at hc;split at hc;rename_i b' t x y yt hy;have hb:op=b':=by simpa using hc
 subst hb;let⟨x',y',e,rx,ry⟩:=cI hv;rw[hy]at e;change[ρ x,ρ y]=[x',y']at e;simp at e;simp[l_]at rx ry;have hg:∀w,(eqGuard op t x y (.string ⟨a.toArray⟩) (.string ⟨b.toArray⟩)).run P w=.ok () w:=fun w=>by cases op<;>rfl
 let⟨z,_,K⟩:=sR (P:=P) (m:=m) h default t;refine⟨z,K,fun w=>?_⟩;let⟨z',hz,Z⟩:=sR (P:=P) (m:=m) h w t;have:z'=z:=by
  cases v with
  |f s=>simp[l_]at K Z;rw[K,Z]
  |h s=>simp[l_]at K Z;rw[K,Z]
  |_=>cases op<;>simp[qg]at h<;>first|(cases h;done)|(cases hq:Nat.blt (a.length+b.length) 9223372036854775808<;>rw[hq]at h<;>cases h)
 rw[<-this];simp only[execOp,hy,e.1,e.2,rx,ry,Wm,hg w,Wd,hz];rfl;cases hc
theorem FJ{o:Oper}{ρ:Operand->Value}{a:List UInt8}(hc:bL P o.op .g=true)(hv:f_ m [.f a] (OV ρ o.op)):PS P m o ρ (.A .i64 (a.length:Nat)):=by
 let⟨x,ts,t,d,K,ht,hu,hd⟩:=pu hc;let⟨x',e,r⟩:=bY hv;rw[K]at e;simp[Op.operands,Call.operands]at e;simp[l_]at r;refine⟨_,rfl,fun w=>?_⟩;cases d<;>simp at hd;have Z:(⟨a.toArray⟩:ByteArray).size=a.length:=by simp[ByteArray.size]
 simp[execOp,K,resolve,invoke,builtin,Builtin.len_,ht,e,r,aD hu,goInt,Z]
theorem tW{t:TypeId}(h:CS P t=true):P.underlying t=some .string:=by unfold CS at h;split at h<;>simp_all
theorem Jm{o:Oper}{ρ:Operand->Value}{a:List UInt8}{k:IntKind}{i:Nat}{c:UInt8}(hc:bL P o.op .p=true)(hv:f_ m [.f a,.A k (.ofNat i)] (OV ρ o.op))(h:a[i]? =some c):PS P m o ρ (.A .u8 (c.toNat:Nat)):=by
 simp[bL]at hc;split at hc;rename_i t x y K;let⟨x',y',e,rx,ry⟩:=cI hv;rw[K]at e;change[ρ x,ρ y]=[x',y']at e;simp at e;simp only[l_]at rx ry;have hu:=tW hc;refine⟨_,rfl,fun w=>?_⟩;have hg:(⟨a.toArray⟩:ByteArray)[i]? =some c:=by
  have Z:i<a.length:=(Wk.1 h).1;have hs:i<(⟨a.toArray⟩:ByteArray).size:=by simpa[ByteArray.size]using Z
  rw[getElem?_pos _ i hs];rw[Wf Z]at h;exact h
 simp only[execOp,K,e.1,e.2,rx,ry,Instr.index,asIntOf,Wm,Wx,aD hu,Wd];have h0:(0:Int)<=Int.ofNat i:=by simp
 rw[if_pos h0];simp[hg];cases hc
theorem Jj{o:Oper}{ρ:Operand->Value}{lo hi:Bool}{a:List UInt8}{bs:List V}{l h:Nat}{mo:Option Nat}(hc:bL P o.op (.C lo hi)=true)(hv:f_ m (.f a::bs) (OV ρ o.op))
 (hb:aZ a.length a.length lo hi false bs=some (l,h,mo)):PS P m o ρ (.f ((a.drop l).take (h-l))):=by
 simp[bL]at hc;split at hc;rename_i t x lw hh Z hy;simp only[VY,beq_iff_eq]at hc;let⟨⟨⟨hs,h1⟩,h2⟩,h3⟩:=hc;have hu:=tW hs;cases Z with
 |some q=>simp at h3
 |none=>
  rw[hy,sX]at hv;let⟨x',ac,e',rv,rb⟩:=hv;simp only[Ww]at e';obtain⟨rfl,rfl⟩:=e';simp[l_]at rv;have K:(⟨a.toArray⟩:ByteArray).size=a.length:=by simp[ByteArray.size]
  have hr:=fun w=>(dZ (P:=P) (isS:=false) hb (VZ _) (VZ _) (a:=lw.map ρ) (b:=hh.map ρ) (c:=none) (eV h1) (eV h2) rfl (by simpa using rb) w).1;refine⟨.string ((⟨a.toArray⟩:ByteArray).extract l h),?_,fun w=>?_⟩;simp only[l_];congr 1;apply ByteArray.ext;simp;simp[execOp,hy,Instr.sliceAt,Instr.slice,rv,aD hu,K,hr w]
 cases hc
end
section
variable {P : Program} {m : M}
theorem IV{o:Oper}{ρ:Operand->Value}{k:PK}{vs:List V}{v:V}(hc:bL P o.op k=true)(hv:f_ m vs (OV ρ o.op))(h:aP k vs=some v):PS P m o ρ v:=by
 unfold aP at h;split at h;exact O6 hc hv h;cases h;exact Lk hc hv;cases h;exact Jl hc hv;cases h;exact FG hc hv;exact O8 hc hv h;exact O3 hc hv h;cases h;exact NE hc hv;cases h;exact NG hc hv;exact Lm hc hv h;cases h;exact O9 hc hv;rename_i kd ne a b;cases Z:kR kd a b with
 |none=>rw[Z]at h;cases h
 |some r=>rw[Z]at h;cases h;exact NF hc hv Z
 cases h;exact Jq hc hv;exact Jp hc hv h;rename_i len esz b o' i;cases Z:lI i len with
 |none=>rw[Z]at h;cases h
 |some r=>rw[Z]at h;cases h;exact NK hc hv Z
 rename_i esz b o' len cap i;cases Z:lI i len with
 |none=>rw[Z]at h;cases h
 |some r=>rw[Z]at h;cases h;let⟨x,y,e,rx,ry⟩:=cI hv;let⟨ae,hm,_⟩:=rx;exact Jn hm hc hv (fun x K=>by obtain⟨l2,h2,_,rfl⟩:=K;rw[hm]at h2;cases h2;exact⟨_,rfl⟩) Z
 rename_i esz b o' len e0 i;cases Z:lI i len with
 |none=>rw[Z]at h;cases h
 |some r=>rw[Z]at h;cases h;let⟨x,y,e,rx,ry⟩:=cI hv;let⟨ae,hm,_⟩:=rx;exact Jn hm hc hv (fun x K=>by obtain⟨l2,h2,_,rfl⟩:=K;rw[hm]at h2;cases h2;exact⟨_,rfl⟩) Z
 rename_i len esz ia l i;cases Z:lI i len with
 |none=>rw[Z]at h;cases h
 |some r=>rw[Z]at h;exact Jo hc hv Z h
 exact NM hc hv h;rename_i fn n;cases Z:dG n vs with
 |none=>rw[Z]at h;cases h
 |some r=>rw[Z]at h;cases h;exact NJ hc hv Z
 cases h;exact NI hc hv;rename_i zero ac;cases Z:dT zero ac vs with
 |none=>rw[Z]at h;cases h
 |some r=>rw[Z]at h;cases h;exact Jr hc hv Z
 exact O2 hc hv h;exact Jk hc hv h;cases h;exact pZ (len:=0) hc hv (fun x K=>⟨_,_,K⟩);cases h;exact pZ hc hv (fun x K=>by obtain⟨_,_,_,rfl⟩:=K;exact⟨_,_,rfl⟩);cases h;exact pZ hc hv (fun x K=>by obtain⟨_,_,_,rfl⟩:=K;exact⟨_,_,rfl⟩);cases h;exact pZ (len:=0) hc hv (fun x K=>by obtain⟨_,_,rfl⟩:=K;exact⟨_,_,rfl⟩);cases h;exact pZ (len:=0) hc hv (fun x K=>⟨_,_,K⟩);cases h;exact FK hc hv;cases h;exact Dw (cap:=0) hc hv (fun x K=>⟨_,_,K⟩);cases h;exact Dw hc hv (fun x K=>by obtain⟨_,_,_,rfl⟩:=K;exact⟨_,_,rfl⟩);cases h;exact FM hc hv;cases h;exact O7 hc hv;cases h;exact O5 hc hv;cases h;exact Ll hc hv;rename_i ne ks l l';cases Z:iZ ks l l' with
 |none=>rw[Z]at h;cases h
 |some r=>rw[Z]at h;cases h;exact ND hc hv Z
 exact O4 hc hv h;cases h;exact FJ hc hv;rename_i a k i;cases Z:a[i]? with
 |none=>rw[Z]at h;cases h
 |some r=>rw[Z]at h;cases h;exact Jm hc hv Z
 rename_i lo hi a bs;cases Z:aZ a.length a.length lo hi false bs with
 |none=>rw[Z]at h;cases h
 |some r=>let⟨l,h',mo⟩:=r;rw[Z]at h;cases h;exact Jj hc hv Z
 cases h
end
def Pa(r:Result Next)(x:Value)(w':World):Prop:=r=.ok (.value x) w'\/(r=.ok .skip w'/\x=undef)
def MS(P:Program)(m:M)(h:a_)(w:World)(o:Oper)(ρ:Operand->Value)(v:V)(h':a_):Prop:=
 ∃x w' m',Pa ((execOp ρ o).run P w) x w'/\l_ m' v x/\r_ m' h' w'/\P5 m h w m' h' w'
theorem Js{P:Program}{m:M}{h:a_}{w:World}{o:Oper}{ρ:Operand->Value}{v:V}(H:r_ m h w)(p:PS P m o ρ v):MS P m h w o ρ v h:=by let⟨x,r,e⟩:=p;exact⟨x,w,m,.inl (e w),r,H,Yo _ _ _⟩
section
variable {P : Program} {m : M} {h : a_} {w : World}
def jO(h:a_)(n:Nat)(ia:Bool)(v:V):Option V:=
 match v with
 |.u b o=>bif ia then(aj h b o n).map .B else ab h b o
 |_=>none
def yu(P:Program)(op:Op)(n:Nat)(ia:Bool):Bool:=match op with
 |.load t _=>dM P t n&&pX P t ia
 |_=>false
theorem AL(H:r_ m h w){o:Oper}{ρ:Operand->Value}{n:Nat}{ia:Bool}{v r:V}(hc:yu P o.op n ia=true)(hv:f_ m [v] (OV ρ o.op))(Z:jO h n ia v=some r):
 ∃x,l_ m r x/\(execOp ρ o).run P w=.ok (.value x) w:=by
 unfold yu at hc;split at hc;rename_i t a hy;simp at hc;let⟨x,e,K⟩:=bY hv;rw[hy]at e;simp[Op.operands]at e;unfold jO at Z;split at Z;rename_i b k;obtain⟨ac,hm,rfl⟩:=K;cases ia;simp at Z;let⟨x,hx,K⟩:=H.s hm Z;refine⟨x,K,?_⟩;simp[execOp,hy,e,Instr.loadAt,Instr.sureAddr,loadVar,jo hc.2,hx];simp only[cond_true]at Z;cases hh:aj h b k n with
 |none=>rw[hh]at Z;cases Z
 |some vs=>rw[hh]at Z;cases Z;let⟨xs,hx,K,_⟩:=H.h P hm hh;refine⟨.agg (List.toArray xs),⟨xs,rfl,K⟩,?_⟩;simp[execOp,hy,e,Instr.loadAt,Instr.sureAddr,loadVar,jo hc.2,cK hc.1,hx]
 cases Z;cases hc
def iP(h:a_)(n:Nat)(p v:V):Option a_:=
 match p with
 |.u b o=>bif Nat.beq v.s.length n then dy h b o v.s else none
 |_=>none
def uB(P:Program)(op:Op)(n:Nat):Bool:=match op with
 |.store t _ _=>dM P t n
 |_=>false
theorem yC(H:r_ m h w){o:Oper}{ρ:Operand->Value}{n:Nat}{p v:V}{h':a_}(hc:uB P o.op n=true)(hv:f_ m [p,v] (OV ρ o.op))(Z:iP h n p v=some h'):
 MS P m h w o ρ (.D []) h':=by
 unfold uB at hc;split at hc;rename_i t a x hy;let⟨x',y',e,rx,ry⟩:=cI hv;rw[hy]at e;change[ρ a,ρ x]=[x',y']at e;simp at e;unfold iP at Z;split at Z;rename_i b k;obtain⟨ae,hm,rfl⟩:=rx;cases hb:Nat.beq v.s.length n;grind;rw[hb]at Z;simp at Z;have hn:=Wb hb;have rc:=ry.J_;let⟨w',K,H',E'⟩:=H.i P hm Z rc;have ac:¬y'.cells.size≠n:=by have:=rc.Z;simp at this|-;omega
 refine⟨undef,w',m,.inr ⟨?_,rfl⟩,⟨[],rfl,rfl⟩,H',E'⟩;simp only[execOp,hy,e.1,e.2,Instr.storeAt,Instr.sureAddr,storeVar,Wm,Wx,Wd,cK hc];rw[if_neg ac];simp[K];cases Z;cases hc
theorem dt(X:Array Value)(elem:TypeId):(newRow elem X).run P w=.ok ⟨w.heap.size,0,none⟩ (w.alloc (.cells X elem)):=by simp[newRow]
theorem r_.e(H:r_ m h w){c:List V}{Z:List Value}(elem:TypeId)(r:f_ m c Z):
 r_ (eh m h.e ⟨w.heap.size,0,c.length,none⟩) (h_ h c) (w.alloc (.cells (List.toArray Z) elem))/\
 P5 m h w (eh m h.e ⟨w.heap.size,0,c.length,none⟩) (h_ h c) (w.alloc (.cells (List.toArray Z) elem)):=by
 have:=H.q c (List.toArray Z) elem (by simp[r.Z]) (fun i v hi=>by let⟨x,hx,rx⟩:=r.i i v hi;exact⟨x,by simpa using hx,rx⟩);simpa[r.Z]using this
def pQ(P:Program)(op:Op)(zero:List V):Bool:=match op with
 |.alloc t=>jU P t zero
 |_=>false
theorem yF(H:r_ m h w){o:Oper}{ρ:Operand->Value}{zero:List V}(hc:pQ P o.op zero=true):MS P m h w o ρ (.u h.e 0) (h_ h zero):=by unfold pQ at hc;split at hc;rename_i t K;let⟨z,hz,hv⟩:=jF (w:=w) hc;let⟨H',E'⟩:=H.e t (dE m _ _ hv);refine⟨_,_,_,.inl ?_,⟨_,av _ _ _,rfl⟩,H',E'⟩;have Z:=dt (P:=P) (w:=w) z.cells t;simp[execOp,K,Instr.alloc,hz,newVar,Z];cases hc
def yx(op:Op):Bool:=match op with
 |.box _ _=>true
 |_=>false
theorem B4(H:r_ m h w){o:Oper}{ρ:Operand->Value}{v:V}(hc:yx o.op=true)(hv:f_ m [v] (OV ρ o.op)):MS P m h w o ρ (.u h.e 0) (h_ h v.s):=by unfold yx at hc;split at hc;rename_i t a K;let⟨x,e,rx⟩:=bY hv;rw[K]at e;simp[Op.operands]at e;let⟨H',E'⟩:=H.e t rx.J_;refine⟨_,_,_,.inl ?_,⟨_,av _ _ _,rfl⟩,H',E'⟩;have Z:=dt (P:=P) (w:=w) x.cells t;simp[execOp,K,e,Instr.box,newVar,Z];cases hc
end
section
variable {P : Program} {m : M} {h : a_} {w : World}
def bq(zero:List V)(n:Nat):List V:=Nat.rec (motive:=fun _=>List V) [] (fun _ ih=>zero++ih) n
theorem kO(zero:List V)(n:Nat):(bq zero n).length=n*zero.length:=by
 induction n with
 |zero=>show([]:List V).length=_;simp
 |succ n ih=>show(zero++bq zero n).length=_;simp[ih,Yq,Yz]
theorem GX(zero:List V)(n i:Nat)(hi:i<n*zero.length):(bq zero n)[i]? =zero[i%zero.length]? :=by
 induction n generalizing i with
 |zero=>simp at hi
 |succ n ih=>show(zero++bq zero n)[i]? =_;by_cases c:i<zero.length;rw[List.getElem?_append_left c,Nat.mod_eq_of_lt c];rw[List.getElem?_append_right oM,ih (i-zero.length) (by rw[Nat.succ_mul]at hi;omega),←Nat.mod_eq_sub_mod oM]
theorem lQ{zero:List V}{z:List Value}(r:f_ m zero z)(n:Nat):f_ m (bq zero n) ((Array.range (n*z.length)).map fun i=>z.toArray[i%z.toArray.size]!).toList:=by
 have K:=r.Z;refine f_.of_get (by simp[kO,K]) fun i v hi=>?_;have Z:i<n*zero.length:=by obtain q|q:=WY i (n*zero.length);exact q;rw[Xa (by rw[kO];exact q)]at hi;cases hi
 rw[GX _ _ _ Z]at hi;let⟨x,hx,rx⟩:=r.i _ _ hi;refine⟨x,?_,rx⟩;have hz:0<z.length:=by grind
 have hm:i%z.length<z.length:=XC _ hz;rw[<-K]at hx;simp[K,Z];rw[<-K];rw[Wf hm]at hx;cases hx;simp[hm]
def S1(h:a_)(esz:Nat)(v:V)(n:Nat):Option (List V):=
 match v with
 |.y b o _ _=>aj h b o (n*esz)
 |.G b o _ _=>aj h b o (n*esz)
 |.r=>bif Nat.beq n 0 then some []else none
 |.L=>bif Nat.beq n 0 then some []else none
 |.sliceZ _ _=>bif Nat.beq n 0 then some []else none
 |.f s=>bif Nat.beq esz 1&&Nat.beq n s.length then some (s.map fun b=>.A .u8 (Int.ofNat b.toNat))else none
 |_=>none
def T9(v:V):Option Nat:=
 match v with
 |.y _ _ n _=>some n
 |.G _ _ n _=>some n
 |.r=>some 0
 |.L=>some 0
 |.sliceZ _ _=>some 0
 |.f s=>some s.length
 |_=>none
def jB(v:V):Option Nat:=
 match v with
 |.f _=>none
 |v=>T9 v
theorem sU{v:V}{n:Nat}{x:Value}(Z:T9 v=some n)(r:l_ m v x)(w:World):(Builtin.lenOf x).run P w=.ok n w:=by unfold T9 at Z;split at Z;cases Z;obtain⟨_,_,_,rfl⟩:=r;rfl;cases Z;obtain⟨_,_,_,rfl⟩:=r;rfl;cases Z;simp[l_]at r;subst r;rfl;cases Z;obtain⟨_,_,rfl⟩:=r;rfl;cases Z;simp[l_]at r;subst r;rfl;cases Z;simp[l_]at r;subst r;simp[Builtin.lenOf,ByteArray.size];cases Z
theorem wM(m:M):∀(s:List UInt8),f_ m (s.map fun b=>V.A .u8 (Int.ofNat b.toNat)) (s.map fun b=>Value.int .u8 b.toNat)
 |[]=>rfl
 |b::s=>⟨_,_,rfl,rfl,wM m s⟩
theorem jY(H:r_ m h w){esz n:Nat}{v:V}{x:Value}{vs:List V}(Z:S1 h esz v n=some vs)(r:l_ m v x):
 ∃xs,(Builtin.firstCells esz n x).run P w=.ok (List.toArray xs) w/\f_ m vs xs/\vs.length=n*esz:=by
 unfold S1 at Z;split at Z;obtain⟨ac,hm,_,rfl⟩:=r;exact H.h P hm Z;obtain⟨ac,hm,_,rfl⟩:=r;exact H.h P hm Z;cases K:Nat.beq n 0;grind;rw[K]at Z;cases Z;have:=Wb K;subst this;simp[l_]at r;subst r;exact⟨[],rfl,rfl,iS⟩;cases K:Nat.beq n 0;grind;rw[K]at Z;cases Z;have:=Wb K;subst this;obtain⟨a,c,rfl⟩:=r;refine⟨[],?_,rfl,iS⟩;simp[Builtin.firstCells,loadCells,loadCellsFrom];cases K:Nat.beq n 0;grind;rw[K]at Z;cases Z;have:=Wb K;subst this;simp[l_]at r;subst r;refine⟨[],?_,rfl,iS⟩;simp[Builtin.firstCells,loadCells,loadCellsFrom];rename_i s;cases K:(Nat.beq esz 1&&Nat.beq n s.length);grind;rw[K]at Z;simp only[cond_true,Wg]at Z;simp only[VY]at K;have h1:=Wb K.1;have h2:=Wb K.2;subst h1;subst h2;subst Z;simp[l_]at r;subst r;refine⟨s.map fun b=>Value.int .u8 b.toNat,?_,wM m s,iS⟩;have:((⟨s.toArray⟩:ByteArray).extract 0 s.length).data=s.toArray:=by rw[ByteArray.data_extract];simp
 simp only[Builtin.firstCells,this,Wx];simp;cases Z
def wS(h:a_)(zero:List V)(bytes:Nat)(l c:V):Option (V×a_):=
 match l,c with
 |.A _ (.ofNat l),.A _ (.ofNat c)=>
  bif Nat.ble l c&&Nat.blt c 9223372036854775808&&Nat.ble (bytes*c) 281474976710656 then some (.y h.e 0 l c,h_ h (bq zero c))else none
 |_,_=>none
def pP(P:Program)(op:Op)(zero:List V)(bytes:Nat):Bool:=match op with
 |.makeSlice t _ _=>match P.underlying t with
  |some (.slice e)=>jU P e zero&&dM P e zero.length&&Nat.blt 0 zero.length&&(match P.info? e with|some i=>Nat.beq i.bytes bytes|none=>false)
  |_=>false
 |_=>false
theorem jV{n:Nat}(Z:n<9223372036854775808):IntKind.i64.wrap (Int.ofNat n)=(n:Int):=by
 rw[<-dg];show(bif Nat.blt n 9223372036854775808 then _ else _)=_;have:Nat.blt n 9223372036854775808=true:=by rw[WB];exact Z
 rw[this];rfl
theorem AK(H:r_ m h w){o:Oper}{ρ:Operand->Value}{zero:List V}{bytes:Nat}{l c v:V}{h':a_}(hc:pP P o.op zero bytes=true)(hv:f_ m [l,c] (OV ρ o.op))
 (hs:wS h zero bytes l c=some (v,h')):MS P m h w o ρ v h':=by
 unfold pP at hc;split at hc;rename_i t a b hy;split at hc;rename_i e hu;simp at hc;let⟨⟨⟨hz,ak⟩,ax⟩,hi⟩:=hc;split at hi;rename_i i ae;have ay:=Wb hi;let⟨x',y',e',rx,ry⟩:=cI hv;rw[hy]at e';change[ρ a,ρ b]=[x',y']at e';simp at e';unfold wS at hs;split at hs;rename_i k1 l k2 c;cases hb:(Nat.ble l c&&Nat.blt c 9223372036854775808&&Nat.ble (bytes*c) 281474976710656);grind;rw[hb]at hs;simp at hs;obtain⟨rfl,rfl⟩:=hs;simp only[VY,WB]at hb;let⟨⟨h1,h2⟩,h3⟩:=hb;have h1:=Wh h1;have h3:=Wh h3;simp only[l_]at rx ry;let⟨z,an,ar⟩:=jF (w:=w) hz;have rz:f_ m zero z.cells.toList:=dE m _ _ ar;have af:=rz.Z;have rel:=lQ rz c;let⟨H',E'⟩:=H.e e rel;refine⟨_,_,_,.inl ?_,⟨_,av _ _ _,h1,rfl⟩,H',E'⟩;have w1:IntKind.i64.wrap (Int.ofNat l)=(l:Int):=jV oM;have w2:IntKind.i64.wrap (Int.ofNat c)=(c:Int):=jV h2;have Z:¬((decide ((c:Int)<0)||decide ((i.bytes:Int) *(c:Int)>2^48)||decide ((l:Int)<0)||decide ((l:Int)>(c:Int)))=true):=by grind
 have ac:=fun X=>dt (P:=P) (w:=w) X e;simp only[execOp,hy,e'.1,e'.2,rx,ry,Instr.makeSlice,asInt,asIntOf,Wm,Wx,Wd,aD hu,dU ae,w1,w2];rw[if_neg (by simpa[Bool.or_assoc]using Z)];simp only[Wm,run_askRoom,Wd,cK ak,pi];by_cases K:c*zero.length=0;rw[if_pos K];simp only[Wm,Wd,Wx,ac];have e1:∀zz:Array Value,(Array.range (c*zero.length)).map (fun i=>zz[i%zz.size]!)= #[]:=fun zz=>by rw[K];simp
 have e2:∀zz:Array Value,(Array.range (c*z.cells.toList.length)).map (fun i=>zz[i%zz.size]!)= #[]:=fun zz=>by rw[af];exact e1 zz
 rw[e1,e2];rw[if_neg K];simp only[Wm,an,Wd,Wx,ac];rw[af];cases hs;cases hi;cases hc;cases hc
def mkN(bytes:Nat)(l c:V):Option (Nat×Nat):=
 match l,c with
 |.A _ (.ofNat l),.A _ (.ofNat c)=>bif Nat.ble l c&&Nat.blt c 9223372036854775808&&Nat.ble (bytes*c) 281474976710656 then some (l,c)else none
 |_,_=>none
theorem Fp{o:Oper}{ρ:Operand->Value}{zero:List V}{bytes:Nat}{l c:V}{n k:Nat}(hc:pP P o.op zero bytes=true)(hv:f_ m [l,c] (OV ρ o.op))
 (hs:mkN bytes l c=some (n,k)):∃X elem,(execOp ρ o).run P w=.ok (.value (.slice (some ⟨w.heap.size,0,none⟩) n k)) (w.alloc (.cells X elem))/\f_ m (bq zero k) X.toList/\n<=k:=by
 unfold pP at hc;split at hc;rename_i t a b hy;split at hc;rename_i e hu;simp at hc;let⟨⟨⟨hz,ak⟩,ax⟩,hi⟩:=hc;split at hi;rename_i i ae;have ay:=Wb hi;let⟨x',y',e',rx,ry⟩:=cI hv;rw[hy]at e';change[ρ a,ρ b]=[x',y']at e';simp at e';unfold mkN at hs;split at hs;rename_i k1 l k2 c;cases hb:(Nat.ble l c&&Nat.blt c 9223372036854775808&&Nat.ble (bytes*c) 281474976710656);grind;rw[hb]at hs;simp at hs;obtain⟨rfl,rfl⟩:=hs;simp only[VY,WB]at hb;let⟨⟨h1,h2⟩,h3⟩:=hb;have h1:=Wh h1;have h3:=Wh h3;simp only[l_]at rx ry;let⟨z,an,ar⟩:=jF (w:=w) hz;have rz:f_ m zero z.cells.toList:=dE m _ _ ar;have af:=rz.Z;have rel:=lQ rz c;refine⟨_,e,?_,rel,h1⟩;have w1:IntKind.i64.wrap (Int.ofNat l)=(l:Int):=jV oM;have w2:IntKind.i64.wrap (Int.ofNat c)=(c:Int):=jV h2;have Z:¬((decide ((c:Int)<0)||decide ((i.bytes:Int) *(c:Int)>2^48)||decide ((l:Int)<0)||decide ((l:Int)>(c:Int)))=true):=by grind
 have ac:=fun X=>dt (P:=P) (w:=w) X e;simp only[execOp,hy,e'.1,e'.2,rx,ry,Instr.makeSlice,asInt,asIntOf,Wm,Wx,Wd,aD hu,dU ae,w1,w2];rw[if_neg (by simpa[Bool.or_assoc]using Z)];simp only[Wm,run_askRoom,Wd,cK ak,pi];by_cases K:c*zero.length=0;rw[if_pos K];simp only[Wm,Wd,Wx,ac];have e1:∀zz:Array Value,(Array.range (c*zero.length)).map (fun i=>zz[i%zz.size]!)= #[]:=fun zz=>by rw[K];simp
 have e2:∀zz:Array Value,(Array.range (c*z.cells.toList.length)).map (fun i=>zz[i%zz.size]!)= #[]:=fun zz=>by rw[af];exact e1 zz
 rw[e1,e2];rw[if_neg K];simp only[Wm,an,Wd,Wx,ac];rw[af];cases hs;cases hi;cases hc;cases hc
end
section
variable {P : Program} {m : M} {h : a_} {w : World}
def jG(esz:Nat):List (Nat×Operand)->List (Nat×Nat)->Bool
 |[],[]=>true
 |(i,_)::ps,(off,n)::qs=>Nat.beq off (i*esz)&&Nat.beq n esz&&jG esz ps qs
 |_,_=>false
theorem pp{esz:Nat}{ρ:Operand→Value}:∀(qs:List (Nat×Nat))(ps:List (Nat×Operand)),jG esz ps qs=true→
 (ps.map fun p=>(p.1,ρ p.2)).map (fun p=>some (p.1*esz,esz))=qs.map some
 |[],[],_=>rfl
 |[],_::_,h=>by simp[jG]at h
 |_::_,[],h=>by simp[jG]at h
 |(off,n)::qs,(i,x)::ps,h=>by simp only[jG,Bool.and_eq_true]at h;have h1:=Nat.eq_of_beq_eq_true h.1.1;have h2:=Nat.eq_of_beq_eq_true h.1.2;simp only[List.map_cons,pp qs ps h.2,h1,h2]
def kj(h:a_)(zero:List V)(places:List (Nat×Nat))(len:Nat)(vs:List V):Option (V×a_):=
 match dT (bq zero len) places vs with
 |some c=>some (.y h.e 0 len len,h_ h c)
 |none=>none
def mN(P:Program)(op:Op)(zero:List V)(places:List (Nat×Nat))(len:Nat):Bool:=match op with
 |.buildSlice t len' parts=>match P.underlying t with
  |some (.slice e)=>Nat.beq len len'&&jU P e zero&&dM P e zero.length&&Nat.blt 0 zero.length&&Nat.ble (len*zero.length) 16777216&&jG zero.length parts.toList places
  |_=>false
 |_=>false
theorem rQ{o:Oper}{ρ:Operand->Value}{zero:List V}{Z:List (Nat×Nat)}{len:Nat}{vs c:List V}(hc:mN P o.op zero Z len=true)
 (hv:f_ m vs (OV ρ o.op)) (hf:dT (bq zero len) Z vs=some c):
 ∃X elem,(execOp ρ o).run P w=.ok (.value (.slice (some ⟨w.heap.size,0,none⟩) len len)) (w.alloc (.cells X elem))/\f_ m c X.toList:=by
 unfold mN at hc;split at hc;rename_i t aT K hy;split at hc;rename_i e hu;simp only[VY,WB]at hc;let⟨⟨⟨⟨⟨hl,hz⟩,aH⟩,aR⟩,af⟩,ax⟩:=hc;have hl:=Wb hl;have af:=Wh af;subst hl;let⟨z,aJ,aN⟩:=jF (w:=w) hz;have rz:f_ m zero z.cells.toList:=dE m _ _ aN;have az:=rz.Z;have rel:=lQ rz len;rw[hy]at hv;have ay:f_ m vs ((K.toList.map fun p=>(p.1,ρ p.2)).map (·.2)):=by simpa[OV,Op.operands,Yw]using hv
 let⟨r',h1,h2⟩:=uf (fun i=>some (i*zero.length,zero.length)) Z vs _ (bq zero len) _ c hf rel ay (pp Z K.toList ax);refine⟨List.toArray r',e,?_,by simpa using h2⟩;have an:=fun X=>dt (P:=P) (w:=w) X e;have ac:(K.map fun(p:Nat×Operand)=>(p.1,ρ p.2)).toList=K.toList.map fun p=>(p.1,ρ p.2):=by simp
 have ar:¬len*zero.length>2^24:=oM;have ae:(Array.range (len*zero.length)).map (fun i=>z.cells[i%z.cells.size]!)=List.toArray ((Array.range (len*z.cells.toList.length)).map fun i=>z.cells.toList.toArray[i%z.cells.toList.toArray.size]!).toList:=by rw[az]
 simp only[execOp,hy,Instr.buildSlice,Wm,aD hu,Wd,cK aH];rw[if_neg ar];by_cases ak:len*zero.length=0;simp only[ak,if_true,Wm,Wx,Wd];have e1:(Array.range 0).map (fun i=>(#[]:Array Value)[i%(#[]:Array Value).size]!)=List.toArray ((Array.range (len*z.cells.toList.length)).map fun i=>z.cells.toList.toArray[i%z.cells.toList.toArray.size]!).toList:=by grind
 rw[e1,ac,h1];simp[an];rw[if_neg ak];simp only[Wm,aJ,Wd,Wx];rw[ae,ac,h1];simp[an];cases hc;cases hc
theorem vi(H:r_ m h w){o:Oper}{ρ:Operand->Value}{zero:List V}{Z:List (Nat×Nat)}{len:Nat}{vs:List V}{v:V}{h':a_}(hc:mN P o.op zero Z len=true)
 (hv:f_ m vs (OV ρ o.op)) (hs:kj h zero Z len vs=some (v,h')):MS P m h w o ρ v h':=by
 unfold kj at hs;split at hs;rename_i c hf;simp at hs;obtain⟨rfl,rfl⟩:=hs;let⟨X,e,K,rX⟩:=rQ (P:=P) (w:=w) hc hv hf;let⟨H',E'⟩:=H.e e rX;refine⟨_,_,_,.inl ?_,⟨_,av _ _ _,VZ _,rfl⟩,H',E'⟩;simpa using K;cases hs
def rP(h:a_)(esz:Nat)(d s:V):Option (V×a_):=
 match jB d,T9 s with
 |some dl,some sl=>
  let n:=Nat.min sl dl
  bif Nat.beq n 0 then some (.A .i64 0,h)else
   match S1 h esz s n with
   |some vs=>
    match d with
    |.y b o _ _=>(dy h b o vs).map fun h'=>(.A .i64 n,h')
    |.G b o _ _=>(dy h b o vs).map fun h'=>(.A .i64 n,h')
    |_=>none
   |none=>none
 |_,_=>none
def yw(P:Program)(op:Op)(esz:Nat):Bool:=match fZ op .copy with
 |some (args,ts)=>Nat.beq args.size 2&&(match ts[0]? with|some t=>k9 P t none esz|none=>false)
 |none=>false
theorem yQ{op:Op}{b:Builtin}{args:Array Operand}{ts:Array TypeId}(hcl:fZ op b=some (args,ts))(h:args.size=2):∃x y,op=.call {callee:=.builtin b,args:= #[x,y],argTypes:=ts}:=by
 unfold fZ at hcl;split at hcl;rename_i b' args' ts';split at hcl;rename_i hb;subst hb;simp at hcl;obtain⟨rfl,rfl⟩:=hcl;let⟨l⟩:=args';match l,h with
 |[x,y],_=>exact⟨x,y,rfl⟩
 cases hcl;cases hcl
theorem l_.nonnil{v:V}{x:Value}{n:Nat}(r:l_ m v x)(Z:jB v=some n):∃a c,x=.slice a n c:=by unfold jB at Z;split at Z;cases Z;rename_i K;unfold T9 at Z;split at Z;cases Z;obtain⟨_,_,_,rfl⟩:=r;exact⟨_,_,rfl⟩;cases Z;obtain⟨_,_,_,rfl⟩:=r;exact⟨_,_,rfl⟩;cases Z;exact⟨_,_,r⟩;cases Z;obtain⟨_,_,rfl⟩:=r;exact⟨_,_,rfl⟩;cases Z;exact⟨_,_,r⟩;grind;cases Z
theorem Ig{v:V}{x:Value}{n:Nat}(r:l_ m v x)(Z:T9 v=some n)(esz:Nat)(w:World):(Builtin.firstCells esz 0 x).run P w=.ok #[] w:=by unfold T9 at Z;split at Z;obtain⟨_,_,_,rfl⟩:=r;simp[Builtin.firstCells,loadCells,loadCellsFrom];obtain⟨_,_,_,rfl⟩:=r;simp[Builtin.firstCells,loadCells,loadCellsFrom];simp[l_]at r;subst r;simp[Builtin.firstCells];obtain⟨_,_,rfl⟩:=r;simp[Builtin.firstCells,loadCells,loadCellsFrom];simp[l_]at r;subst r;simp[Builtin.firstCells,loadCells,loadCellsFrom];simp[l_]at r;subst r;simp[Builtin.firstCells];cases Z
theorem AO(H:r_ m h w){o:Oper}{ρ:Operand->Value}{esz:Nat}{d s v:V}{h':a_}(hc:yw P o.op esz=true)(hv:f_ m [d,s] (OV ρ o.op))
 (hs:rP h esz d s=some (v,h')):MS P m h w o ρ v h':=by
 unfold yw at hc;split at hc;rename_i a1 ts aT;simp only[VY]at hc;let⟨ax,ht⟩:=hc;split at ht;rename_i t aH;let⟨e,hu,aJ⟩:=oL ht;let⟨x,y,hy⟩:=yQ aT (Wb ax);let⟨x',y',e',rx,ry⟩:=cI hv;rw[hy]at e';change[ρ x,ρ y]=[x',y']at e';simp only[Ww,and_true]at e';unfold rP at hs;split at hs;rename_i dl sl ay af;let⟨da,dc,K⟩:=rx.nonnil ay;have ak:=fun w=>sU (P:=P) af ry w;have base:∀w1,(execOp ρ o).run P w1=((Builtin.firstCells esz (Nat.min sl dl) y').run P w1).andThen fun cells w2=>
  ((match da with|some a=>storeCells a cells.toList|none=>pure ()).run P w2).andThen fun _ w3=>.ok (.value (goInt (Nat.min sl dl))) w3:=by
  intro w1;simp only[execOp,hy,resolve,invoke,builtin,Builtin.copy_,Wm,Wx,Wd];simp only[Zu,WK,XQ,e'.1,e'.2,aH,K,aD hu,ak,cK aJ,Wm,Wd,
   YL,YC,XZ]
  cases(Builtin.firstCells esz (Nat.min sl dl) y').run P w1 with
  |halt x y=>rfl
  |ok cells w2=>
   simp only[Wd];cases da with
   |none=>rfl
   |some a=>simp only[Wm,Wx];cases(storeCells a cells.toList).run P w2<;>rfl
 cases hb:Nat.beq (Nat.min sl dl) 0;simp only[hb,cond_false]at hs;split at hs;rename_i vs aN;let⟨xs,ar,a0,a2⟩:=jY (P:=P) H aN ry;have fin:∀b k Z,m b=some Z->da=some ⟨Z.a,Z.b+k,none⟩->(dy h b k vs).map (fun h'=>(V.A .i64 (Nat.min sl dl:Nat),h'))=some (v,h')->MS P m h w o ρ v h':=by
  intro b k Z hm az ac;cases ae:dy h b k vs with
  |none=>rw[ae]at ac;cases ac
  |some h2=>rw[ae]at ac;simp only[Ws,Wg,WC]at ac;obtain⟨rfl,rfl⟩:=ac;let⟨w',an,H',E'⟩:=H.i P hm ae a0;refine⟨_,w',m,.inl ?_,rfl,H',E'⟩;rw[base w,ar,az];simp[an,goInt]
 split at hs;rename_i b k q1 q2;let⟨Z,hm,_,hx⟩:=rx;rw[hx]at K;simp only[Value.slice.injEq]at K;exact fin b k Z hm K.1.symm hs;rename_i b k q1 q2;let⟨Z,hm,_,hx⟩:=rx;rw[hx]at K;simp only[Value.slice.injEq]at K;exact fin b k Z hm K.1.symm hs;cases hs;cases hs;simp only[hb,cond_true,Wg,WC]at hs;obtain⟨rfl,rfl⟩:=hs;have aR:Nat.min sl dl=0:=Wb hb;refine⟨_,w,m,.inl ?_,rfl,H,Yo _ _ _⟩;rw[base w,aR];rw[Ig ry af esz w];cases da<;>simp[storeCells,goInt]
 cases hs;cases ht;cases hc
end
section
variable {P : Program} {m : M} {h : a_} {w : World}
theorem wx(newLen:Nat):∀r c,c<newLen->Builtin.growBy newLen r c<=2*newLen+1024
 |0,c,hc=>by simp[Builtin.growBy];omega
 |r+1,c,hc=>by
  simp only[Builtin.growBy];rw[if_neg oM];by_cases hn:c+(c+768)/4<newLen;exact wx newLen r _ hn;cases r with
  |zero=>simp[Builtin.growBy];omega
  |succ r=>simp only[Builtin.growBy];rw[if_pos oM];omega
theorem Bu{Z cap:Nat}(hc:cap<Z):Builtin.nextslicecap Z cap<=2*Z+1024:=by unfold Builtin.nextslicecap;split;omega;split;omega;exact wx Z 4 cap hc
def yy(P:Program)(op:Op)(esz bytes:Nat):Bool:=match fZ op .append with
 |some (args,ts)=>Nat.beq args.size 2&&(match ts[0]?,ts[1]? with
  |some t,some tx=>(match P.underlying t,P.underlying tx with
   |some (.slice e),some dx=>(match dx with|.slice _=>true|.string=>true|_=>false)&&(match P.info? e with
    |some i=>Nat.beq i.size esz&&Nat.beq i.bytes bytes&&(match i.zero with|some z=>Nat.beq z.cells.size esz|none=>false)
    |none=>false)
   |_,_=>false)
  |_,_=>false)&&Nat.blt 0 esz&&Nat.blt 0 bytes
 |none=>false
structure AppFacts(P:Program)(o:Oper)(esz bytes:Nat)(x y:Operand)(elem:TypeId)(z:Value):Prop where
 d:0<esz
 e:z.cells.size=esz
 b:∀(ρ:Operand->Value)(w:World)(base:Option Addr)(sLen sCap n:Nat),ρ x=.slice base sLen sCap->(Builtin.lenOf (ρ y)).run P w=.ok n w->sLen+n<=sCap->
  (execOp ρ o).run P w=((Builtin.firstCells esz n (ρ y)).run P w).andThen fun new w1=>
   ((match base with|some a=>storeCells (a.add (sLen*esz)) new.toList|none=>pure ()).run P w1).andThen fun _ w2=>.ok (.value (.slice base (sLen+n) sCap)) w2
 c:∀(ρ:Operand->Value)(w:World)(base:Option Addr)(sLen sCap n:Nat),ρ x=.slice base sLen sCap->(Builtin.lenOf (ρ y)).run P w=.ok n w->¬sLen+n<=sCap->
  (2*(sLen+n)+1024) *bytes<=281474976710656->∃newCap,sLen+n<=newCap/\
  (execOp ρ o).run P w=((Builtin.firstCells esz sLen (ρ x)).run P w.drew).andThen fun old w1=>((Builtin.firstCells esz n (ρ y)).run P w1).andThen fun new w2=>
   ((newRow elem (old++new++Builtin.zeroCells z.cells (newCap-(sLen+n)))).run P w2).andThen fun a w3=>.ok (.value (.slice (some a) (sLen+n) newCap)) w3
theorem E9{o:Oper}{esz bytes:Nat}(hc:yy P o.op esz bytes=true):∃x y ts elem z,o.op=.call {callee:=.builtin .append,args:= #[x,y],argTypes:=ts}/\AppFacts P o esz bytes x y elem z:=by
 unfold yy at hc;split at hc
 ·rename_i args ts aJ;simp only[VY,WB]at hc;obtain⟨⟨⟨ax,ht⟩,ak⟩,a0⟩:=hc;obtain⟨x,y,hy⟩:=yQ aJ (Wb ax);split at ht
  ·rename_i t tx ar an;split at ht
   ·rename_i e dx hu af;simp at ht;obtain⟨aT,ht⟩:=ht;have ac:(∃e2,dx=.slice e2)\/dx=.string:=by grind
    obtain⟨e2,rfl⟩|rfl:=ac;all_goals
     split at ht
     ·rename_i i hi;simp only[VY]at ht;obtain⟨⟨h1,h2⟩,h3⟩:=ht;split at h3
      ·rename_i z hz;have h1:=Wb h1;have h2:=Wb h2;have h3:=Wb h3;refine⟨x,y,ts,e,z,hy,ak,h3,?_,?_⟩
       ·intro ρ w base Z K n hx hl ae;simp only[execOp,hy,resolve,invoke,builtin,Builtin.append_,Wm,Wx,Wd];simp only[Zu,WK,XQ,hx,ar,an,aD hu,aD af,hl,sizeOf,dU hi,h1,Wm,Wx,Wd,
         YL,YC,XZ,WE,if_false,if_pos ae,Bool.not_false,if_true]
        cases(Builtin.firstCells esz n (ρ y)).run P w with
        |halt a b=>rfl
        |ok new w1=>
         simp only[Wd];cases base with
         |none=>rfl
         |some a=>simp;cases(storeCells (a.add (Z*esz)) new.toList).run P w1<;>rfl
       ·intro ρ w base Z K n hx hl ae aR;refine⟨(Question.appendCap (Z+n) K e).cut (w.tape w.drawn (.appendCap (Z+n) K e)),by simp only[Question.cut];omega,?_⟩;have ay:Builtin.nextslicecap (Z+n) K<=2*(Z+n)+1024:=Bu oM;have aH:¬(((Z+n:Nat):Int)>IntKind.i64.max/\(false=true\/i.bytes=0)):=by grind
        have az:¬Builtin.nextslicecap (Z+n) K*i.bytes>2^48:=by
         rw[h2];have:=WW bytes ay;omega
        have aN:∀w,(zeroValue e).run P w=.ok z w:=fun w=>by simp[zeroValue,dU hi,hz]
        simp only[execOp,hy,resolve,invoke,builtin,Builtin.append_,Wm,Wx,Wd];simp only[Zu,WK,XQ,hx,ar,an,aD hu,aD af,hl,sizeOf,dU hi,h1,Wm,Wx,Wd,
         YL,YC,XZ,WE,if_false,if_neg ae,Bool.not_false,if_true]
        rw[if_neg (eV aH)];simp only[Wm,dU hi,Wd];rw[if_neg az];simp only[Wm,run_choose,Question.forced,WE,if_false,Wd,dU hi,run_askRoom,Wx,World.drew_eq];cases(Builtin.firstCells esz Z (.slice base Z K)).run P w.drew with
        |halt a b=>rfl
        |ok old w1=>
         simp only[Wd];cases(Builtin.firstCells esz n (ρ y)).run P w1 with
         |halt a b=>rfl
         |ok new w2=>
          simp only[Wd,aN];cases(newRow e (old++new++Builtin.zeroCells z.cells ((Question.appendCap (Z+n) K e).cut (w.tape w.drawn (.appendCap (Z+n) K e))-(Z+n)))).run P w2<;>rfl
      ·cases h3
     ·cases ht
   ·cases ht
  ·cases ht
 ·cases hc
end
def uP(h:a_)(esz bytes need:Nat)(c:List V):Option (V×a_):=
 bif Nat.ble ((2*need+1024) *bytes) 281474976710656 then some (.G h.e 0 need esz,h_ h c)else none
def jQ(h:a_)(esz bytes:Nat)(s x:V):Option (V×a_):=
 match T9 x with
 |none=>none
 |some n=>
  bif Nat.beq n 0 then
   match jB s with
   |some _=>some (s,h)
   |none=>none
  else
   match S1 h esz x n with
   |none=>none
   |some xs=>
    match s with
    |.r=>uP h esz bytes n xs
    |.y b o len cap=>
     bif Nat.ble (len+n) cap then(dy h b (o+len*esz) xs).map fun h'=>(.y b o (len+n) cap,h')
     else match aj h b o (len*esz)with
      |some old=>uP h esz bytes (len+n) (old++xs)
      |none=>none
    |.G b o len e=>
     bif Nat.beq e esz&&Nat.ble ((2*(len+n)+1024) *bytes) 281474976710656 then
      match dR h b with
      |some c=>
       bif Nat.ble (o+(len+n) *esz) c.length then(dy h b (o+len*esz) xs).map fun h'=>(.G b o (len+n) e,h')
       else bif Nat.ble (o+len*esz) c.length&&aw xs then
        match dG (len*esz) (gC c o)with
        |some old=>(oJ h b (o+len*esz) (old++xs)).map fun h'=>(.G h.e 0 (len+n) e,h')
        |none=>none
       else none
      |none=>none
     else none
    |_=>none
section
variable {P : Program} {m : M} {h : a_} {w : World}
theorem kG(z:Array Value)(n:Nat):(Builtin.zeroCells z n).size=n*z.size:=by simp[Builtin.zeroCells]
theorem r_.l(H:r_ m h w):r_ m h w.drew:=H.r rfl
theorem rL(H:r_ m h w){o:Oper}{ρ:Operand->Value}{esz bytes:Nat}{x y:Operand}{elem:TypeId}{z:Value}(F:AppFacts P o esz bytes x y elem z)
 {base:Option Addr} {len cap n:Nat} {old xs:List V} {v:V} {h':a_} (hx:ρ x=.slice base len cap) (hn:∀w,(Builtin.lenOf (ρ y)).run P w=.ok n w) (ar:¬len+n<=cap)
 (ae:∃ys,(Builtin.firstCells esz len (ρ x)).run P w.drew=.ok (List.toArray ys) w.drew/\f_ m old ys/\old.length=len*esz)
 (hnew:∃ys,(Builtin.firstCells esz n (ρ y)).run P w.drew=.ok (List.toArray ys) w.drew/\f_ m xs ys/\xs.length=n*esz)
 (hs:uP h esz bytes (len+n) (old++xs)=some (v,h')):MS P m h w o ρ v h':=by
 unfold uP at hs;cases hb:Nat.ble ((2*(len+n)+1024) *bytes) 281474976710656;grind;rw[hb]at hs;simp at hs;obtain⟨rfl,rfl⟩:=hs;let⟨nc,ac,Z⟩:=F.c ρ w base len cap n hx (hn w) ar (Wh hb);let⟨ys,h1,r1,l1⟩:=ae;let⟨zs,h2,r2,l2⟩:=hnew;rw[h1]at Z;simp only[Wd]at Z;rw[h2]at Z;simp only[Wd,dt]at Z;have rr:=Yn r1 r2;have an:=r1.Z;have ak:=r2.Z;have K:(List.toArray ys++List.toArray zs++Builtin.zeroCells z.cells (nc-(len+n))).size=nc*esz:=by simp[kG,F.e,an,ak,l1,l2,<-Yi];congr 1;omega
 have:=H.l.q (old++xs) (List.toArray ys++List.toArray zs++Builtin.zeroCells z.cells (nc-(len+n))) elem
  (by rw[K];simp[l1,l2,<-Yi];exact WW _ ac)
  (fun i v hi=>by
   let⟨q,hq,rq⟩:=rr.i i v hi;refine⟨q,?_,rq⟩;have af:i<(ys++zs).length:=(Wk.1 hq).1;rw[YV (eV af)];simpa using hq)
 let⟨H',E'⟩:=this;refine⟨_,_,_,.inl Z,⟨_,av _ _ _,?_,?_⟩,H',(P5.h m h w).a E'⟩;simp only[K,YK];rw[YI _ F.d];exact ac;simp only[K,YK];rw[YI _ F.d]
theorem B6(H:r_ m h w){o:Oper}{ρ:Operand->Value}{esz bytes:Nat}{s x v:V}{h':a_}(hc:yy P o.op esz bytes=true)(hv:f_ m [s,x] (OV ρ o.op))
 (Z:jQ h esz bytes s x=some (v,h')):MS P m h w o ρ v h':=by
 let⟨ox,oy,ts,elem,z,hy,F⟩:=E9 hc;let⟨x',y',e',rx,ry⟩:=cI hv;rw[hy]at e';change[ρ ox,ρ oy]=[x',y']at e';simp only[Ww,and_true]at e';unfold jQ at Z;split at Z;cases Z;rename_i n hn;have ar:∀w,(Builtin.lenOf (ρ oy)).run P w=.ok n w:=fun w=>by rw[e'.2];exact sU hn ry w
 cases hb:Nat.beq n 0;simp only[hb,cond_false]at Z;split at Z;cases Z;rename_i xs bt;have hnew:∃ys,(Builtin.firstCells esz n (ρ oy)).run P w.drew=.ok (List.toArray ys) w.drew/\f_ m xs ys/\xs.length=n*esz:=by rw[e'.2];exact jY (P:=P) H.l bt ry
 have az:∃ys,(Builtin.firstCells esz n (ρ oy)).run P w=.ok (List.toArray ys) w/\f_ m xs ys/\xs.length=n*esz:=by rw[e'.2];exact jY (P:=P) H bt ry
 have bi:n≠0:=by intro q;subst q;simp at hb
 split at Z
 -- nil
 simp only[l_]at rx;have K:ρ ox=.slice none 0 0:=e'.1.trans rx;refine rL (old:=[]) (len:=0) H F K ar oM ⟨[],?_,rfl,iS⟩ hnew (eV Z);rw[K];rfl
 -- a slice of a known capacity
 rename_i b k len cap;let⟨ac,hm,bC,K⟩:=rx;have K:=e'.1.trans K;cases ak:Nat.ble (len+n) cap;simp only[ak,cond_false]at Z;split at Z;rename_i old aR;refine rL H F K ar (by intro q;rw[Zr q]at ak;cases ak) ?_ hnew Z;rw[K];exact H.l.h P hm aR;cases Z;simp only[ak,cond_true]at Z;have ak:=Wh ak;cases af:dy h b (k+len*esz) xs with
 |none=>rw[af]at Z;cases Z
 |some h2=>rw[af]at Z;simp only[Ws,Wg,WC]at Z;obtain⟨rfl,rfl⟩:=Z;let⟨ys,h1,r1,l1⟩:=az;let⟨w',ae,H',E'⟩:=H.i P hm af r1;refine⟨_,w',m,.inl ?_,⟨ac,hm,ak,rfl⟩,H',E'⟩;rw[F.b ρ w _ len cap n K (ar w) ak,h1];simp only[Wd,iT,XA,ae]
 -- a slice of which only a least capacity is known
 rename_i b k len e;let⟨ac,hm,bC,K⟩:=rx;have K:=e'.1.trans K;cases a5:(Nat.beq e esz&&Nat.ble ((2*(len+n)+1024) *bytes) 281474976710656);rw[a5]at Z;cases Z;rw[a5]at Z;simp only[cond_true]at Z;simp only[VY]at a5;have he:=Wb a5.1;subst he;have bu:=Wh a5.2;split at Z;rename_i c aN;let⟨f,mk,hg,cc⟩:=pT aN;let⟨bk,bv,rel⟩:=H.c b ac hm;rw[hg]at bv;cases bv;let⟨C,el,fz,hC,bB,cr,a7,bj⟩:=rel cc;cases ak:Nat.ble (k+(len+n) *e) c.length;simp only[ak,cond_false]at Z;have ch:¬k+(len+n) *e<=c.length:=by intro q;rw[Zr q]at ak;cases ak
 cases aT:(Nat.ble (k+len*e) c.length&&aw xs);rw[aT]at Z;cases Z;rw[aT]at Z;simp only[cond_true]at Z;simp only[VY]at aT;have bf:=Wh aT.1;have a9:=aT.2;split at Z;rename_i old aR;let⟨aH,bh⟩:=kJ aR;rw[bQ]at aH bh;cases a6:oJ h b (k+len*e) (old++xs)with
 |none=>rw[a6]at Z;cases Z
 |some h2=>
  rw[a6]at Z;simp only[Ws,Wg,WC]at Z;obtain⟨rfl,rfl⟩:=Z;let⟨ys,bz,r1,l1⟩:=az;have co:=r1.Z;have ay:old.length=len*e:=by rw[aH];simp at bh|-;omega
  have a4:∀i:Nat,i<len*e->old[i]? =c[k+i]? :=by intro i hi;rw[aH,XW,if_pos hi,Xk]
  have cj:(len+n) *e=len*e+n*e:=Yi _ _ _;have a1:=F.d;have cn:0<n*e:=ZQ oM a1;by_cases ax:len+n<=(ac.c-k)/e
  -- in place
  have cl:(len+n) *e<=ac.c-k:=by have:=WW e ax;exact Wy this (Nat.div_mul_le_self _ _)
  let⟨w',ae,af⟩:=kM P ac.a (ac.b+(k+len*e)) el fz ys 0 C w hC oM
   (fun j hj=>by have:=bj (k+len*e+j) oM;rwa[(oM:ac.b+(k+len*e+j)=ac.b+(k+len*e)+0+j)]at this)
   (we a9 r1)
  let⟨C',a8,bn,aJ⟩:=af.e C el fz hC;have a2:=H.u (loc':=⟨ac.a,ac.b+k,ac.c-k,none⟩) (news:=xs) (w':=w') hm hg a6 (eG ay) bf oM
   ⟨VZ _,by simp[ay,l1];omega⟩
   ⟨C',el,fz,a8,by simp only[];omega,fun i u hi=>by
    simp only[];rw[aJ (ac.b+k+i)];by_cases ba:i<len*e;rw[XF oM,a4 i ba]at hi;rw[if_neg oM,XA];exact a7 _ u hi;rw[YU oM]at hi;let⟨q,hq,rq⟩:=r1.i _ _ hi;have cq:=(Wk.1 hq).1;refine⟨q,?_,rq⟩;rw[if_pos oM,if_pos oM,<-hq];congr 1;omega,
    fun i hi=>by simp only[]at hi|-;have:=bj (k+i) oM;rwa[<-XA]at this⟩
   (.inr ⟨rfl,rfl,af.a,fun C0 el0 bE a0=>by
    rw[hC]at a0;cases a0;exact⟨C',a8,bn,fun j hj=>by rw[aJ j,if_neg oM]⟩⟩)
   (fun _=>⟨by simp only[];omega,fun C0 el0 bE C1 a0 bw j hj=>by
    rw[hC]at a0;cases a0;rw[a8]at bw;cases bw;rw[aJ j,if_neg oM]⟩)
   (by rw[af.c];exact VZ _) (by rw[af.c];exact H.a b ac hm) af.f af.d af.b
  let⟨H',E'⟩:=a2;refine⟨_,w',_,.inl ?_,⟨_,av _ _ _,ax,rfl⟩,H',E'⟩;rw[F.b ρ w _ len _ n K (ar w) ax,bz];simp only[Wd,iT,XA,ae];simp
  -- a new row
  let⟨nc,bm,ae⟩:=F.c ρ w _ len _ n K (ar w) ax bu;let⟨zs,ca,r2,l2⟩:=hnew;have a3:∃ys,(Builtin.firstCells e len (ρ ox)).run P w.drew=.ok (List.toArray ys) w.drew/\f_ m old ys/\old.length=len*e:=by rw[K];apply H.l.h P hm;unfold aj;rw[aN];exact aR
  let⟨os,h1,ro,lo⟩:=a3;rw[h1]at ae;simp only[Wd]at ae;rw[ca]at ae;simp only[Wd,dt]at ae;have rr:=Yn ro r2;have bA:=ro.Z;have bT:=r2.Z;have cb:(List.toArray os++List.toArray zs++Builtin.zeroCells z.cells (nc-(len+n))).size=nc*e:=by simp[kG,F.e,bA,bT,lo,l2,<-Yi];congr 1;omega
  have ci:(len+n) *e<=nc*e:=WW e bm;have a2:=H.u (loc':=⟨w.heap.size,0,nc*e,none⟩) (news:=xs) (w':=w.drew.alloc (.cells (List.toArray os++List.toArray zs++Builtin.zeroCells z.cells (nc-(len+n))) elem)) hm hg a6 (eG ay) bf oM
   ⟨VZ _,by simp[ay,l1];omega⟩
   ⟨_,elem,(0,0),heap_alloc_new w.drew _,by simp only[cb];omega,fun i u hi=>by
    let⟨q,hq,rq⟩:=rr.i i u hi;refine⟨q,?_,rq⟩;have ba:i<(os++zs).length:=(Wk.1 hq).1;simp only[WG];rw[YV (eV ba)];simpa using hq,fun i hi=>by simp⟩
   (.inl ⟨rfl,fun i hi=>heap_alloc_old w.drew _ _ hi⟩) (fun q=>by have:=H.a b ac hm;simp only[]at q;omega) iS iS rfl rfl rfl
  let⟨H',E'⟩:=a2;refine⟨_,_,_,.inl ae,⟨_,av _ _ _,?_,?_⟩,H',E'⟩;simp only[YK];rw[YI _ a1];exact bm;simp only[YK];rw[YI _ a1];rfl
 cases Z;simp only[ak,cond_true]at Z;have ak:=Wh ak;cases af:dy h b (k+len*e) xs with
 |none=>rw[af]at Z;cases Z
 |some h2=>
  rw[af]at Z;simp only[Ws,Wg,WC]at Z;obtain⟨rfl,rfl⟩:=Z;let⟨ys,h1,r1,l1⟩:=az;let⟨w',ae,H',E'⟩:=H.i P hm af r1;have ax:len+n<=(ac.c-k)/e:=by rw[Nat.le_div_iff_mul_le F.d];omega
  refine⟨_,w',m,.inl ?_,⟨ac,hm,ax,rfl⟩,H',E'⟩;rw[F.b ρ w _ len _ n K (ar w) ax,h1];simp only[Wd,iT,XA,ae]
 cases Z;cases Z;simp only[hb,cond_true]at Z;have bi:=Wb hb;subst bi;split at Z;rename_i sl an;simp only[Wg,WC]at Z;obtain⟨rfl,rfl⟩:=Z;let⟨a,c,K⟩:=rx.nonnil an;have bg:sl+0<=c:=by unfold jB at an;split at an;cases an;rename_i cg;unfold T9 at an;split at an;cases an;let⟨_,_,q,e⟩:=rx;rw[K]at e;cases e;exact q;cases an;let⟨_,_,q,e⟩:=rx;rw[K]at e;cases e;exact q;cases an;simp only[l_]at rx;rw[K]at rx;cases rx;omega;cases an;omega;cases an;omega;exact absurd rfl (cg _);cases an
 refine⟨x',w,m,.inl ?_,rx,H,Yo _ _ _⟩;rw[F.b ρ w a sl c 0 (e'.1.trans K) (ar w) bg,e'.2];rw[Ig ry hn esz w,K];cases a<;>simp[storeCells]
 cases Z
end
section
variable {P : Program} {m : M} {h : a_} {w : World}
def tR(ks:Option (List Nat))(a b:V):Option Bool:=
 match ks,a,b with
 |none,.A k a,.A k' b=>bif kX k k' then some (s? a b)else none
 |some ks,.B l,.B l'=>iZ ks l l'
 |_,_,_=>none
def pD(P:Program)(t:TypeId):Option (List Nat)->Bool
 |none=>kV P t 0
 |some ks=>qS P t ks
def pE:Option (List Nat)->V->Bool
 |none,.A _ _=>true
 |some ks,.B l=>Nat.beq l.length ks.length
 |_,_=>false
def gz(ks:Option (List Nat))(key:V):List (V×V×Nat)->Nat->Option (Option (Nat×V))
 |[],_=>some none
 |(k,v,_)::es,i=>match tR ks key k with
  |some true=>some (some (i,v))
  |some false=>gz ks key es (i+1)
  |none=>none
def M_(m:M):List (V×V×Nat)->List MapEntry->Prop
 |[],es'=>es'=[]
 |(k,v,n)::es,es'=>∃e r,es'=e::r/\l_ m k e.key/\l_ m v e.val/\e.born=n/\M_ m es r
def RO(m:M):Option (Nat×V)->Option (Nat×Value)->Prop
 |none,r=>r=none
 |some (i,v),r=>∃x,r=some (i,x)/\l_ m v x
theorem M_.of_get:∀(es:List (V×V×Nat))(es':List MapEntry),es'.length=es.length→(∀(i:Nat) k v n,es[i]? =some (k,v,n)→∃e:MapEntry,es'[i]? =some e∧l_ m k e.key∧l_ m v e.val∧e.born=n)→M_ m es es'
 |[],es',hl,_=>by cases es'<;>simp_all [M_]
 |(k,v,n)::es,[],hl,_=>by simp at hl
 |(k,v,n)::es,e::r,hl,hg=>by let⟨e',h1,h2⟩:=hg 0 k v n rfl;simp at h1;subst h1;exact⟨e,r,rfl,h2.1,h2.2.1,h2.2.2,M_.of_get es r (eV hl) (fun i k v n hi=>by simpa using hg (i+1) k v n (eV hi))⟩
theorem M_.Z:∀{es:List (V×V×Nat)}{es':List MapEntry},M_ m es es'->es'.length=es.length
 |[],_,h=>by simp[M_]at h;subst h;rfl
 |(_,_,_)::_,_,⟨_,_,rfl,_,_,_,t⟩=>by simp[M_.Z t]
theorem M_.i:∀{es:List (V×V×Nat)}{es':List MapEntry},M_ m es es'->∀(i:Nat) k v n,es[i]? =some (k,v,n)->∃e:MapEntry,es'[i]? =some e/\l_ m k e.key/\l_ m v e.val/\e.born=n
 |[],_,_,i,_,_,_,hi=>by simp at hi
 |(_,_,_)::_,_,⟨e,_,rfl,h1,h2,h3,t⟩,0,k,v,n,hi=>by grind
 |(_,_,_)::_,_,⟨_,_,rfl,_,_,_,t⟩,i+1,k,v,n,hi=>by simpa using M_.i t i k v n (eV hi)
theorem Ah{kk:IntKind}{key:V}{x:Value}(rx:l_ m key x):∀(es:List (V×V×Nat))(es':List MapEntry)(i:Nat)(r:Option (Nat×V)),M_ m es es'→
 gz none key es i=some r→∃r',Instr.findNow (.int kk) x es' i=some r'∧RO m r r'
 |[],es',i,r,he,hf=>by simp only[M_]at he;subst he;simp only[gz,Option.some.injEq]at hf;subst hf;exact⟨none,rfl,rfl⟩
 |(k,v,n)::es,es',i,r,he,hf=>by
  obtain⟨e,t,rfl,h1,h2,h3,ht⟩:=he;simp only[gz]at hf;cases hk:tR none key k with
  |none=>rw[hk]at hf;cases hf
  |some b=>
   rw[hk]at hf;have key1:Instr.sameNow (.int kk) x e.key=some b:=by
    cases key<;>cases k<;>simp only[tR]at hk<;>first|(cases hk;done)|skip
    rename_i t1 a t2 b';cases hkb:kX t1 t2;grind;rw[hkb]at hk;simp only[cond_true,Option.some.injEq]at hk;have:=mF hkb;subst this;simp only[l_]at rx h1;rw[rx,h1,←hk,ew];simp[Instr.sameNow]
   cases b;simp only[]at hf;obtain⟨r',f1,f2⟩:=Ah rx es t (i+1) r ht hf;exact⟨r',by simp only[Instr.findNow,key1];exact f1,f2⟩;simp only[Option.some.injEq]at hf;subst hf;exact⟨some (i,e.val),by simp only[Instr.findNow,key1],_,rfl,h2⟩
theorem yg{t:TypeId}{ks:List Nat}(hs:qS P t ks=true){l l':List V}{x y:Value}{r:Bool}(rx:l_ m (.B l) x)(ry:l_ m (.B l') y)(hc:iZ ks l l'=some r)(w:World):
 (Op.equal t x y).run P w=.ok r w:=by
 unfold qS at hs;split at hs;rename_i Z hu;simp at hs;let⟨⟨h1,h2⟩,h3⟩:=hs;obtain⟨xs,rfl,ae⟩:=rx;obtain⟨ys,rfl,ac⟩:=ry;have K:P.fieldsOf t=Z:=by unfold Program.fieldsOf;rw[hu]
 show(Op.equalIn (9999+1) t (.agg (List.toArray xs)) (.agg (List.toArray ys))).run P w=.ok r w;rw[run_equalIn_struct w 9999 t _ _ (by rw[K];exact hu) h1,K];exact uz 9998 ks Z.toList 0 xs ys l l' r h3 (by simpa using ae) (by simpa using ac) hc;cases hs
theorem qZ{t:TypeId}{ks:List Nat}(hs:qS P t ks=true){key:V}{x:Value}(rx:l_ m key x)(w:World):∀(es:List (V×V×Nat))(es':List MapEntry)(i:Nat)(r:Option (Nat×V)),M_ m es es'→
 gz (some ks) key es i=some r→∃r',(Instr.findAsking t x es' i).run P w=.ok r' w∧RO m r r'
 |[],es',i,r,he,hf=>by simp only[M_]at he;subst he;simp only[gz,Option.some.injEq]at hf;subst hf;exact⟨none,rfl,rfl⟩
 |(k,v,n)::es,es',i,r,he,hf=>by
  obtain⟨e,u,rfl,h1,h2,h3,ht⟩:=he;simp only[gz]at hf;cases hk:tR (some ks) key k with
  |none=>rw[hk]at hf;cases hf
  |some b=>
   rw[hk]at hf;have key1:(Op.equal t x e.key).run P w=.ok b w:=by
    cases key<;>cases k<;>simp only[tR]at hk<;>first|(cases hk;done)|skip
    exact yg hs rx h1 hk w
   cases b;simp only[]at hf;let⟨r',f1,f2⟩:=qZ hs rx w es u (i+1) r ht hf;exact⟨r',by simp[Instr.findAsking,key1,f1],f2⟩;simp only[Option.some.injEq]at hf;subst hf;exact⟨some (i,e.val),by simp[Instr.findAsking,key1],_,rfl,h2⟩
theorem q8{t:TypeId}{ks:Option (List Nat)}(hs:pD P t ks=true){key:V}{x:Value}(rx:l_ m key x)(w:World){es:List (V×V×Nat)}{K:List MapEntry}{r:Option (Nat×V)}(he:M_ m es K)
 (hf:gz ks key es 0=some r):∃r',(Instr.findKey t x K).run P w=.ok r' w/\RO m r r':=by
 cases ks with
 |none=>
  simp[pD,kV]at hs;split at hs;all_goals first|(cases hs;done)|skip
  rename_i kk _ hu;let⟨r',f1,f2⟩:=Ah (kk:=kk) rx es K 0 r he hf;refine⟨r',?_,f2⟩;simp[Instr.findKey,aD hu,f1];all_goals (rename_i h0 _;cases h0)
 |some ks=>
  simp[pD]at hs;let⟨r',f1,f2⟩:=qZ hs rx w es K 0 r he hf;have hu:∃Z,P.underlying t=some (.struct Z):=by unfold qS at hs;split at hs;grind;cases hs
  let⟨Z,hu⟩:=hu;cases K with
  |nil=>
   refine⟨r',?_,f2⟩;have:r'=none:=by simp[Instr.findAsking]at f1;exact f1.symm
   subst this;simp[Instr.findKey,aD hu,Instr.findNow]
  |cons e u=>
   refine⟨r',?_,f2⟩;have hn:Instr.findNow (.struct Z) x (e::u) 0=none:=by simp[Instr.findNow,Instr.sameNow]
   simp[Instr.findKey,aD hu,hn,f1]
theorem nK{t:TypeId}{k:Nat}(Z:kV P t k=true)(e:Bool)(n:Nat)(x:Value)(w:World):(Instr.checkKey e (n+1) t x).run P w=.ok () w:=by
 unfold kV at Z;split at Z;all_goals first|(cases Z;done)|skip
 all_goals
  rename_i K;simp only[Instr.checkKey,Wm,aD K,Wd];cases x<;>rfl
theorem rE{cs:List Value}(e:Bool)(n:Nat)(w:World):∀(ks:List Nat)(fs:List Field)(j:Nat),jA P j fs ks=true→j+ks.length≤cs.length→
 (forIn (m:=Sem) fs PUnit.unit (fun f _=>do
  if f.name≠ "_" then Instr.checkKey e (n+1) f.type (←part f.type (List.toArray cs) f.offset)
  pure (ForInStep.yield PUnit.unit))).run P w=.ok PUnit.unit w
 |[],[],j,_,_=>by simp
 |[],_::_,_,hf,_=>by simp[jA]at hf
 |_::_,[],_,hf,_=>by simp[jA]at hf
 |k::ks,f::fs,j,hf,hl=>by
  simp only[jA,Bool.and_eq_true,Bool.not_eq_true',beq_eq_false_iff_ne]at hf;let⟨⟨⟨hname,hoff⟩,hleaf⟩,hrest⟩:=hf;have hoff:=Nat.eq_of_beq_eq_true hoff;have hagg:=zM hleaf;simp only[List.length_cons]at hl;have hj:j<cs.length:=oM;have hp:(part f.type (List.toArray cs) f.offset).run P w=.ok cs[j] w:=by simp[part,jo hagg,hoff,hj]
  have ih:=rE (cs:=cs) e n w ks fs (j+1) hrest oM;simp only[List.forIn_cons,Sem.run_bind,hname,ne_eq,not_false_eq_true,if_true,Result.andThen_ok,hp,nK hleaf,Sem.run_pure];exact ih
theorem pR{t:TypeId}{ks:Option (List Nat)}(K:pD P t ks=true){key:V}{x:Value}(rx:l_ m key x)(hf:pE ks key=true)(e:Bool)(w:World):(Instr.checkKey e 10000 t x).run P w=.ok () w:=by
 cases ks with
 |none=>exact nK K e 9999 x w
 |some ks=>
  cases key<;>simp only[pE]at hf<;>first|(cases hf;done)|skip
  rename_i l;have hf:=Wb hf;obtain⟨xs,rfl,ac⟩:=rx;simp[pD,qS]at K;split at K;rename_i Z hu;simp at K;have hx:=ac.Z;show(Instr.checkKey e (9998+1+1) t _).run P w=_;rw[Instr.checkKey];simp only[Wm,aD hu,Wd];rw[<-Array.forIn_toList];have:=rE (P:=P) (cs:=xs) e 9998 w ks Z.toList 0 K.2 oM;simp only[ne_eq,seval]at this|-;rw[this];rfl;cases K
end
mutual
def R1:V->V->Bool
 |.h a,.h b=> !(xor a b)
 |.A k n,.A k' n'=>kX k k'&&s? n n'
 |.f s,.f t=>s==t
 |.O,.O=>true
 |.u b o,.u b' o'=>Nat.beq b b'&&Nat.beq o o'
 |.r,.r=>true
 |.y b o l c,.y b' o' l' c'=>Nat.beq b b'&&Nat.beq o o'&&Nat.beq l l'&&Nat.beq c c'
 |.G b o l c,.G b' o' l' c'=>Nat.beq b b'&&Nat.beq o o'&&Nat.beq l l'&&Nat.beq c c'
 |.L,.L=>true
 |.nilm,.nilm=>true
 |.map b,.map b'=>Nat.beq b b'
 |.R,.R=>true
 |.E f a c,.E f' a' c'=>decide (f=f')&&nL a a'&&nL c c'
 |.nili,.nili=>true
 |.iface t v,.iface t' v'=>Nat.beq t t'&&R1 v v'
 |.B l,.B l'=>nL l l'
 |.D l,.D l'=>nL l l'
 |.yld b,.yld b'=>Nat.beq b b'
 |.sliceZ a c,.sliceZ a' c'=>decide (a=a')&&Nat.beq c c'
 |_,_=>false
def nL:List V->List V->Bool
 |[],[]=>true
 |v::vs,u::us=>R1 v u&&nL vs us
 |_,_=>false
end
mutual
theorem qe:∀(a b:V),R1 a b=true→a=b
 |.h a,b,h=>by cases b<;>simp[R1]at h;rename_i b;cases a<;>cases b<;>simp_all
 |.A k n,b,h=>by cases b<;>simp[R1]at h;rename_i k' n';have:=mF h.1;subst this;have h2:=h.2;rw[ew]at h2;simp at h2;subst h2;rfl
 |.f s,b,h=>by cases b<;>simp[R1]at h;subst h;rfl
 |.O,b,h=>by cases b<;>simp[R1]at h;rfl
 |.u p o,b,h=>by cases b<;>simp[R1]at h;obtain⟨rfl,rfl⟩:=h;rfl
 |.r,b,h=>by cases b<;>simp[R1]at h;rfl
 |.y p o l c,b,h=>by cases b<;>simp[R1]at h;obtain⟨⟨⟨rfl,rfl⟩,rfl⟩,rfl⟩:=h;rfl
 |.G p o l c,b,h=>by cases b<;>simp[R1]at h;obtain⟨⟨⟨rfl,rfl⟩,rfl⟩,rfl⟩:=h;rfl
 |.L,b,h=>by cases b<;>simp[R1]at h;rfl
 |.nilm,b,h=>by cases b<;>simp[R1]at h;rfl
 |.map p,b,h=>by cases b<;>simp[R1]at h;subst h;rfl
 |.R,b,h=>by cases b<;>simp[R1]at h;rfl
 |.E f x y,b,h=>by cases b<;>simp only[R1,Bool.false_eq_true]at h;simp only[Bool.and_eq_true,decide_eq_true_eq]at h;obtain⟨⟨rfl,h1⟩,h2⟩:=h;rw[lY _ _ h1,lY _ _ h2]
 |.nili,b,h=>by cases b<;>simp[R1]at h;rfl
 |.iface t v,b,h=>by cases b<;>simp only[R1,Bool.false_eq_true]at h;simp only[Bool.and_eq_true]at h;rw[Nat.eq_of_beq_eq_true h.1,qe _ _ h.2]
 |.B l,b,h=>by cases b<;>simp only[R1,Bool.false_eq_true]at h;rw[lY _ _ h]
 |.D l,b,h=>by cases b<;>simp only[R1,Bool.false_eq_true]at h;rw[lY _ _ h]
 |.yld p,b,h=>by cases b<;>simp[R1]at h;subst h;rfl
 |.sliceZ a c,b,h=>by cases b<;>simp[R1]at h;obtain⟨rfl,rfl⟩:=h;rfl
theorem lY:∀(a b:List V),nL a b=true->a=b
 |[],[],_=>rfl
 |[],_::_,h=>by simp[nL]at h
 |_::_,[],h=>by simp[nL]at h
 |v::vs,u::us,h=>by simp[nL]at h;rw[qe v u h.1,lY vs us h.2]
end
section
variable {P : Program} {m : M} {h : a_} {w : World}
def JN:V->Bool
 |.A _ _=>true
 |.h _=>true
 |.f _=>true
 |_=>false
def ny:Option (List Nat)->V->Bool
 |some ks,.B l=>Nat.beq l.length ks.length&&l.all JN
 |ks,v=>pE ks v
theorem tQ{ks:Option (List Nat)}{v:V}(h:ny ks v=true):pE ks v=true:=by unfold ny at h;split at h;simp only[VY]at h;exact h.1;exact h
theorem vU{v:V}{x y:Value}(Z:JN v=true)(rx:l_ m v x)(K:l_ m v y)(n:Nat):x=y/\Instr.sameBits n x y=true:=by
 cases v<;>simp only[JN]at Z<;>first|(cases Z;done)|skip
 all_goals
  simp only[l_]at rx K;subst rx;subst K;refine⟨rfl,?_⟩;cases n<;>simp[Instr.sameBits,beq_toListBytes]
theorem s9(n:Nat):∀(l:List V)(xs ys:List Value),l.all JN=true→f_ m l xs→f_ m l ys→xs=ys∧((xs.zip ys).all fun p=>Instr.sameBits n p.1 p.2)=true
 |[],xs,ys,_,hx,hy=>by simp only[f_]at hx hy;subst hx;subst hy;exact⟨rfl,rfl⟩
 |v::l,xs,ys,hs,⟨x,xs',e1,r1,t1⟩,⟨y,ys',e2,r2,t2⟩=>by subst e1;subst e2;simp only[List.all_cons,Bool.and_eq_true]at hs;let⟨a,b⟩:=vU hs.1 r1 r2 n;let⟨c,d⟩:=s9 n l xs' ys' hs.2 t1 t2;exact⟨by rw[a,c],by simp only[List.zip_cons_cons,List.all_cons,b,d];rfl⟩
theorem HS{ks:Option (List Nat)}{v:V}{x y:Value}(Z:ny ks v=true)(rx:l_ m v x)(ry:l_ m v y):Instr.sameBits 10000 x y=true:=by unfold ny at Z;split at Z;rename_i ks l;simp only[VY]at Z;obtain⟨xs,rfl,ac⟩:=rx;obtain⟨ys,rfl,K⟩:=ry;let⟨a,b⟩:=s9 9999 l xs ys Z.2 ac K;subst a;show Instr.sameBits (9999+1) _ _=true;simp only[Instr.sameBits,VY];exact⟨iS,by simpa using b⟩;rename_i ae;unfold pE at Z;split at Z;exact(vU rfl rx ry 10000).2;grind;cases Z
def m9(h:a_):a_:=⟨h.S.A_ h.e (.f [] 0),h.e+1,h.Q⟩
theorem r_.x(H:r_ m h w):r_ (eh m h.e ⟨w.heap.size,0,0,none⟩) (m9 h) (w.alloc (.map #[] 0))/\P5 m h w (eh m h.e ⟨w.heap.size,0,0,none⟩) (m9 h) (w.alloc (.map #[] 0)):=by
 have ae:=H.f ⟨w.heap.size,0,0,none⟩;refine⟨⟨⟨?_,?_⟩,?_,?_,?_⟩,⟨ae,?_,ZB _,?_,iS,?_,rfl,rfl,rfl,b?.d m _ _ rfl,fun b hb=>YR (heap_alloc_old w _ _ hb),pz rfl⟩⟩;intro p cp f k Z;show match h.Q.c_ f with|none=>f=p|some (_,e)=>k<=e
 rw[m9,Xr]at Z;by_cases e:p=h.e;grind;rw[if_neg e]at Z;exact H.g.b _ _ _ _ Z;intro p Z;have af:h.e+1<=p:=Z;refine⟨?_,(H.g.a p oM).2⟩;rw[m9,We _ _ oM];exact(H.g.a p oM).1;intro p K Z;by_cases e:p=h.e;subst e;rw[av]at Z;cases Z;exact⟨.f [] 0,by rw[m9,WI],[],heap_alloc_new w _,rfl,fun i k v n hi=>by simp at hi⟩;rw[aE _ _ e]at Z;let⟨b,hb,r⟩:=H.c p K Z;refine⟨b,by rw[m9,We _ _ e];exact hb,r.mono ae (fun _ _ _ _ x=>x) (heap_alloc_old w _ _ (H.a p K Z))⟩;intro p K Z;by_cases e:p=h.e;subst e;rw[av]at Z;cases Z;simp;rw[aE _ _ e]at Z;have:=H.a p K Z;simp;omega;intro p q lp lq Z hq he ac;by_cases e:p=h.e;subst e;rw[av]at Z;cases Z;rw[aE _ _ (XK ac)]at hq;have:=H.a q lq hq;simp at he;omega;rw[aE _ _ e]at Z;by_cases e2:q=h.e;subst e2;rw[av]at hq;cases hq;have:=H.a p lp Z;simp at he;omega;rw[aE _ _ e2]at hq;let⟨cp,cq,f,kp,kq,a,b,d⟩:=H.d p q lp lq Z hq he ac;exact⟨cp,cq,f,kp,kq,by rw[m9,We _ _ e];exact a,by rw[m9,We _ _ e2];exact b,d⟩;intro p K Z hn;by_cases e:p=h.e;subst e;rw[av]at Z;cases Z;exact⟨VZ _,.inl (VZ _)⟩;rw[aE _ _ e]at Z;rw[Z]at hn;cases hn;intro p _ Z;rw[m9,We _ _ oM];intro b _ hb;exact heap_alloc_old w _ _ hb
def kD(h:a_)(b:Nat)(es:List (V×V×Nat))(clock:Nat):a_:=⟨h.S.A_ b (.f es clock),h.e,h.Q⟩
theorem r_.z(H:r_ m h w){b:Nat}{ac:V3}(hm:m b=some ac){aH:List (V×V×Nat)}{c0:Nat}(hb:h.S.c_ b=some (.f aH c0)){es:List (V×V×Nat)}{ae:List MapEntry}(Z:Nat)(he:M_ m es ae):
 r_ m (kD h b es Z) {w with heap:=w.heap.setIfInBounds ac.a (.map (List.toArray ae) Z)}/\
 P5 m h w m (kD h b es Z) {w with heap:=w.heap.setIfInBounds ac.a (.map (List.toArray ae) Z)}:=by
 have ay:=H.a b ac hm;have af:∀p lp,m p=some lp->p≠b->lp.a≠ac.a:=by intro p lp K ar an;let⟨cp,cq,f,kp,kq,a1,a2,_⟩:=H.d p b lp ac K hm an ar;rw[hb]at a2;cases a2
 refine⟨⟨⟨?_,?_⟩,?_,?_,?_⟩,⟨fun _ _ x=>x,fun p l a c=>(by rw[a]at c;cases c),VZ _,?_,iS,?_,rfl,rfl,rfl,fun _ _ _ x=>x,?_,fun _ _ a b=>by simp[a]at b⟩⟩;intro p cp f k K;show match h.Q.c_ f with|none=>f=p|some (_,e)=>k<=e
 rw[kD,Xr]at K;by_cases e:p=b;grind;rw[if_neg e]at K;exact H.g.b _ _ _ _ K;intro p K;have ax:=H.g.a p K;have az:p≠b:=by grind
 exact⟨by rw[kD,We _ _ az];exact ax.1,ax.2⟩;intro p lp K;by_cases e:p=b;subst e;rw[hm]at K;cases K;refine⟨.f es Z,by rw[kD,WI],ae,by simp[ay],he.Z,he.i⟩;let⟨bk,ak,r⟩:=H.c p lp K;refine⟨bk,by rw[kD,We _ _ e];exact ak,r.mono (fun _ _ x=>x) (fun _ _ _ _ x=>x) ?_⟩;have:=af p lp K e;simp[XK this];intro p lp K;have:=H.a p lp K;simpa using this;intro p q lp lq K hq an ar;let⟨cp,cq,f,kp,kq,a1,a2,a3⟩:=H.d p q lp lq K hq an ar;have h1:p≠b:=by grind
 have h2:q≠b:=by grind
 exact⟨cp,cq,f,kp,kq,by rw[kD,We _ _ h1];exact a1,by rw[kD,We _ _ h2];exact a2,a3⟩;intro p hn K;have h1:p≠b:=by grind
 rw[kD,We _ _ h1];grind;intro g aR;by_cases h4:g=ac.a;subst h4;let⟨bk,ak,rel⟩:=H.c b ac hm;rw[hb]at ak;cases ak;let⟨aN,aJ,_⟩:=rel;intro x hx;rw[aJ]at hx;cases hx;exact⟨.map (List.toArray ae) Z,by simp[ay],trivial⟩;exact YR (by simp[XK h4])
def amm(h:a_):List V->Option (V×a_)
 |[]=>some (.map h.e,m9 h)
 |[.A _ _]=>some (.map h.e,m9 h)
 |_=>none
def IF(P:Program)(op:Op):Bool:=match op with
 |.makeMap t _=>(match P.underlying t with|some (.map _ _)=>true|_=>false)
 |_=>false
theorem Fo(H:r_ m h w){o:Oper}{ρ:Operand->Value}{vs:List V}{v:V}{h':a_}(hc:IF P o.op=true)(hv:f_ m vs (OV ρ o.op))(K:amm h vs=some (v,h')):MS P m h w o ρ v h':=by
 unfold IF at hc;split at hc;rename_i t r hy;split at hc;rename_i kt et hu;let⟨H',E'⟩:=H.x;rw[hy]at hv;have run:∀q:Option Value,(∀y,q=some y->∃k n,y=.int k n)->(Instr.makeMap t q).run P w=.ok (.map (some w.heap.size)) (w.alloc (.map #[] 0)):=by
  intro q Z;cases q with
  |none=>simp[Instr.makeMap]
  |some y=>obtain⟨k,n,rfl⟩:=Z y rfl;simp[Instr.makeMap,aD hu,asInt,asIntOf]
 have go:(∀y,r.map ρ=some y->∃k n,y=.int k n)->v=.map h.e->h'=m9 h->MS P m h w o ρ v h':=by rintro Z rfl rfl;refine⟨_,_,_,.inl ?_,⟨_,av _ _ _,rfl⟩,H',E'⟩;simp[execOp,hy,run _ Z]
 unfold amm at K;split at K;cases K;refine go (fun y Z=>?_) rfl rfl;cases r with
 |none=>cases Z
 |some a=>simp[Op.operands,f_]at hv
 rename_i k n;cases K;refine go (fun y Z=>?_) rfl rfl;cases r with
 |none=>cases Z
 |some a=>let⟨x,e,rx⟩:=bY hv;simp[Op.operands]at e;simp at Z;simp[l_]at rx;exact⟨k,n,by rw[<-Z,e,rx]⟩
 cases K;cases hc;cases hc
def FX(P:Program)(t:TypeId)(z:V):Bool:=match P.info? t with
 |some i=>match i.zero with
  |some x=>W5 z x
  |none=>false
 |none=>false
theorem Ea{t:TypeId}{z:V}(Z:FX P t z=true)(w:World):∃x,(zeroValue t).run P w=.ok x w/\l_ m z x:=by unfold FX at Z;split at Z;rename_i i K;split at Z;rename_i x hx;exact⟨x,by simp[zeroValue,dU K,hx],xx m _ _ Z⟩;cases Z;cases Z
def BH(h:a_):V->Option (List (V×V×Nat))
 |.nilm=>some []
 |.map b=>match h.S.c_ b with
  |some (.f es _)=>some es
  |_=>none
 |_=>none
def alk(h:a_)(ks:Option (List Nat))(zero:V)(ok:Bool)(x key:V):Option V:=
 match BH h x with
 |some es=>bif ny ks key then
  match gz ks key es 0 with
  |some (some (_,v))=>some (bif ok then .D [v,.h true]else v)
  |some none=>some (bif ok then .D [zero,.h false]else zero)
  |none=>none
  else none
 |none=>none
def IG(P:Program)(op:Op)(ks:Option (List Nat))(zero:V)(ok:Bool):Bool:=match op with
 |.lookup t _ _ ok'=>(ok==ok')&&(match P.underlying t with|some (.map k e)=>pD P k ks&&FX P e zero|_=>false)
 |_=>false
theorem Fq(H:r_ m h w){o:Oper}{ρ:Operand->Value}{ks:Option (List Nat)}{zero:V}{ok:Bool}{x key v:V}(hc:IG P o.op ks zero ok=true)(hv:f_ m [x,key] (OV ρ o.op))
 (K:alk h ks zero ok x key=some v):MS P m h w o ρ v h:=by
 unfold IG at hc;split at hc;rename_i t a b ok' hy;simp at hc;obtain⟨ay,hc⟩:=hc;subst ay;split at hc;rename_i kt et hu;simp at hc;obtain⟨hk,hz⟩:=hc;obtain⟨x',y',e',rx,ry⟩:=cI hv;rw[hy]at e';change[ρ a,ρ b]=[x',y']at e';simp at e';unfold alk at K;split at K;rename_i es Z;cases ax:ny ks key;grind;rw[ax]at K;simp at K;have ar:=fun e=>pR (P:=P) hk ry (tQ ax) e w;obtain⟨zx,an,rz⟩:=Ea (m:=m) hz w;have ae:∀ac:List MapEntry,M_ m es ac->(∀r',(Instr.findKey kt y' ac).run P w=.ok r' w->(Instr.lookup t x' y' ok).run P w=.ok (match r' with
  |some (_,u)=>if ok then .tuple #[u,.bool true]else u
  |none=>if ok then .tuple #[zx,.bool false]else zx) w)->MS P m h w o ρ v h:=by
  intro ac he af;cases hf:gz ks key es 0 with
  |none=>rw[hf]at K;cases K
  |some r=>
   rw[hf]at K;obtain⟨r',f1,f2⟩:=q8 hk ry w he hf;have hl:=af r' f1;cases r with
   |none=>simp[RO]at f2;subst f2;simp at K;subst K;refine⟨if ok then .tuple #[zx,.bool false]else zx,w,m,.inl ?_,?_,H,Yo _ _ _⟩;simp[execOp,hy,e'.1,e'.2,hl];cases ok;exact rz;exact⟨[zx,.bool false],rfl,zx,_,rfl,rz,_,_,rfl,rfl,rfl⟩
   |some p=>obtain⟨i,u⟩:=p;obtain⟨ux,rfl,ru⟩:=f2;simp at K;subst K;refine⟨if ok then .tuple #[ux,.bool true]else ux,w,m,.inl ?_,?_,H,Yo _ _ _⟩;simp[execOp,hy,e'.1,e'.2,hl];cases ok;exact ru;exact⟨[ux,.bool true],rfl,ux,_,rfl,ru,_,_,rfl,rfl,rfl⟩
 unfold BH at Z;split at Z;cases Z;simp[l_]at rx;subst rx;refine ae [] rfl (fun r' hr=>?_);simp only[Instr.lookup,Wm,aD hu,Wd,Wx,ar,hr];cases r' with
 |none=>simp[an]
 |some p=>simp
 rename_i b';split at Z;rename_i aH cl hb;cases Z;obtain⟨az,hm,rfl⟩:=rx;obtain⟨bk,ak,rel⟩:=H.c b' az hm;rw[hb]at ak;cases ak;obtain⟨ac,g1,g2,g3⟩:=rel;refine ae ac (M_.of_get _ _ g2 g3) (fun r' hr=>?_);simp only[Instr.lookup,Wm,aD hu,Wd,Wx,Go.MapKept.run_getObj_map g1,ar,hr];cases r' with
 |none=>simp[an]
 |some p=>simp
 cases Z;cases Z;cases K;cases hc;cases hc
def amu(h:a_)(ks:Option (List Nat))(x key val:V):Option (V×a_):=
 match x with
 |.map b=>match h.S.c_ b with
  |some (.f es clock)=>bif ny ks key then
   match gz ks key es 0 with
   |some (some (i,_))=>match es[i]? with
    |some (k,_,n)=>bif R1 key k then some (.D [],kD h b (es.set i (key,val,n)) clock)else none
    |none=>none
   |some none=>some (.D [],kD h b (es++[(key,val,clock)]) (clock+1))
   |none=>none
   else none
  |_=>none
 |_=>none
def ID(P:Program)(op:Op)(ks:Option (List Nat)):Bool:=match op with
 |.mapUpdate t _ _ _=>(match P.underlying t with|some (.map k _)=>pD P k ks|_=>false)
 |.insert t _ _ _=>(match P.underlying t with|some (.map k _)=>pD P k ks|_=>false)
 |_=>false
theorem M_.append{es es2:List (V×V×Nat)}{es' es2':List MapEntry}(a:M_ m es es')(b:M_ m es2 es2'):M_ m (es++es2) (es'++es2'):=by
 induction es generalizing es' with
 |nil=>simp[M_]at a;subst a;exact b
 |cons p es ih=>let⟨k,v,n⟩:=p;obtain⟨e,r,rfl,h1,h2,h3,t⟩:=a;exact⟨e,r++es2',rfl,h1,h2,h3,ih t⟩
theorem M_.set{es:List (V×V×Nat)}{es':List MapEntry}(a:M_ m es es'){i:Nat}{k v:V}{n:Nat}{e:MapEntry}(h1:l_ m k e.key)(h2:l_ m v e.val)(h3:e.born=n):M_ m (es.set i (k,v,n)) (es'.set i e):=by
 induction es generalizing es' i with
 |nil=>simp[M_]at a;subst a;simp[M_]
 |cons p es ih=>
  let⟨k0,v0,n0⟩:=p;obtain⟨e0,r,rfl,g1,g2,g3,t⟩:=a;cases i with
  |zero=>exact⟨e,r,rfl,h1,h2,h3,t⟩
  |succ i=>exact⟨e0,r.set i e,rfl,g1,g2,g3,ih t⟩
theorem Fi(H:r_ m h w){o:Oper}{ρ:Operand->Value}{ks:Option (List Nat)}{x key val v:V}{h':a_}(hc:ID P o.op ks=true)(hv:f_ m [x,key,val] (OV ρ o.op))
 (K:amu h ks x key val=some (v,h')):MS P m h w o ρ v h':=by
 have ae:∀(t:TypeId)(a b c:Operand),(execOp ρ o).run P w=((Instr.mapUpdate t (ρ a) (ρ b) (ρ c)).run P w).andThen (fun _ w'=>.ok .skip w')->OV ρ o.op=[ρ a,ρ b,ρ c]->
  (∃kt et,P.underlying t=some (.map kt et)/\pD P kt ks=true)->MS P m h w o ρ v h':=by
  rintro t a b c ay an ⟨kt,et,hu,hk⟩;rw[an]at hv;let⟨x',y',z',e',rx,ry,rz⟩:=sF hv;simp at e';unfold amu at K;split at K;rename_i b';split at K;rename_i es Z hb;cases ak:ny ks key;grind;rw[ak]at K;simp at K;have az:=fun e=>pR (P:=P) hk ry (tQ ak) e w;obtain⟨aN,hm,rfl⟩:=rx;let⟨bk,ax,rel⟩:=H.c b' aN hm;rw[hb]at ax;cases ax;let⟨ac,g1,g2,g3⟩:=rel;have he:=M_.of_get _ _ g2 g3;cases hf:gz ks key es 0 with
  |none=>rw[hf]at K;cases K
  |some r=>
   rw[hf]at K;let⟨r',f1,f2⟩:=q8 hk ry w he hf;cases r with
   |none=>simp[RO]at f2;subst f2;simp at K;obtain⟨rfl,rfl⟩:=K;have af:M_ m (es++[(key,val,Z)]) (ac++[{key:=y',val:=z',born:=Z}]):=he.append ⟨_,_,rfl,ry,rz,rfl,rfl⟩;let⟨H',E'⟩:=H.z hm hb (Z+1) af;refine⟨undef,_,m,.inr ⟨?_,rfl⟩,⟨[],rfl,rfl⟩,H',E'⟩;rw[ay,e'.1,e'.2.1,e'.2.2];simp[Instr.mapUpdate,aD hu,Go.MapKept.run_getObj_map g1,az,f1,Go.MapKept.run_setObj_map _ g1]
   |some p=>
    let⟨i,u⟩:=p;obtain⟨ux,rfl,ru⟩:=f2;simp at K;split at K;rename_i k0 v0 n0 hi;cases hq:R1 key k0;grind;rw[hq]at K;simp at K;obtain⟨rfl,rfl⟩:=K;have:=qe _ _ hq;subst this;let⟨e0,q1,q2,q3,q4⟩:=he.i i _ _ _ hi;have aJ:=HS ak q2 ry;have af:M_ m (es.set i (key,val,n0)) (ac.set i {e0 with key:=y',val:=z'}):=he.set ry rz q4;let⟨H',E'⟩:=H.z hm hb Z af;refine⟨undef,_,m,.inr ⟨?_,rfl⟩,⟨[],rfl,rfl⟩,H',E'⟩;rw[ay,e'.1,e'.2.1,e'.2.2];have ar:(List.toArray ac).modify i (fun e=>{e with key:=y',val:=z'})=List.toArray (ac.set i {e0 with key:=y',val:=z'}):=by grind
    have aH:(List.toArray ac)[i]? =some e0:=by simpa using q1
    simp only[Instr.mapUpdate,Wm,aD hu,Wd,Go.MapKept.run_getObj_map g1,az,f1,aH,Ws,Zb,Instr.keyThatStays,aJ,if_true,Wx,ar,Go.MapKept.run_setObj_map _ g1];cases K
  cases K;cases K
 unfold ID at hc;split at hc;rename_i t a b c hy;split at hc;rename_i kt et hu;refine ae t a b c ?_ (by rw[hy];rfl) ⟨kt,et,hu,hc⟩;simp[execOp,hy];cases hc;rename_i t a b c hy;split at hc;rename_i kt et hu;refine ae t a b c ?_ (by rw[hy];rfl) ⟨kt,et,hu,hc⟩;simp[execOp,hy];cases hc;cases hc
end
section
variable {P : Program} {m : M} {h : a_} {w : World}
def B3(h:a_)(zero:List V)(d:V):Option (V×a_):=
 match d with
 |.r=>some (.D [],h)
 |.L=>some (.D [],h)
 |.y b o n _=>bif Nat.beq n 0 then some (.D [],h)else(dy h b o (bq zero n)).map fun h'=>(.D [],h')
 |.G b o n _=>bif Nat.beq n 0 then some (.D [],h)else(dy h b o (bq zero n)).map fun h'=>(.D [],h')
 |_=>none
def BS(P:Program)(op:Op)(zero:List V):Bool:=match fZ op .clear with
 |some (args,ts)=>Nat.beq args.size 1&&(match ts[0]? with
  |some t=>(match P.underlying t with|some (.slice e)=>jU P e zero|_=>false)
  |none=>false)
 |none=>false
theorem Hx{op:Op}{b:Builtin}{args:Array Operand}{ts:Array TypeId}(hcl:fZ op b=some (args,ts))(h:args.size=1):∃x,op=.call {callee:=.builtin b,args:= #[x],argTypes:=ts}:=by
 unfold fZ at hcl;split at hcl;rename_i b' args' ts';split at hcl;rename_i hb;subst hb;simp at hcl;obtain⟨rfl,rfl⟩:=hcl;let⟨l⟩:=args';match l,h with
 |[x],_=>exact⟨x,rfl⟩
 cases hcl;cases hcl
theorem B1(H:r_ m h w){o:Oper}{ρ:Operand->Value}{zero:List V}{d v:V}{h':a_}(hc:BS P o.op zero=true)(hv:f_ m [d] (OV ρ o.op))
 (hs:B3 h zero d=some (v,h')):MS P m h w o ρ v h':=by
 unfold BS at hc;split at hc;rename_i az ts ax;simp only[VY]at hc;let⟨ar,ht⟩:=hc;split at ht;rename_i t ak;split at ht;rename_i e hu;let⟨x,hy⟩:=Hx ax (Wb ar);let⟨x',e',rx⟩:=bY hv;rw[hy]at e';change[ρ x]=[x']at e';simp at e';let⟨z,hz,ay⟩:=jF (w:=w) ht;have rz:f_ m zero z.cells.toList:=dE m _ _ ay;have an:(execOp ρ o).run P w=((Builtin.clear_ ts o.type #[x']).run P w).andThen fun y w'=>.ok (.value y) w':=by simp[execOp,hy,resolve,invoke,builtin,e']
 have af:(∃c,x'=.slice none 0 c)\/(∃a c,x'=.slice a 0 c)->v=.D []->h'=h->MS P m h w o ρ v h':=by rintro hx rfl rfl;refine⟨.tuple #[],w,m,.inl ?_,⟨[],rfl,rfl⟩,H,Yo _ _ _⟩;rw[an];obtain⟨c,rfl⟩|⟨a,c,rfl⟩:=hx;simp[Builtin.clear_,ak,aD hu];cases a<;>simp[Builtin.clear_,ak,aD hu]
 have st:∀b k n c K,m b=some K->x'=.slice (some ⟨K.a,K.b+k,none⟩) n c->(bif Nat.beq n 0 then some (V.D [],h)else(dy h b k (bq zero n)).map fun h'=>(V.D [],h'))=some (v,h')->MS P m h w o ρ v h':=by
  intro b k n c K hm hx Z;cases hb:Nat.beq n 0;rw[hb]at Z;simp only[cond_false]at Z;cases ac:dy h b k (bq zero n)with
  |none=>rw[ac]at Z;cases Z
  |some h2=>
   rw[ac]at Z;simp at Z;obtain⟨rfl,rfl⟩:=Z;have rel:=lQ rz n;let⟨w',ae,H',E'⟩:=H.i P hm ac rel;refine⟨.tuple #[],w',m,.inl ?_,⟨[],rfl,rfl⟩,H',E'⟩;rw[an,hx];have hn:n≠0:=by intro q;subst q;cases hb
   obtain⟨n',rfl⟩:=Nat.exists_eq_succ_of_ne_zero hn;simp only[Builtin.clear_,ak,Wm,aD hu,Wd,YL,YC,hz,Builtin.zeroCells,Wx];have e1:z.cells.size=z.cells.toList.length:=by simp
   rw[e1,(iS:z.cells=z.cells.toList.toArray)];simp only[List.size_toArray]at ae|-;rw[ae];rfl
  rw[hb]at Z;simp at Z;have:=Wb hb;subst this;exact af (.inr ⟨_,_,hx⟩) Z.1.symm Z.2.symm
 unfold B3 at hs;split at hs;cases hs;exact af (.inl ⟨0,rx⟩) rfl rfl;cases hs;let⟨a,c,hx⟩:=rx;exact af (.inr ⟨_,_,hx⟩) rfl rfl;let⟨K,hm,_,hx⟩:=rx;exact st _ _ _ _ K hm hx hs;let⟨K,hm,_,hx⟩:=rx;exact st _ _ _ _ K hm hx hs;cases hs;cases ht;cases ht;cases hc
end
section
variable {P : Program} {m : M} {h : a_} {w : World}
def gh:List V->Option (List UInt8)
 |[]=>some []
 |.A .u8 n::l=>match gh l with
  |some s=>some (UInt8.ofNat n.toNat::s)
  |none=>none
 |_=>none
def yE(h:a_)(x:V):Option V:=
 match x with
 |.r=>some (.f [])
 |.y b o n _=>match aj h b o n with
  |some cs=>(gh cs).map .f
  |none=>none
 |.G b o n _=>match aj h b o n with
  |some cs=>(gh cs).map .f
  |none=>none
 |_=>none
def BT(P:Program)(op:Op):Bool:=match op with
 |.convert src dst _=>(match P.underlying src,P.underlying dst with
  |some (.slice e),some .string=>(match P.underlying e with|some (.int .u8)=>true|_=>false)
  |_,_=>false)
 |_=>false
theorem rG:∀(l:List V)(s:List UInt8)(xs:List Value),gh l=some s→f_ m l xs→∃ns:List Int,xs=ns.map (Value.int .u8)∧s=ns.map fun n=>UInt8.ofNat n.toNat
 |[],s,xs,hb,r=>by simp only[gh,Option.some.injEq]at hb;subst hb;simp only[f_]at r;subst r;exact⟨[],rfl,rfl⟩
 |v::l,s,xs,hb,r=>by unfold gh at hb;split at hb;rename_i q;cases q;rename_i n l' q;cases q;obtain⟨x,xs',rfl,rx,rt⟩:=r;split at hb;rename_i s' hs';cases hb;let⟨ns,h1,h2⟩:=rG l s' xs' hs' rt;simp only[l_]at rx;exact⟨n::ns,by rw[rx,h1];rfl,by rw[h2];rfl⟩;cases hb;cases hb
theorem wz:∀(ns:List Int)(s:ByteArray),ns.foldl (fun r n=>r.push (UInt8.ofNat n.toNat)) s=⟨s.data++(ns.map fun n=>UInt8.ofNat n.toNat).toArray⟩
 |[],s=>by simp
 |n::ns,s=>by rw[ZC,wz ns];congr 1;simp
theorem B5(H:r_ m h w){o:Oper}{ρ:Operand->Value}{x v:V}(hc:BT P o.op=true)(hv:f_ m [x] (OV ρ o.op))(K:yE h x=some v):MS P m h w o ρ v h:=by
 unfold BT at hc;split at hc;rename_i src dst a hy;split at hc;rename_i e an af;split at hc;rename_i he;let⟨x',e',rx⟩:=bY hv;rw[hy]at e';change[ρ a]=[x']at e';simp at e';have ak:∀b l c,x'=.slice b l c->(execOp ρ o).run P w=((Conv.bytesToString (.slice b l c)).run P w).andThen fun y w'=>.ok (.value y) w':=by intro b l c hx;simp[execOp,hy,e',hx,run_convert_bytes_string w src dst e b l c an he af]
 have ac:∀b k n cs c Z,m b=some Z->x'=.slice (some ⟨Z.a,Z.b+k,none⟩) n c->aj h b k n=some cs->(gh cs).map V.f=some v->MS P m h w o ρ v h:=by
  intro b k n cs c Z hm hx hl hb;let⟨xs,h1,h2,h3⟩:=H.h P hm hl;cases ae:gh cs with
  |none=>rw[ae]at hb;cases hb
  |some s=>rw[ae]at hb;simp at hb;subst hb;let⟨ns,q1,q2⟩:=rG cs s xs ae h2;rw[q1]at h1;refine⟨.string ⟨s.toArray⟩,w,m,.inl ?_,?_,H,Yo _ _ _⟩;rw[ak _ _ _ hx,run_bytesToString w _ n c ns h1,wz,<-q2];show Result.ok (Next.value (.string ⟨#[]++s.toArray⟩)) w=_;rw[Array.empty_append];simp[l_]
 unfold yE at K;split at K;cases K;simp[l_]at rx;refine⟨.string .empty,w,m,.inl ?_,?_,H,Yo _ _ _⟩;rw[ak _ _ _ rx];rfl;simp only[l_];rfl;split at K;rename_i cs hl;let⟨Z,hm,_,hx⟩:=rx;exact ac _ _ _ _ _ Z hm hx hl K;cases K;split at K;rename_i cs hl;let⟨Z,hm,_,hx⟩:=rx;exact ac _ _ _ _ _ Z hm hx hl K;cases K;cases K;cases hc;cases hc;cases hc
end
variable {P : Program} {m : M} {h : a_} {w : World}
def hsi(h:a_)(z:List UInt8):a_:=⟨h.S.A_ h.e (.e z 0),h.e+1,h.Q⟩
theorem r_.t(H:r_ m h w)(z:List UInt8):r_ (eh m h.e ⟨w.heap.size,0,0,none⟩) (hsi h z) (w.alloc (.stringIter ⟨z.toArray⟩ 0))/\P5 m h w (eh m h.e ⟨w.heap.size,0,0,none⟩) (hsi h z) (w.alloc (.stringIter ⟨z.toArray⟩ 0)):=by
 have ae:=H.f ⟨w.heap.size,0,0,none⟩;refine⟨⟨⟨?_,?_⟩,?_,?_,?_⟩,⟨ae,?_,ZB _,?_,iS,?_,rfl,rfl,rfl,b?.d m _ _ rfl,fun b hb=>YR (heap_alloc_old w _ _ hb),pz rfl⟩⟩;intro p cp f k Z;show match h.Q.c_ f with|none=>f=p|some (_,e)=>k<=e
 rw[hsi,Xr]at Z;by_cases e:p=h.e;grind;rw[if_neg e]at Z;exact H.g.b _ _ _ _ Z;intro p Z;have af:h.e+1<=p:=Z;refine⟨?_,(H.g.a p oM).2⟩;rw[hsi,We _ _ oM];exact(H.g.a p oM).1;intro p K Z;by_cases e:p=h.e;subst e;rw[av]at Z;cases Z;exact⟨.e z 0,by rw[hsi,WI],rfl,heap_alloc_new w _⟩;rw[aE _ _ e]at Z;let⟨b,hb,r⟩:=H.c p K Z;refine⟨b,by rw[hsi,We _ _ e];exact hb,r.mono ae (fun _ _ _ _ x=>x) (heap_alloc_old w _ _ (H.a p K Z))⟩;intro p K Z;by_cases e:p=h.e;subst e;rw[av]at Z;cases Z;simp;rw[aE _ _ e]at Z;have:=H.a p K Z;simp;omega;intro p q lp lq Z hq he ac;by_cases e:p=h.e;subst e;rw[av]at Z;cases Z;rw[aE _ _ (XK ac)]at hq;have:=H.a q lq hq;simp at he;omega;rw[aE _ _ e]at Z;by_cases e2:q=h.e;subst e2;rw[av]at hq;cases hq;have:=H.a p lp Z;simp at he;omega;rw[aE _ _ e2]at hq;let⟨cp,cq,f,kp,kq,a,b,d⟩:=H.d p q lp lq Z hq he ac;exact⟨cp,cq,f,kp,kq,by rw[hsi,We _ _ e];exact a,by rw[hsi,We _ _ e2];exact b,d⟩;intro p K Z hn;by_cases e:p=h.e;subst e;rw[av]at Z;cases Z;exact⟨VZ _,.inl (VZ _)⟩;rw[aE _ _ e]at Z;rw[Z]at hn;cases hn;intro p _ Z;rw[hsi,We _ _ oM];intro b _ hb;exact heap_alloc_old w _ _ hb
def nA(h:a_)(b:Nat)(z:List UInt8)(pos:Nat):a_:=⟨h.S.A_ b (.e z pos),h.e,h.Q⟩
theorem r_.B(H:r_ m h w){b:Nat}{Z:V3}(hm:m b=some Z){z:List UInt8}{c0:Nat}(hb:h.S.c_ b=some (.e z c0))(pos:Nat):
 r_ m (nA h b z pos) {w with heap:=w.heap.setIfInBounds Z.a (.stringIter ⟨z.toArray⟩ pos)}/\
 P5 m h w m (nA h b z pos) {w with heap:=w.heap.setIfInBounds Z.a (.stringIter ⟨z.toArray⟩ pos)}:=by
 have ar:=H.a b Z hm;have ae:∀p lp,m p=some lp->p≠b->lp.a≠Z.a:=by intro p lp K ak af;let⟨cp,cq,f,kp,kq,a1,a2,_⟩:=H.d p b lp Z K hm af ak;rw[hb]at a2;cases a2
 refine⟨⟨⟨?_,?_⟩,?_,?_,?_⟩,⟨fun _ _ x=>x,fun p l a c=>(by rw[a]at c;cases c),VZ _,?_,iS,?_,rfl,rfl,rfl,fun _ _ _ x=>x,?_,fun _ _ a b=>by simp[a]at b⟩⟩;intro p cp f k K;show match h.Q.c_ f with|none=>f=p|some (_,e)=>k<=e
 rw[nA,Xr]at K;by_cases e:p=b;grind;rw[if_neg e]at K;exact H.g.b _ _ _ _ K;intro p K;have an:=H.g.a p K;have ax:p≠b:=by grind
 exact⟨by rw[nA,We _ _ ax];exact an.1,an.2⟩;intro p lp K;by_cases e:p=b;subst e;rw[hm]at K;cases K;let⟨bk,ac,rel⟩:=H.c p Z hm;rw[hb]at ac;cases ac;exact⟨.e z pos,by rw[nA,WI],rel.1,by show _=_;simp[ar]⟩;let⟨bk,ac,r⟩:=H.c p lp K;refine⟨bk,by rw[nA,We _ _ e];exact ac,r.mono (fun _ _ x=>x) (fun _ _ _ _ x=>x) ?_⟩;have:=ae p lp K e;simp[XK this];intro p lp K;have:=H.a p lp K;simpa using this;intro p q lp lq K hq af ak;let⟨cp,cq,f,kp,kq,a1,a2,a3⟩:=H.d p q lp lq K hq af ak;have h1:p≠b:=by grind
 have h2:q≠b:=by grind
 exact⟨cp,cq,f,kp,kq,by rw[nA,We _ _ h1];exact a1,by rw[nA,We _ _ h2];exact a2,a3⟩;intro p hn K;have h1:p≠b:=by grind
 rw[nA,We _ _ h1];grind;intro g az;by_cases h4:g=Z.a;subst h4;let⟨bk,ac,rel⟩:=H.c b Z hm;rw[hb]at ac;cases ac;have ay:w.heap[Z.a]? =some (.stringIter ⟨z.toArray⟩ c0):=rel.2;intro x hx;rw[ay]at hx;cases hx;exact⟨.stringIter ⟨z.toArray⟩ pos,by simp[ar],trivial⟩;exact YR (by simp[XK h4])
def ait(h:a_)(nx:Bool)(x:V):Option (V×a_):=
 bif nx then
  match x with
  |.u b 0=>match h.S.c_ b with
   |some (.e z pos)=>if pos<z.length then some (.D [.h true,.A .i64 (pos:Int),.A .i32 ((Utf8.decode ⟨z.toArray⟩ pos).1:Int)],nA h b z (pos+(Utf8.decode ⟨z.toArray⟩ pos).2))else some (.D [.h false],h)
   |_=>none
  |_=>none
 else
  match x with
  |.f z=>some (.u h.e 0,hsi h z)
  |_=>none
def IH(P:Program)(op:Op)(nx:Bool):Bool:=match op with
 |.range t _=> !nx&&(match P.underlying t with|some .string=>true|_=>false)
 |.next _ s=>nx&&s
 |_=>false
theorem Fs(H:r_ m h w){o:Oper}{ρ:Operand->Value}{nx:Bool}{x v:V}{h':a_}(hc:IH P o.op nx=true)(hv:f_ m [x] (OV ρ o.op))(Z:ait h nx x=some (v,h')):MS P m h w o ρ v h':=by
 unfold IH at hc;split at hc;rename_i t a hy;simp at hc;obtain⟨rfl,hc⟩:=hc;split at hc;rename_i hu;let⟨y,ys,e',ry,rn⟩:=hv;rw[hy]at e';change[ρ a]=y::ys at e';simp only[Ww]at e';unfold ait at Z;simp at Z;split at Z;rename_i z;cases Z;have hx:ρ a=.string ⟨z.toArray⟩:=e'.1.trans ry;let⟨H',E'⟩:=H.t z;refine⟨_,_,_,.inl ?_,⟨_,av _ _ _,rfl⟩,H',E'⟩;simp[execOp,hy,Instr.range,aD hu,hx,newObj];rfl;cases Z;cases hc;rename_i a s hy;simp at hc;obtain⟨rfl,rfl⟩:=hc;let⟨y,ys,e',ry,rn⟩:=hv;rw[hy]at e';change[ρ a]=y::ys at e';simp only[Ww]at e';unfold ait at Z;simp at Z;split at Z;rename_i b;obtain⟨K,hm,rfl⟩:=ry;split at Z;rename_i z pos hb;let⟨bk,ae,rel⟩:=H.c b K hm;rw[hb]at ae;cases ae;have hx:ρ a=.pointer (some ⟨K.a,0,none⟩):=by rw[e'.1,rel.1]
 have hz:(⟨z.toArray⟩:ByteArray).size=z.length:=by simp[ByteArray.size]
 split at Z;rename_i ac;cases Z;let⟨H',E'⟩:=H.B hm hb (pos+(Utf8.decode ⟨z.toArray⟩ pos).2);refine⟨_,_,_,.inl ?_,⟨_,rfl,_,_,rfl,rfl,_,_,rfl,rfl,_,_,rfl,rfl,rfl⟩,H',E'⟩;have:=Go.Lib.run_next_any_at (P:=P) w K.a ⟨z.toArray⟩ pos o.type rel.2 (by rw[hz];exact ac);simp[execOp,hy,hx,this,World.iterAt];rename_i ac;cases Z;refine⟨_,_,_,.inl ?_,⟨_,rfl,_,_,rfl,rfl,rfl⟩,H,Yo _ _ _⟩;have:=Go.Lib.run_next_end_at (P:=P) w K.a ⟨z.toArray⟩ pos o.type rel.2 (by rw[hz];exact ac);simp[execOp,hy,hx,this];cases Z;cases Z;cases hc
end Go.Ev
