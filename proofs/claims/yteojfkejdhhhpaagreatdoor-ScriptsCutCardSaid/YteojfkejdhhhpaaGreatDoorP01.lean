/- An evaluator of the program, and contracts over it: EvM to EvMh. -/
import Derived.Laws.StructEq
import Derived.MapKept
import Derived.Laws.BytesString
import Derived.Lib.OthersKept
import Derived.Laws.LoneSync
import Derived.Laws.AppendOwn
import Derived.Lib.ConvBytes
import Derived.Lib.UnsafeStr
import Derived.Lib.Builder
import Derived.Lib.Bytealg
import Derived.Lib.MakeNoZero
import Derived.Test.YteojfkejdhhhpaaGreatDoorP00
set_option linter.unusedSimpArgs false
set_option linter.unusedVariables false
set_option linter.constructorNameAsVariable false
set_option linter.unnecessarySimpa false
noncomputable section
namespace Go.Ev
section
variable {P : Program} {m : M}
theorem cE{v:V}{y n:Nat}(h:cO v y=some n):∃k,v=.int k (.ofNat n)/\n<=y:=by
 unfold cO at h;split at h
 ·rename_i k U;cases Z:Nat.ble U y
  ·grind
  ·rw[Z]at h;cases h;exact⟨k,rfl,Qt Z⟩
 ·cases h
theorem dy{v:V}{y n cap:Nat}{x:Value}(h:cO v y=some n)(r:VRel m v x)(R:y<=cap)(c:BoundsCode)(w:World):(Instr.sliceBound x cap c).run P w=.ok n w:=by
 obtain⟨k,rfl,U⟩:=cE h;simp only[VRel]at r;subst r;have Z:(0:Int)<=Int.ofNat n/\Int.ofNat n<=(cap:Int):=by grind
 simp only[Instr.sliceBound,asIntOf,Qz,QL,Qr];rw[if_pos Z];rfl
theorem dY{len y cap:Nat}{lo hi mx isS:Bool}{bs:List V}{l h:Nat}{mo:Option Nat}(Z:aO len y lo hi mx bs=some (l,h,mo))(hy:y<=cap)(hl:len<=y)
 {a b c:Option Value} (e1:a.isSome=lo) (e2:b.isSome=hi) (e3:c.isSome=mx) (r:VsRel m bs (a.toList++b.toList++c.toList)) (w:World):
 (Instr.sliceBounds isS len cap a b c).run P w=.ok (l,h,mo.getD cap) w/\l<=h/\h<=mo.getD y/\mo.getD y<=y:=by
 unfold aO at Z;split at Z
 ·cases a<;>cases b<;>cases c<;>simp at e1 e2 e3;cases Z;refine⟨by simp[Instr.sliceBounds],oM,by simpa using hl,iS⟩
 ·rename_i v;cases a<;>cases b<;>cases c<;>simp at e1 e2 e3;rename_i x;obtain⟨x',e,D⟩:=bJ r;simp at e;subst e;cases U:cO v len with
  |none=>rw[U]at Z;cases Z
  |some n=>
   rw[U]at Z;cases Z;obtain⟨_,_,R⟩:=cE U;refine⟨?_,R,by simpa using hl,iS⟩;simp[Instr.sliceBounds,dy U D (pi len)]
 ·rename_i v;cases a<;>cases b<;>cases c<;>simp at e1 e2 e3;rename_i x;obtain⟨x',e,D⟩:=bJ r;simp at e;subst e;cases U:cO v y with
  |none=>rw[U]at Z;cases Z
  |some n=>
   rw[U]at Z;cases Z;obtain⟨_,_,R⟩:=cE U;refine⟨?_,oM,by simpa using R,iS⟩;simp[Instr.sliceBounds,dy U D hy]
 ·rename_i u v;cases a<;>cases b<;>cases c<;>simp at e1 e2 e3;rename_i x z;obtain⟨x',z',e,D,rz⟩:=bR r;simp at e;obtain⟨rfl,rfl⟩:=e;cases U:cO v y with
  |none=>rw[U]at Z;cases Z
  |some n=>
   rw[U]at Z;simp only[QX]at Z;cases I:cO u n with
   |none=>rw[I]at Z;cases Z
   |some k=>
    rw[I]at Z;cases Z;obtain⟨_,_,R⟩:=cE U;obtain⟨_,_,J⟩:=cE I;refine⟨?_,J,by simpa using R,iS⟩;simp[Instr.sliceBounds,dy U rz hy,dy I D (pi h)]
 ·rename_i u v;cases a<;>cases b<;>cases c<;>simp at e1 e2 e3;rename_i x z;obtain⟨x',z',e,D,rz⟩:=bR r;simp at e;obtain⟨rfl,rfl⟩:=e;cases U:cO v y with
  |none=>rw[U]at Z;cases Z
  |some n=>
   rw[U]at Z;simp only[QX]at Z;cases I:cO u n with
   |none=>rw[I]at Z;cases Z
   |some k=>
    rw[I]at Z;cases Z;obtain⟨_,_,R⟩:=cE U;obtain⟨_,_,J⟩:=cE I;refine⟨?_,oM,by simpa using J,by simpa using R⟩;simp[Instr.sliceBounds,dy U rz hy,dy I D (pi n)]
 ·rename_i t u v;cases a<;>cases b<;>cases c<;>simp at e1 e2 e3;rename_i p x z;obtain⟨p',x',z',e,rp,D,rz⟩:=yT r;simp at e;obtain⟨rfl,rfl,rfl⟩:=e;cases U:cO v y with
  |none=>rw[U]at Z;cases Z
  |some n=>
   rw[U]at Z;simp only[QX]at Z;cases I:cO u n with
   |none=>rw[I]at Z;cases Z
   |some k=>
    rw[I]at Z;simp only[QX]at Z;cases hd:cO t k with
    |none=>rw[hd]at Z;cases Z
    |some j=>
     rw[hd]at Z;cases Z;obtain⟨_,_,R⟩:=cE U;obtain⟨_,_,J⟩:=cE I;obtain⟨_,_,ab⟩:=cE hd;refine⟨?_,ab,by simpa using J,by simpa using R⟩;simp[Instr.sliceBounds,dy U rz hy,dy I D (pi n),dy hd rp (pi h)]
 ·cases Z
theorem Be(blk base o l esz Z:Nat):(if Z=l then(⟨blk,base+o,none⟩:Addr)else Addr.add ⟨blk,base+o,none⟩ (l*esz))=⟨blk,base+(bif Nat.beq Z l then o else o+l*esz),none⟩:=by
 by_cases h:Z=l
 ·rw[if_pos h,h,Rk];rfl
 ·rw[if_neg h,gu];have:Nat.beq Z l=false:=by
   cases U:Nat.beq Z l
   ·rfl
   ·exact absurd (py U) h
  rw[this];simp[RT]
theorem rQ{t:TypeId}{x:Operand}{l h Z:Option Operand}(ρ:Operand->Value):OV ρ (.slice t x l h Z)=ρ x::((l.map ρ).toList++(h.map ρ).toList++(Z.map ρ).toList):=by
 cases l<;>cases h<;>cases Z<;>simp[OV,Op.operands]
theorem JF{o:Oper}{ρ:Operand->Value}{n esz:Nat}{lo R mx:Bool}{v r:V}{bs:List V}(Z:bG P o.op (.sl (some n) esz lo R mx)=true)(I:VsRel m (v::bs) (OV ρ o.op))
 (h:uo n v esz lo R mx bs=some r):PS P m o ρ r:=by
 simp only[bG]at Z;split at Z
 ·rename_i t x l hh ad hy;simp only[be,beq_iff_eq]at Z;obtain⟨⟨⟨he,h1⟩,J⟩,D⟩:=Z;obtain⟨e,hu,hs⟩:=Ab he;rw[hy,rQ]at I;obtain⟨x',ah,e',rv,rb⟩:=I;simp only[QC]at e';obtain⟨rfl,rfl⟩:=e';unfold uo at h;split at h
  ·rename_i b k;obtain⟨loc,hm,hx⟩:=rv;cases U:aO n n lo R mx bs with
   |none=>rw[U]at h;cases h
   |some q=>
    obtain⟨l',h',m'⟩:=q;rw[U]at h;simp only[QG,QA]at h;subst h;have hr:=fun w=>(dY (P:=P) (isS:=false) U (pi n) (pi n) (eV h1) (eV J) (eV D) rb w).1;have ab:=(dY (P:=P) (isS:=false) U (pi n) (pi n) (eV h1) (eV J) (eV D) rb default).2;refine⟨_,⟨loc,hm,oM,rfl⟩,fun w=>?_⟩;simp only[execOp,hy,Instr.sliceAt,hx,Instr.sureAddr,Qz,QL,aL hu,Qr,hr w,cH hs,Be]
  ·cases h
 ·cases Z
theorem Pp{o:Oper}{ρ:Operand->Value}{esz:Nat}{lo hi mx:Bool}{v r:V}{bs:List V}(hc:bG P o.op (.sl none esz lo hi mx)=true)(hv:VsRel m (v::bs) (OV ρ o.op))
 (h:dW v esz lo hi mx bs=some r):PS P m o ρ r:=by
 simp only[bG]at hc;split at hc
 ·rename_i t x l hh a1 hy;simp only[be,beq_iff_eq]at hc;obtain⟨⟨⟨he,h1⟩,h2⟩,h3⟩:=hc;obtain⟨e,hu,hs⟩:=mw he;rw[hy,rQ]at hv;obtain⟨x',aF,e',rv,rb⟩:=hv;simp only[QC]at e';obtain⟨rfl,rfl⟩:=e';unfold dW at h;split at h
  ·simp only[VRel]at rv;cases R:aO 0 0 lo hi mx bs with
   |none=>rw[R]at h;cases h
   |some q=>
    obtain⟨Z,h',I⟩:=q;rw[R]at h;simp only[QG,QA]at h;subst h;have hr:=fun w=>dY (P:=P) (isS:=true) R (pi 0) (pi 0) (eV h1) (eV h2) (eV h3) rb w;have hb:=(hr default).2;have ak:I.getD 0=0:=oM
    have D:Z=0:=oM
    have ah:h'=0:=oM
    refine⟨_,rfl,fun w=>?_⟩;simp only[execOp,hy,Instr.sliceAt,Instr.slice,rv,Qz,QL,aL hu,Qr,(hr w).1,cH hs,ak,D,ah];simp
  ·rename_i b k len cap;obtain⟨loc,hm,ad,hx⟩:=rv;cases R:aO len cap lo hi mx bs with
   |none=>rw[R]at h;cases h
   |some q=>
    obtain⟨Z,h',I⟩:=q;rw[R]at h;simp only[QG,QA]at h;subst h;have hr:=fun w=>(dY (P:=P) (isS:=true) R (pi cap) ad (eV h1) (eV h2) (eV h3) rb w).1;have ab:=(dY (P:=P) (isS:=true) R (pi cap) ad (eV h1) (eV h2) (eV h3) rb default).2;refine⟨_,⟨loc,hm,oM,rfl⟩,fun w=>?_⟩;simp only[execOp,hy,Instr.sliceAt,Instr.slice,hx,Qz,QL,aL hu,Qr,hr w,cH hs];have:=Be loc.block loc.base k Z esz (I.getD cap);by_cases q:I.getD cap=Z
    ·grind
    ·grind
  ·rename_i b k len U;cases hb:(Nat.beq U esz&&Nat.blt 0 U)
   ·grind
   ·rw[hb]at h;simp only[cond_true]at h;simp only[be,QJ]at hb;obtain⟨aj,a0⟩:=hb;have ao:=py aj;subst ao;obtain⟨loc,hm,ax,hx⟩:=rv;cases R:aO len len lo hi mx bs with
    |none=>rw[R]at h;cases h
    |some q=>
     obtain⟨Z,h',I⟩:=q;rw[R]at h;simp only[QX]at h;have hr:=fun w=>dY (P:=P) (isS:=true) R ax (pi len) (eV h1) (eV h2) (eV h3) rb w;have ab:=(hr default).2;have run:∀w,(execOp ρ o).run P w=.ok (.value (.slice (if I.getD ((loc.room-k)/U)=Z then some ⟨loc.block,loc.base+k,none⟩else(some (Addr.add ⟨loc.block,loc.base+k,none⟩ (Z*U)))) (h'-Z) (I.getD ((loc.room-k)/U)-Z))) w:=by
      intro w;simp only[execOp,hy,Instr.sliceAt,Instr.slice,hx,Qz,QL,aL hu,Qr,(hr w).1,cH hs];rfl
     cases I with
     |some mm=>
      simp only[QA]at h;subst h;simp only[Option.getD_some]at run ab;refine⟨_,⟨loc,hm,oM,rfl⟩,fun w=>?_⟩;rw[run w];have:=Be loc.block loc.base k Z U mm;by_cases q:mm=Z
      ·grind
      ·grind
     |none=>
      simp only[SX]at run ab;simp only[]at h;cases J:Nat.blt Z len
      ·rw[J]at h;simp only[cond_false]at h;have aR:¬Z<len:=by intro q;rw[<-QJ]at q;rw[q]at J;cases J
       cases hz:Nat.beq Z 0
       ·rw[hz]at h;simp only[cond_false,QA]at h;subst h;have aA:h'-Z=0:=oM
        refine⟨.slice (if(loc.room-k)/U=Z then some ⟨loc.block,loc.base+k,none⟩else(some (Addr.add ⟨loc.block,loc.base+k,none⟩ (Z*U)))) (h'-Z) ((loc.room-k)/U-Z),?_,run⟩;rw[aA];by_cases q:(loc.room-k)/U=Z
        ·rw[if_pos q];exact⟨_,_,rfl⟩
        ·rw[if_neg q];exact⟨_,_,rfl⟩
       ·rw[hz]at h;simp only[cond_true,QA]at h;subst h;have D:=py hz;subst D;refine⟨_,⟨loc,hm,oM,rfl⟩,fun w=>?_⟩;rw[run w];simp only[SN,gu,RG,ite_self,Sh]
      ·rw[J]at h;simp only[cond_true,QA]at h;subst h;have aE:Z<len:=by simpa[QJ]using J
       have hd:(loc.room-(k+Z*U))/U=(loc.room-k)/U-Z:=by
        rw[<-Nat.sub_sub,TH,Nat.sub_mul_div]
       refine⟨_,⟨loc,hm,oM,rfl⟩,fun w=>?_⟩;rw[run w,if_neg oM,gu];rw[hd,RT]
  ·cases h
 ·cases hc
theorem pN(s:List UInt8):(⟨s.toArray⟩:ByteArray).toList=s:=by rw[ByteArray.toList_eq]
theorem HU{t:TypeId}{k:Nat}(h:xQ P t k=true):qE P t false=true:=by
 unfold xQ at h;unfold qE;split at h
 ·grind
 ·grind
 ·grind
 ·cases h
theorem Am(d:Nat){w:World}:∀(ks:List Nat)(fs:List Field)(j:Nat)(xs ys:List Value)(l l':List V)(r:Bool),pB P j fs ks=true→
 VsRel m l (xs.drop j)→VsRel m l' (ys.drop j)→iU ks l l'=some r→(Op.eqFields (d+1) (List.toArray xs) (List.toArray ys) fs).run P w=.ok r w
 |[],[],j,xs,ys,l,l',r,hf,hl,hl',hc=>by simp only[iU,Option.some.injEq]at hc;subst hc;rfl
 |[],_::_,_,_,_,_,_,_,hf,_,_,_=>by simp[pB]at hf
 |_::_,[],_,_,_,_,_,_,hf,_,_,_=>by simp[pB]at hf
 |k::ks,f::fs,j,xs,ys,l,l',r,hf,hl,hl',hc=>by
  simp only[pB,Bool.and_eq_true,Bool.not_eq_true',beq_eq_false_iff_ne]at hf;obtain⟨⟨⟨hname,hoff⟩,hleaf⟩,hrest⟩:=hf;have hoff:=Nat.eq_of_beq_eq_true hoff;have hagg:=HU hleaf;have Dh:∀(zs:List Value)(u:V)(us:List V),VsRel m (u::us) (zs.drop j)→∃x,zs[j]? =some x∧VRel m u x∧VsRel m us (zs.drop (j+1)):=by
   rintro zs u us ⟨x,xs',e,r1,r2⟩;have h0:(zs.drop j)[0]? =some x:=by rw[e];rfl
   rw[List.getElem?_drop]at h0;refine⟨x,by simpa using h0,r1,?_⟩;have:zs.drop (j+1)=xs':=by rw[←List.drop_drop,e];rfl
   rw[this];exact r2
  have partR:∀(zs:List Value) x,zs[j]? =some x→(part f.type (List.toArray zs) f.offset).run P w=.ok x w:=by
   intro zs x hx;simp[part,jz hagg,hoff,hx]
  cases l with
  |nil=>cases k with
   |zero=>simp[iU]at hc
   |succ k=>cases k with
    |zero=>simp[iU]at hc
    |succ k=>cases k<;>simp[iU]at hc
  |cons u us=>
   cases l' with
   |nil=>cases k with
    |zero=>cases u<;>simp[iU]at hc
    |succ k=>cases k with
     |zero=>cases u<;>simp[iU]at hc
     |succ k=>cases k<;>cases u<;>simp[iU]at hc
   |cons v vs=>
    obtain⟨x,hx,rx,rus⟩:=Dh xs u us hl;obtain⟨y,hy,ry,rvs⟩:=Dh ys v vs hl';have step:∀(b:Bool),(Op.equalIn (d+1) f.type x y).run P w=.ok b w→(b=true→iU ks us vs=some r)→(b=false→r=false)→
     (Op.eqFields (d+1) (List.toArray xs) (List.toArray ys) (f::fs)).run P w=.ok r w:=by
     intro b hb h1 h2;simp only[Op.eqFields];rw[if_pos hname];simp only[Sem.run_bind,partR xs x hx,partR ys y hy,Result.andThen_ok,hb];cases b
     ·have:=h2 rfl;subst this;rfl
     ·simp only[Bool.not_true,Bool.false_eq_true,if_false];exact Am d ks fs (j+1) xs ys us vs r hrest rus rvs (h1 rfl)
    unfold xQ at hleaf;split at hleaf
    ·rename_i k0 hu;cases u<;>cases v<;>simp only[iU]at hc<;>first|(cases hc;done)|skip
     rename_i t a t' b;simp only[VRel]at rx ry;subst rx;subst ry;cases hk:jA t t'
     ·grind
     ·rw[hk]at hc;simp only[cond_true]at hc;have:=mP hk;subst this;refine step (a==b) (run_equalIn_int w d f.type t k0 a b hu) (fun q=>?_) (fun q=>?_)
      ·rw[fK,q]at hc;exact hc
      ·rw[fK,q]at hc;simpa using hc.symm
    ·rename_i hu;cases u<;>cases v<;>simp only[iU]at hc<;>first|(cases hc;done)|skip
     rename_i a b;simp only[VRel]at rx ry;subst rx;subst ry;refine step (a==b) (ti hu a b d) (fun q=>?_) (fun q=>?_)
     ·grind
     ·grind
    ·rename_i hu;cases u<;>cases v<;>simp only[iU]at hc<;>first|(cases hc;done)|skip
     rename_i a b;simp only[VRel]at rx ry;subst rx;subst ry;refine step (a==b) (by rw[run_equalIn_string w d f.type _ _ hu,pN,pN]) (fun q=>?_) (fun q=>?_)
     ·grind
     ·grind
    ·cases hleaf
theorem N0{o:Oper}{ρ:Operand->Value}{ne:Bool}{ks:List Nat}{l l':List V}{r:Bool}(U:bG P o.op (.seq ne ks)=true)(hv:VsRel m [.agg l,.agg l'] (OV ρ o.op))(h:iU ks l l'=some r):
 PS P m o ρ (.bool (bif ne then !r else r)):=by
 simp only[bG]at U;split at U
 ·rename_i b' t x y yt J;simp only[be,decide_eq_true_eq]at U;obtain⟨hb,I⟩:=U;unfold LK at I;split at I
  ·rename_i Z hu;simp only[be,RA]at I;obtain⟨⟨h1,h2⟩,h3⟩:=I;obtain⟨x',y',e,rx,ry⟩:=bR hv;rw[J]at e;change[ρ x,ρ y]=[x',y']at e;simp only[QC,and_true]at e;obtain⟨xs,rfl,ad⟩:=rx;obtain⟨ys,rfl,ab⟩:=ry;have R:P.fieldsOf t=Z:=by unfold Program.fieldsOf;rw[hu]
   have D:∀w,(Op.equalIn (9999+1) t (.agg (List.toArray xs)) (.agg (List.toArray ys))).run P w=.ok r w:=by
    intro w;rw[run_equalIn_struct w 9999 t _ _ (by rw[R];exact hu) h1,R];exact Am 9998 ks Z.toList 0 xs ys l l' r h3 (by simpa using ad) (by simpa using ab) h
   refine⟨_,rfl,fun w=>?_⟩;subst hb;cases ne
   ·simp only[cond_false]at J|-;simp only[execOp,J,e.1,e.2,Qz,run_eqGuard_agg w .eql t x y _ _ h2,Qr,run_eql_struct w t,D w];rfl
   ·simp only[cond_true]at J|-;simp only[execOp,J,e.1,e.2,Qz,run_eqGuard_agg w .neq t x y _ _ h2,Qr,run_neq_struct w t,D w];rfl
  ·cases I
 ·cases U
theorem rH{op:BinOp}{a b:List UInt8}{v:V}(h:oR op a b=some v)(w:World)(t:TypeId):∃x,(binOp op t (.string ⟨a.toArray⟩) (.string ⟨b.toArray⟩)).run P w=.ok x w/\VRel m v x:=by
 have e:binOp op t (.string ⟨a.toArray⟩) (.string ⟨b.toArray⟩)=Op.stringOp op ⟨a.toArray⟩ ⟨b.toArray⟩:=by cases op<;>rfl
 rw[e];cases op<;>simp only[oR]at h;case add=>
  cases Z:Nat.blt (a.length+b.length) 9223372036854775808
  ·grind
  ·rw[Z]at h;simp only[cond_true]at h;cases h;have R:a.length+b.length<9223372036854775808:=by simpa[QJ]using Z
   have I:¬(((⟨a.toArray⟩:ByteArray).size+(⟨b.toArray⟩:ByteArray).size:Nat):Int)>IntKind.i64.max:=by
    have J:(⟨a.toArray⟩:ByteArray).size=a.length:=by simp[ByteArray.size]
    have U:(⟨b.toArray⟩:ByteArray).size=b.length:=by simp[ByteArray.size]
    rw[J,U];simp[IntKind.max,IntKind.signed,IntKind.bits];omega
   refine⟨.string (⟨a.toArray⟩++⟨b.toArray⟩),?_,?_⟩
   ·simp only[Op.stringOp];rw[if_neg I];rfl
   ·simp only[VRel];congr 1
 all_goals first
  |(cases h;done)
  |(cases h;exact⟨_,rfl,by simp only[VRel,pN]⟩)
theorem Pr{o:Oper}{ρ:Operand->Value}{op:BinOp}{a b:List UInt8}{v:V}(R:bG P o.op (.sb op)=true)(hv:VsRel m [.str a,.str b] (OV ρ o.op))(h:oR op a b=some v):PS P m o ρ v:=by
 simp only[bG]at R;split at R
 ·rename_i b' t x y yt J;have hb:op=b':=by simpa using R
  subst hb;obtain⟨x',y',e,D,I⟩:=bR hv;rw[J]at e;change[ρ x,ρ y]=[x',y']at e;simp only[QC,and_true]at e;simp only[VRel]at D I;have hg:∀w,(eqGuard op t x y (.string ⟨a.toArray⟩) (.string ⟨b.toArray⟩)).run P w=.ok () w:=fun w=>by cases op<;>rfl
  obtain⟨z,_,U⟩:=rH (P:=P) (m:=m) h default t;refine⟨z,U,fun w=>?_⟩;obtain⟨z',hz,Z⟩:=rH (P:=P) (m:=m) h w t;have:z'=z:=by
   cases v with
   |str s=>simp only[VRel]at U Z;rw[U,Z]
   |bool s=>simp only[VRel]at U Z;rw[U,Z]
   |_=>cases op<;>simp only[oR]at h<;>first|(cases h;done)|(cases hq:Nat.blt (a.length+b.length) 9223372036854775808<;>rw[hq]at h<;>cases h)
  rw[<-this];simp only[execOp,J,e.1,e.2,D,I,Qz,hg w,Qr,hz];rfl
 ·cases R
theorem Gd{o:Oper}{ρ:Operand->Value}{a:List UInt8}(I:bG P o.op .lenStr=true)(D:VsRel m [.str a] (OV ρ o.op)):PS P m o ρ (.int .i64 (a.length:Nat)):=by
 obtain⟨x,ts,t,d,U,ht,R,J⟩:=xG I;obtain⟨x',e,r⟩:=bJ D;rw[U]at e;simp[Op.operands,Call.operands]at e;simp only[VRel]at r;refine⟨_,rfl,fun w=>?_⟩;cases d<;>simp at J;have Z:(⟨a.toArray⟩:ByteArray).size=a.length:=by simp[ByteArray.size]
 simp[execOp,U,resolve,invoke,builtin,Builtin.len_,ht,e,r,aL R,goInt,Z]
theorem sY{t:TypeId}(h:CW P t=true):P.underlying t=some .string:=by unfold CW at h;split at h<;>simp_all
theorem JH{o:Oper}{ρ:Operand->Value}{a:List UInt8}{k:IntKind}{i:Nat}{c:UInt8}(U:bG P o.op .ixstr=true)(hv:VsRel m [.str a,.int k (.ofNat i)] (OV ρ o.op))(h:a[i]? =some c):PS P m o ρ (.int .u8 (c.toNat:Nat)):=by
 simp only[bG]at U;split at U
 ·rename_i t x y R;obtain⟨x',D,e,I,J⟩:=bR hv;rw[R]at e;change[ρ x,ρ y]=[x',D]at e;simp only[QC,and_true]at e;simp only[VRel]at I J;have hu:=sY U;refine⟨_,rfl,fun w=>?_⟩;have hg:(⟨a.toArray⟩:ByteArray)[i]? =some c:=by
   have Z:=(QD.1 h).1;have hs:i<(⟨a.toArray⟩:ByteArray).size:=by simpa[ByteArray.size]using Z
   rw[getElem?_pos _ i hs];rw[Qq Z]at h;exact h
  simp only[execOp,R,e.1,e.2,I,J,Instr.index,asIntOf,Qz,QL,aL hu,Qr];have h0:(0:Int)<=Int.ofNat i:=by simp
  rw[if_pos h0];simp[hg]
 ·cases U
theorem JE{o:Oper}{ρ:Operand->Value}{lo J:Bool}{a:List UInt8}{bs:List V}{l h:Nat}{mo:Option Nat}(Z:bG P o.op (.slstr lo J)=true)(I:VsRel m (.str a::bs) (OV ρ o.op))
 (hb:aO a.length a.length lo J false bs=some (l,h,mo)):PS P m o ρ (.str ((a.drop l).take (h-l))):=by
 simp only[bG]at Z;split at Z
 ·rename_i t x lw hh R D;simp only[be,beq_iff_eq]at Z;obtain⟨⟨⟨hs,h1⟩,h2⟩,h3⟩:=Z;have hu:=sY hs;cases R with
  |some q=>simp at h3
  |none=>
   rw[D,rQ]at I;obtain⟨x',ab,e',rv,rb⟩:=I;simp only[QC]at e';obtain⟨rfl,rfl⟩:=e';simp only[VRel]at rv;have U:(⟨a.toArray⟩:ByteArray).size=a.length:=by simp[ByteArray.size]
   have hr:=fun w=>(dY (P:=P) (isS:=false) hb (pi _) (pi _) (a:=lw.map ρ) (b:=hh.map ρ) (c:=none) (eV h1) (eV h2) rfl (by simpa using rb) w).1;refine⟨.string ((⟨a.toArray⟩:ByteArray).extract l h),?_,fun w=>?_⟩
   ·simp only[VRel];congr 1;apply ByteArray.ext;simp[ByteArray.data_extract,List.extract_eq_take_drop]
   ·simp only[execOp,D,Instr.sliceAt,Instr.slice,rv,Qz,QL,aL hu,Qr,Option.map_none,Option.isSome_none,QQ,if_false,U,hr w]
 ·cases Z
end
section
variable {P : Program} {m : M}
theorem Ji{o:Oper}{ρ:Operand->Value}{k:PK}{vs:List V}{v:V}(hc:bG P o.op k=true)(hv:VsRel m vs (OV ρ o.op))(h:aP k vs=some v):PS P m o ρ v:=by
 unfold aP at h;split at h
 ·exact Pv hc hv h
 ·cases h;exact Lw hc hv
 ·cases h;exact JG hc hv
 ·cases h;exact Gc hc hv
 ·exact Px hc hv h
 ·exact Pq hc hv h
 ·cases h;exact N1 hc hv
 ·cases h;exact N4 hc hv
 ·cases h;exact Py hc hv
 ·rename_i kd ne a b;cases hn:jX kd a b with
  |none=>rw[hn]at h;cases h
  |some r=>rw[hn]at h;cases h;exact N3 hc hv hn
 ·cases h;exact JK hc hv
 ·rename_i len esz b U i;cases hn:lD i len with
  |none=>rw[hn]at h;cases h
  |some r=>rw[hn]at h;cases h;exact N7 hc hv hn
 ·rename_i esz b U len cap i;exact yz
 ·rename_i esz b U len e0 i;exact yz
 ·rename_i len esz ia l i;cases hn:lD i len with
  |none=>rw[hn]at h;cases h
  |some r=>rw[hn]at h;exact JJ hc hv hn h
 ·exact N8 hc hv h
 ·rename_i fn n;cases hn:dL n vs with
  |none=>rw[hn]at h;cases h
  |some r=>rw[hn]at h;cases h;exact N6 hc hv hn
 ·cases h;exact N5 hc hv
 ·rename_i t I v;cases ht:Nat.beq t I
  ·grind
  ·rw[ht]at h;cases h;exact NZ hc hv ht
 ·rename_i zero Z;cases hn:dP zero Z vs with
  |none=>rw[hn]at h;cases h
  |some r=>rw[hn]at h;cases h;exact JL hc hv hn
 ·exact Pp hc hv h
 ·exact JF hc hv h
 ·cases h;exact oj (len:=0) hc hv (fun x hx=>⟨_,_,hx⟩)
 ·exact yaU
 ·exact yaU
 ·cases h;exact oj (len:=0) hc hv (fun x hx=>by obtain⟨_,_,rfl⟩:=hx;exact⟨_,_,rfl⟩)
 ·cases h;exact oj (len:=0) hc hv (fun x hx=>⟨_,_,hx⟩)
 ·cases h;exact DK (cap:=0) hc hv (fun x hx=>⟨_,_,hx⟩)
 ·cases h;exact DK hc hv (fun x hx=>by obtain⟨_,_,_,rfl⟩:=hx;exact⟨_,_,rfl⟩)
 ·cases h;exact Pw hc hv
 ·cases h;exact Pt hc hv
 ·cases h;exact Ly hc hv
 ·rename_i ne ks l J;cases hn:iU ks l J with
  |none=>rw[hn]at h;cases h
  |some r=>rw[hn]at h;cases h;exact N0 hc hv hn
 ·exact Pr hc hv h
 ·cases h;exact Gd hc hv
 ·rename_i a k i;cases hn:a[i]? with
  |none=>rw[hn]at h;cases h
  |some r=>rw[hn]at h;cases h;exact JH hc hv hn
 ·rename_i lo R a bs;cases hn:aO a.length a.length lo R false bs with
  |none=>rw[hn]at h;cases h
  |some r=>obtain⟨l,h',D⟩:=r;rw[hn]at h;cases h;exact JE hc hv hn
 ·cases h
end
def MG(r:Result Next)(x:Value)(w':World):Prop:=r=.ok (.value x) w'\/(r=.ok .skip w'/\x=undef)
def MS(P:Program)(m:M)(h:Heap)(w:World)(o:Oper)(ρ:Operand->Value)(v:V)(h':Heap):Prop:=
 ∃x w' m',MG ((execOp ρ o).run P w) x w'/\VRel m' v x/\HRel m' h' w'/\Ext m h w m' h' w'
theorem JM{P:Program}{m:M}{h:Heap}{w:World}{o:Oper}{ρ:Operand->Value}{v:V}(H:HRel m h w)(p:PS P m o ρ v):MS P m h w o ρ v h:=by
 obtain⟨x,r,e⟩:=p;exact⟨x,w,m,.inl (e w),r,H,Sa _ _ _⟩
section
variable {P : Program} {m : M} {h : Heap} {w : World}
def jm(h:Heap)(n:Nat)(ia:Bool)(v:V):Option V:=
 match v with
 |.ptr b o=>bif ia then(aH h b o n).map .agg else ai h b o
 |_=>none
def yx(P:Program)(op:Op)(n:Nat)(ia:Bool):Bool:=match op with
 |.load t _=>dQ P t n&&qE P t ia
 |_=>false
theorem Az(H:HRel m h w){o:Oper}{ρ:Operand->Value}{n:Nat}{D:Bool}{v r:V}(U:yx P o.op n D=true)(hv:VsRel m [v] (OV ρ o.op))(Z:jm h n D v=some r):
 ∃x,VRel m r x/\(execOp ρ o).run P w=.ok (.value x) w:=by
 unfold yx at U;split at U
 ·rename_i t a J;simp only[be]at U;obtain⟨x,e,R⟩:=bJ hv;rw[J]at e;simp[Op.operands]at e;unfold jm at Z;split at Z
  ·rename_i b k;obtain⟨loc,hm,rfl⟩:=R;cases D
   ·simp only[cond_false]at Z;obtain⟨x,hx,R⟩:=H.load1 hm Z;refine⟨x,R,?_⟩;simp[execOp,J,e,Instr.loadAt,Instr.sureAddr,loadVar,jz U.2,run_load,hx]
   ·simp only[cond_true]at Z;cases I:aH h b k n with
    |none=>rw[I]at Z;cases Z
    |some vs=>
     rw[I]at Z;cases Z;obtain⟨xs,hx,R,_⟩:=H.load P hm I;refine⟨.agg (List.toArray xs),⟨xs,rfl,R⟩,?_⟩;simp[execOp,J,e,Instr.loadAt,Instr.sureAddr,loadVar,jz U.2,cH U.1,hx]
  ·cases Z
 ·cases U
def gm(h:Heap)(n:Nat)(p v:V):Option Heap:=
 match p with
 |.ptr b o=>bif Nat.beq v.cells.length n then dk h b o v.cells else none
 |_=>none
def tG(P:Program)(op:Op)(n:Nat):Bool:=match op with
 |.store t _ _=>dQ P t n
 |_=>false
theorem yF(H:HRel m h w){o:Oper}{ρ:Operand->Value}{n:Nat}{p v:V}{h':Heap}(R:tG P o.op n=true)(hv:VsRel m [p,v] (OV ρ o.op))(Z:gm h n p v=some h'):
 MS P m h w o ρ (.tup []) h':=by
 unfold tG at R;split at R
 ·rename_i t a x hy;obtain⟨x',I,e,rx,ry⟩:=bR hv;rw[hy]at e;change[ρ a,ρ x]=[x',I]at e;simp only[QC,and_true]at e;unfold gm at Z;split at Z
  ·rename_i b k;obtain⟨loc,hm,rfl⟩:=rx;cases D:Nat.beq v.cells.length n
   ·grind
   ·rw[D]at Z;simp only[cond_true]at Z;have hn:=py D;have rc:=ry.cells;obtain⟨w',U,H',E'⟩:=H.store P hm Z rc;have J:¬I.cells.size≠n:=by have:=rc.length;simp at this|-;omega
    refine⟨undef,w',m,.inr ⟨?_,rfl⟩,⟨[],rfl,rfl⟩,H',E'⟩;simp only[execOp,hy,e.1,e.2,Instr.storeAt,Instr.sureAddr,storeVar,Qz,QL,Qr,cH R];rw[if_neg J];simp[U]
  ·cases Z
 ·cases R
theorem cY(X:Array Value)(elem:TypeId):(newRow elem X).run P w=.ok ⟨w.heap.size,0,none⟩ (w.alloc (.cells X elem)):=by
 simp[newRow]
theorem HRel.alloc_list(H:HRel m h w){c:List V}{Z:List Value}(elem:TypeId)(r:VsRel m c Z):
 HRel (ir m h.next ⟨w.heap.size,0,c.length,none⟩) (halloc h c) (w.alloc (.cells (List.toArray Z) elem))/\
 Ext m h w (ir m h.next ⟨w.heap.size,0,c.length,none⟩) (halloc h c) (w.alloc (.cells (List.toArray Z) elem)):=by
 have:=H.alloc c (List.toArray Z) elem (by simp[r.length]) (fun i v hi=>by obtain⟨x,hx,rx⟩:=r.get i v hi;exact⟨x,by simpa using hx,rx⟩);simpa[r.length]using this
def iW(P:Program)(op:Op)(zero:List V):Bool:=match op with
 |.alloc t=>jP P t zero
 |_=>false
theorem yI(H:HRel m h w){o:Oper}{ρ:Operand->Value}{zero:List V}(Z:iW P o.op zero=true):MS P m h w o ρ (.ptr h.next 0) (halloc h zero):=by
 unfold iW at Z;split at Z
 ·rename_i t hy;obtain⟨z,hz,J⟩:=iF (w:=w) Z;obtain⟨U,R⟩:=H.alloc_list t (dz m _ _ J);refine⟨_,_,_,.inl ?_,⟨_,aC _ _ _,rfl⟩,U,R⟩;exact ya3
 ·cases Z
def yA(op:Op):Bool:=match op with
 |.box _ _=>true
 |_=>false
theorem Cf(H:HRel m h w){o:Oper}{ρ:Operand->Value}{v:V}(Z:yA o.op=true)(J:VsRel m [v] (OV ρ o.op)):MS P m h w o ρ (.ptr h.next 0) (halloc h v.cells):=by
 unfold yA at Z;split at Z
 ·rename_i t a R;obtain⟨x,e,rx⟩:=bJ J;rw[R]at e;simp[Op.operands]at e;obtain⟨I,D⟩:=H.alloc_list t rx.cells;refine⟨_,_,_,.inl ?_,⟨_,aC _ _ _,rfl⟩,I,D⟩;have U:=cY (P:=P) (w:=w) x.cells t;simp[execOp,R,e,Instr.box,newVar,U]
 ·cases Z
end
section
variable {P : Program} {m : M} {h : Heap} {w : World}
def gY(zero:List V)(n:Nat):List V:=Nat.rec (motive:=fun _=>List V) [] (fun _ ih=>zero++ih) n
theorem pV(zero:List V)(n:Nat):(gY zero n).length=n*zero.length:=by
 induction n with
 |zero=>show([]:List V).length=_;simp
 |succ n ih=>show(zero++gY zero n).length=_;simp[ih,Tj,Nat.add_comm]
theorem Ha(zero:List V)(n i:Nat)(hi:i<n*zero.length):(gY zero n)[i]? =zero[i%zero.length]? :=by
 induction n generalizing i with
 |zero=>simp at hi
 |succ n ih=>
  show(zero++gY zero n)[i]? =_;by_cases c:i<zero.length
  ·rw[List.getElem?_append_left c,Nat.mod_eq_of_lt c]
  ·rw[List.getElem?_append_right oM,ih (i-zero.length) (by rw[Nat.succ_mul]at hi;omega),←Nat.mod_eq_sub_mod oM]
theorem oH{zero:List V}{z:List Value}(r:VsRel m zero z)(n:Nat):VsRel m (gY zero n) ((Array.range (n*z.length)).map fun i=>z.toArray[i%z.toArray.size]!).toList:=by
 have R:=r.length;refine VsRel.of_get (by simp[pV,R]) fun i v U=>?_;have Z:i<n*zero.length:=by
  rcases Rn i (n*zero.length)with q|q
  ·exact q
  ·rw[SF (by rw[pV];exact q)]at U;cases U
 rw[Ha _ _ _ Z]at U;obtain⟨x,hx,I⟩:=r.get _ _ U;refine⟨x,?_,I⟩;have J:0<z.length:=by grind
 have hm:i%z.length<z.length:=QR _ J;rw[<-R]at hx;simp[R,Z];rw[<-R];rw[Qq hm]at hx;cases hx;simp[hm]
def srcCells(h:Heap)(esz:Nat)(v:V)(n:Nat):Option (List V):=
 match v with
 |.slice b o _ _=>aH h b o (n*esz)
 |.sliceU b o _ _=>aH h b o (n*esz)
 |.nils=>bif Nat.beq n 0 then some []else none
 |.sliceE=>bif Nat.beq n 0 then some []else none
 |.sliceZ _ _=>bif Nat.beq n 0 then some []else none
 |.str s=>bif Nat.beq esz 1&&Nat.beq n s.length then some (s.map fun b=>.int .u8 (Int.ofNat b.toNat))else none
 |_=>none
def srcLen(v:V):Option Nat:=
 match v with
 |.slice _ _ n _=>some n
 |.sliceU _ _ n _=>some n
 |.nils=>some 0
 |.sliceE=>some 0
 |.sliceZ _ _=>some 0
 |.str s=>some s.length
 |_=>none
def kB(v:V):Option Nat:=
 match v with
 |.str _=>none
 |v=>srcLen v
theorem rJ{v:V}{n:Nat}{x:Value}(Z:srcLen v=some n)(r:VRel m v x)(w:World):(Builtin.lenOf x).run P w=.ok n w:=by
 unfold srcLen at Z;split at Z
 ·cases Z;obtain⟨_,_,_,rfl⟩:=r;rfl
 ·cases Z;obtain⟨_,_,_,rfl⟩:=r;rfl
 ·cases Z;simp only[VRel]at r;subst r;rfl
 ·cases Z;obtain⟨_,_,rfl⟩:=r;rfl
 ·cases Z;simp only[VRel]at r;subst r;rfl
 ·cases Z;simp only[VRel]at r;subst r;simp[Builtin.lenOf,ByteArray.size]
 ·cases Z
theorem pL(m:M):∀(s:List UInt8),VsRel m (s.map fun b=>V.int .u8 (Int.ofNat b.toNat)) (s.map fun b=>Value.int .u8 b.toNat)
 |[]=>rfl
 |b::s=>⟨_,_,rfl,rfl,pL m s⟩
theorem jx(H:HRel m h w){esz n:Nat}{v:V}{x:Value}{vs:List V}(Z:srcCells h esz v n=some vs)(r:VRel m v x):
 ∃xs,(Builtin.firstCells esz n x).run P w=.ok (List.toArray xs) w/\VsRel m vs xs/\vs.length=n*esz:=by
 unfold srcCells at Z;split at Z
 ·obtain⟨loc,hm,_,rfl⟩:=r;exact H.load P hm Z
 ·obtain⟨loc,hm,_,rfl⟩:=r;exact H.load P hm Z
 ·cases U:Nat.beq n 0
  ·grind
  ·rw[U]at Z;cases Z;have:=py U;subst this;simp only[VRel]at r;subst r;exact⟨[],rfl,rfl,iS⟩
 ·cases U:Nat.beq n 0
  ·grind
  ·rw[U]at Z;cases Z;have:=py U;subst this;obtain⟨a,c,rfl⟩:=r;refine⟨[],?_,rfl,iS⟩;exact yH
 ·cases U:Nat.beq n 0
  ·grind
  ·rw[U]at Z;cases Z;have:=py U;subst this;simp only[VRel]at r;subst r;refine⟨[],?_,rfl,iS⟩;exact yH
 ·rename_i s;cases U:(Nat.beq esz 1&&Nat.beq n s.length)
  ·grind
  ·rw[U]at Z;simp only[cond_true,QA]at Z;simp only[be]at U;have R:=py U.1;have J:=py U.2;subst R;subst J;subst Z;simp only[VRel]at r;subst r;refine⟨s.map fun b=>Value.int .u8 b.toNat,?_,pL m s,iS⟩;have:((⟨s.toArray⟩:ByteArray).extract 0 s.length).data=s.toArray:=by
    rw[ByteArray.data_extract];simp
   simp only[Builtin.firstCells,this,QL];simp
 ·cases Z
def Ay(h:Heap)(zero:List V)(bytes:Nat)(l c:V):Option (V×Heap):=
 match l,c with
 |.int _ (.ofNat l),.int _ (.ofNat c)=>
  bif Nat.ble l c&&Nat.blt c 9223372036854775808&&Nat.ble (bytes*c) 281474976710656 then some (.slice h.next 0 l c,halloc h (gY zero c))else none
 |_,_=>none
def nj(P:Program)(op:Op)(zero:List V)(bytes:Nat):Bool:=match op with
 |.makeSlice t _ _=>match P.underlying t with
  |some (.slice e)=>jP P e zero&&dQ P e zero.length&&Nat.blt 0 zero.length&&(match P.info? e with|some i=>Nat.beq i.bytes bytes|none=>false)
  |_=>false
 |_=>false
theorem jr{n:Nat}(Z:n<9223372036854775808):IntKind.i64.wrap (Int.ofNat n)=(n:Int):=by
 rw[<-bq];show(bif Nat.blt n 9223372036854775808 then _ else _)=_;have:Nat.blt n 9223372036854775808=true:=by rw[QJ];exact Z
 rw[this];rfl
theorem Ax(H:HRel m h w){o:Oper}{ρ:Operand->Value}{zero:List V}{bytes:Nat}{l c v:V}{h':Heap}(Z:nj P o.op zero bytes=true)(hv:VsRel m [l,c] (OV ρ o.op))
 (U:Ay h zero bytes l c=some (v,h')):MS P m h w o ρ v h':=by
 unfold nj at Z;split at Z
 ·rename_i t a b hy;split at Z
  ·rename_i e hu;simp only[be,QJ]at Z;obtain⟨⟨⟨hz,hsz⟩,ab⟩,J⟩:=Z;split at J
   ·rename_i i hinf;have ad:=py J;obtain⟨x',y',e',rx,ry⟩:=bR hv;rw[hy]at e';change[ρ a,ρ b]=[x',y']at e';simp only[QC,and_true]at e';unfold Ay at U;split at U
    ·rename_i k1 l k2 c;cases R:(Nat.ble l c&&Nat.blt c 9223372036854775808&&Nat.ble (bytes*c) 281474976710656)
     ·grind
     ·rw[R]at U;simp only[cond_true,QA,Re]at U;obtain⟨rfl,rfl⟩:=U;simp only[be,QJ]at R;obtain⟨⟨D,h2⟩,h3⟩:=R;have D:=Qt D;have h3:=Qt h3;simp only[VRel]at rx ry;obtain⟨z,hzz,I⟩:=iF (w:=w) hz;have rz:=dz m _ _ I;have hzl:=rz.length;have rel:=oH rz c;obtain⟨H',E'⟩:=H.alloc_list e rel;refine⟨_,_,_,.inl ?_,⟨_,aC _ _ _,D,rfl⟩,H',E'⟩;exact yd
    ·cases U
   ·cases J
  ·cases Z
 ·cases Z
def mkN(bytes:Nat)(l c:V):Option (Nat×Nat):=
 match l,c with
 |.int _ (.ofNat l),.int _ (.ofNat c)=>bif Nat.ble l c&&Nat.blt c 9223372036854775808&&Nat.ble (bytes*c) 281474976710656 then some (l,c)else none
 |_,_=>none
theorem Ga{o:Oper}{ρ:Operand->Value}{zero:List V}{bytes:Nat}{l c:V}{n k:Nat}(Z:nj P o.op zero bytes=true)(hv:VsRel m [l,c] (OV ρ o.op))
 (U:mkN bytes l c=some (n,k)):∃X elem,(execOp ρ o).run P w=.ok (.value (.slice (some ⟨w.heap.size,0,none⟩) n k)) (w.alloc (.cells X elem))/\VsRel m (gY zero k) X.toList/\n<=k:=by
 unfold nj at Z;split at Z
 ·rename_i t a b hy;split at Z
  ·rename_i e hu;simp only[be,QJ]at Z;obtain⟨⟨⟨hz,hsz⟩,ab⟩,J⟩:=Z;split at J
   ·rename_i i hinf;have ad:=py J;obtain⟨x',y',e',rx,ry⟩:=bR hv;rw[hy]at e';change[ρ a,ρ b]=[x',y']at e';simp only[QC,and_true]at e';unfold mkN at U;split at U
    ·rename_i k1 l k2 c;cases R:(Nat.ble l c&&Nat.blt c 9223372036854775808&&Nat.ble (bytes*c) 281474976710656)
     ·grind
     ·rw[R]at U;simp only[cond_true,QA,Re]at U;obtain⟨rfl,rfl⟩:=U;simp only[be,QJ]at R;obtain⟨⟨D,h2⟩,h3⟩:=R;have D:=Qt D;have h3:=Qt h3;simp only[VRel]at rx ry;obtain⟨z,hzz,I⟩:=iF (w:=w) hz;have rz:=dz m _ _ I;have hzl:=rz.length;have rel:=oH rz c;refine⟨_,e,?_,rel,D⟩;exact yd
    ·cases U
   ·cases J
  ·cases Z
 ·cases Z
end
section
variable {P : Program} {m : M} {h : Heap} {w : World}
def iI(esz:Nat):List (Nat×Operand)->List (Nat×Nat)->Bool
 |[],[]=>true
 |(i,_)::ps,(off,n)::qs=>Nat.beq off (i*esz)&&Nat.beq n esz&&iI esz ps qs
 |_,_=>false
theorem mK{esz:Nat}{ρ:Operand→Value}:∀(qs:List (Nat×Nat))(ps:List (Nat×Operand)),iI esz ps qs=true→
 (ps.map fun p=>(p.1,ρ p.2)).map (fun p=>some (p.1*esz,esz))=qs.map some
 |[],[],_=>rfl
 |[],_::_,h=>by simp[iI]at h
 |_::_,[],h=>by simp[iI]at h
 |(off,n)::qs,(i,x)::ps,h=>by
  simp only[iI,Bool.and_eq_true]at h;have h1:=Nat.eq_of_beq_eq_true h.1.1;have h2:=Nat.eq_of_beq_eq_true h.1.2;simp only[List.map_cons,mK qs ps h.2,h1,h2]
def jI(h:Heap)(zero:List V)(places:List (Nat×Nat))(len:Nat)(vs:List V):Option (V×Heap):=
 match dP (gY zero len) places vs with
 |some c=>some (.slice h.next 0 len len,halloc h c)
 |none=>none
def kT(P:Program)(op:Op)(zero:List V)(places:List (Nat×Nat))(len:Nat):Bool:=match op with
 |.buildSlice t len' parts=>match P.underlying t with
  |some (.slice e)=>Nat.beq len len'&&jP P e zero&&dQ P e zero.length&&Nat.blt 0 zero.length&&Nat.ble (len*zero.length) 16777216&&iI zero.length parts.toList places
  |_=>false
 |_=>false
theorem qF{o:Oper}{ρ:Operand->Value}{zero:List V}{Z:List (Nat×Nat)}{len:Nat}{vs c:List V}(D:kT P o.op zero Z len=true)
 (hv:VsRel m vs (OV ρ o.op)) (hf:dP (gY zero len) Z vs=some c):
 ∃X elem,(execOp ρ o).run P w=.ok (.value (.slice (some ⟨w.heap.size,0,none⟩) len len)) (w.alloc (.cells X elem))/\VsRel m c X.toList:=by
 unfold kT at D;split at D
 ·rename_i t aR U hy;split at D
  ·rename_i e hu;simp only[be,QJ]at D;obtain⟨⟨⟨⟨⟨hl,hz⟩,aj⟩,aF⟩,I⟩,ax⟩:=D;have hl:=py hl;have I:=Qt I;subst hl;obtain⟨z,ak,ah⟩:=iF (w:=w) hz;have rz:=dz m _ _ ah;have aA:=rz.length;have rel:=oH rz len;rw[hy]at hv;have aE:VsRel m vs ((U.toList.map fun p=>(p.1,ρ p.2)).map (·.2)):=by simpa[OV,Op.operands,Ue]using hv
   obtain⟨r',h1,h2⟩:=ta (fun i=>some (i*zero.length,zero.length)) Z vs _ (gY zero len) _ c hf rel aE (mK Z U.toList ax);refine⟨List.toArray r',e,?_,by simpa using h2⟩;have ad:=fun X=>cY (P:=P) (w:=w) X e;have R:(U.map fun(p:Nat×Operand)=>(p.1,ρ p.2)).toList=U.toList.map fun p=>(p.1,ρ p.2):=by simp
   have ao:¬len*zero.length>2^24:=oM
   have J:(Array.range (len*zero.length)).map (fun i=>z.cells[i%z.cells.size]!)=List.toArray ((Array.range (len*z.cells.toList.length)).map fun i=>z.cells.toList.toArray[i%z.cells.toList.toArray.size]!).toList:=by
    rw[aA]
   simp only[execOp,hy,Instr.buildSlice,Qz,aL hu,Qr,cH aj];rw[if_neg ao];by_cases ab:len*zero.length=0
   ·simp only[ab,if_true,Qz,QL,Qr];have e1:(Array.range 0).map (fun i=>(#[]:Array Value)[i%(#[]:Array Value).size]!)=List.toArray ((Array.range (len*z.cells.toList.length)).map fun i=>z.cells.toList.toArray[i%z.cells.toList.toArray.size]!).toList:=by grind
    rw[e1,R,h1];simp[ad]
   ·rw[if_neg ab];simp only[Qz,ak,Qr,QL];rw[J,R,h1];simp[ad]
  ·cases D
 ·cases D
theorem uJ(H:HRel m h w){o:Oper}{ρ:Operand->Value}{zero:List V}{Z:List (Nat×Nat)}{len:Nat}{vs:List V}{v:V}{h':Heap}(J:kT P o.op zero Z len=true)
 (hv:VsRel m vs (OV ρ o.op)) (R:jI h zero Z len vs=some (v,h')):MS P m h w o ρ v h':=by
 unfold jI at R;split at R
 ·rename_i c hf;simp only[QA,Re]at R;obtain⟨rfl,rfl⟩:=R;obtain⟨X,e,U,rX⟩:=qF (P:=P) (w:=w) J hv hf;obtain⟨I,D⟩:=H.alloc_list e rX;refine⟨_,_,_,.inl ?_,⟨_,aC _ _ _,pi _,rfl⟩,I,D⟩;simpa using U
 ·cases R
def AB(h:Heap)(esz:Nat)(d s:V):Option (V×Heap):=
 match kB d,srcLen s with
 |some dl,some sl=>
  let n:=Nat.min sl dl
  bif Nat.beq n 0 then some (.int .i64 0,h)else
   match srcCells h esz s n with
   |some vs=>
    match d with
    |.slice b o _ _=>(dk h b o vs).map fun h'=>(.int .i64 n,h')
    |.sliceU b o _ _=>(dk h b o vs).map fun h'=>(.int .i64 n,h')
    |_=>none
   |none=>none
 |_,_=>none
def yy(P:Program)(op:Op)(esz:Nat):Bool:=match du op .copy with
 |some (args,ts)=>Nat.beq args.size 2&&(match ts[0]? with|some t=>kA P t none esz|none=>false)
 |none=>false
theorem rj{op:Op}{b:Builtin}{args:Array Operand}{R:Array TypeId}(Z:du op b=some (args,R))(h:args.size=2):∃x y,op=.call {callee:=.builtin b,args:= #[x,y],argTypes:=R}:=by
 unfold du at Z;split at Z
 ·rename_i D U I;split at Z
  ·rename_i J;subst J;simp only[QA,Re]at Z;obtain⟨rfl,rfl⟩:=Z;obtain⟨l⟩:=U;match l,h with
   |[x,y],_=>exact⟨x,y,rfl⟩
  ·cases Z
 ·cases Z
theorem VRel.nonnil{v:V}{x:Value}{n:Nat}(r:VRel m v x)(Z:kB v=some n):∃a c,x=.slice a n c:=by
 unfold kB at Z;split at Z
 ·cases Z
 rename_i U;unfold srcLen at Z;split at Z
 ·cases Z;obtain⟨_,_,_,rfl⟩:=r;exact⟨_,_,rfl⟩
 ·cases Z;obtain⟨_,_,_,rfl⟩:=r;exact⟨_,_,rfl⟩
 ·cases Z;exact⟨_,_,r⟩
 ·cases Z;obtain⟨_,_,rfl⟩:=r;exact⟨_,_,rfl⟩
 ·cases Z;exact⟨_,_,r⟩
 ·grind
 ·cases Z
theorem Il{v:V}{x:Value}{n:Nat}(r:VRel m v x)(Z:srcLen v=some n)(esz:Nat)(w:World):(Builtin.firstCells esz 0 x).run P w=.ok #[] w:=by
 unfold srcLen at Z;split at Z
 ·obtain⟨_,_,_,rfl⟩:=r;exact yH
 ·obtain⟨_,_,_,rfl⟩:=r;exact yH
 ·simp only[VRel]at r;subst r;simp[Builtin.firstCells]
 ·obtain⟨_,_,rfl⟩:=r;exact yH
 ·simp only[VRel]at r;subst r;exact yH
 ·simp only[VRel]at r;subst r;simp[Builtin.firstCells]
 ·cases Z
theorem AA(H:HRel m h w){o:Oper}{ρ:Operand->Value}{esz:Nat}{d s v:V}{h':Heap}(J:yy P o.op esz=true)(hv:VsRel m [d,s] (OV ρ o.op))
 (hs:AB h esz d s=some (v,h')):MS P m h w o ρ v h':=by
 unfold yy at J;split at J
 ·rename_i args ts aj;simp only[be]at J;obtain⟨ad,ht⟩:=J;split at ht
  ·rename_i t ao;obtain⟨e,hu,ak⟩:=mw ht;obtain⟨x,y,hy⟩:=rj aj (py ad);obtain⟨x',y',D,rx,ry⟩:=bR hv;rw[hy]at D;change[ρ x,ρ y]=[x',y']at D;simp only[QC,and_true]at D;unfold AB at hs;split at hs
   ·rename_i dl sl aF ab;obtain⟨da,dc,hdx⟩:=rx.nonnil aF;have R:=fun w=>rJ (P:=P) ab ry w;have base:∀w1,(execOp ρ o).run P w1=((Builtin.firstCells esz (Nat.min sl dl) y').run P w1).andThen fun cells w2=>
     ((match da with|some a=>storeCells a cells.toList|none=>pure ()).run P w2).andThen fun _ w3=>.ok (.value (goInt (Nat.min sl dl))) w3:=by
     intro w1;simp only[execOp,hy,resolve,invoke,builtin,Builtin.copy_,Qz,QL,Qr];simp only[List.map_toArray,QU,TR,D.1,D.2,ao,hdx,aL hu,R,cH ak,Qz,Qr,
      TI,SP,SO]
     cases(Builtin.firstCells esz (Nat.min sl dl) y').run P w1 with
     |halt x y=>rfl
     |ok cells w2=>
      simp only[Qr];cases da with
      |none=>rfl
      |some a=>simp only[Qz,QL];cases(storeCells a cells.toList).run P w2<;>rfl
    cases hb:Nat.beq (Nat.min sl dl) 0
    ·simp only[hb,cond_false]at hs;split at hs
     ·rename_i vs aE;obtain⟨xs,ax,aA,a0⟩:=jx (P:=P) H aE ry;have fin:∀b k loc,m b=some loc->da=some ⟨loc.block,loc.base+k,none⟩->(dk h b k vs).map (fun h'=>(V.int .i64 (Nat.min sl dl:Nat),h'))=some (v,h')->MS P m h w o ρ v h':=by
       intro b k loc hm aR U;cases Z:dk h b k vs with
       |none=>rw[Z]at U;cases U
       |some h2=>
        rw[Z]at U;simp only[QG,QA,Re]at U;obtain⟨rfl,rfl⟩:=U;obtain⟨w',I,H',E'⟩:=H.store P hm Z aA;refine⟨_,w',m,.inl ?_,rfl,H',E'⟩;rw[base w,ax,aR];simp[I,goInt]
      split at hs
      ·exact y5
      ·exact y5
      ·cases hs
     ·cases hs
    ·simp only[hb,cond_true,QA,Re]at hs;obtain⟨rfl,rfl⟩:=hs;have ah:=py hb;refine⟨_,w,m,.inl ?_,rfl,H,Sa _ _ _⟩;rw[base w,ah];rw[Il ry ab esz w];cases da<;>simp[storeCells,goInt]
   ·cases hs
  ·cases ht
 ·cases J
end
section
variable {P : Program} {m : M} {h : Heap} {w : World}
theorem v9(newLen:Nat):∀r c,c<newLen->Builtin.growBy newLen r c<=2*newLen+1024
 |0,c,hc=>by simp only[Builtin.growBy];omega
 |r+1,c,hc=>by
  simp only[Builtin.growBy];rw[if_neg oM];by_cases hn:c+(c+768)/4<newLen
  ·exact v9 newLen r _ hn
  ·cases r with
   |zero=>simp only[Builtin.growBy];omega
   |succ r=>simp only[Builtin.growBy];rw[if_pos oM];omega
theorem Bk{Z cap:Nat}(U:cap<Z):Builtin.nextslicecap Z cap<=2*Z+1024:=by
 unfold Builtin.nextslicecap;split
 ·omega
 ·split
  ·omega
  ·exact v9 Z 4 cap U
def pJ(P:Program)(op:Op)(esz bytes:Nat):Bool:=match du op .append with
 |some (args,ts)=>Nat.beq args.size 2&&(match ts[0]?,ts[1]? with
  |some t,some tx=>(match P.underlying t,P.underlying tx with
   |some (.slice e),some dx=>(match dx with|.slice _=>true|.string=>true|_=>false)&&(match P.info? e with
    |some i=>Nat.beq i.size esz&&Nat.beq i.bytes bytes&&(match i.zero with|some z=>Nat.beq z.cells.size esz|none=>false)
    |none=>false)
   |_,_=>false)
  |_,_=>false)&&Nat.blt 0 esz&&Nat.blt 0 bytes
 |none=>false
structure AppFacts(P:Program)(o:Oper)(esz bytes:Nat)(x y:Operand)(elem:TypeId)(z:Value):Prop where
 pos:0<esz
 zsz:z.cells.size=esz
 fits:∀(ρ:Operand->Value)(w:World)(base:Option Addr)(sLen sCap n:Nat),ρ x=.slice base sLen sCap->(Builtin.lenOf (ρ y)).run P w=.ok n w->sLen+n<=sCap->
  (execOp ρ o).run P w=((Builtin.firstCells esz n (ρ y)).run P w).andThen fun new w1=>
   ((match base with|some a=>storeCells (a.add (sLen*esz)) new.toList|none=>pure ()).run P w1).andThen fun _ w2=>.ok (.value (.slice base (sLen+n) sCap)) w2
 grows:∀(ρ:Operand->Value)(w:World)(base:Option Addr)(sLen sCap n:Nat),ρ x=.slice base sLen sCap->(Builtin.lenOf (ρ y)).run P w=.ok n w->¬sLen+n<=sCap->
  (2*(sLen+n)+1024) *bytes<=281474976710656->∃newCap,sLen+n<=newCap/\
  (execOp ρ o).run P w=((Builtin.firstCells esz sLen (ρ x)).run P w.drew).andThen fun old w1=>((Builtin.firstCells esz n (ρ y)).run P w1).andThen fun new w2=>
   ((newRow elem (old++new++Builtin.zeroCells z.cells (newCap-(sLen+n)))).run P w2).andThen fun a w3=>.ok (.value (.slice (some a) (sLen+n) newCap)) w3
theorem FV{o:Oper}{esz bytes:Nat}(hc:pJ P o.op esz bytes=true):∃x y ts elem z,o.op=.call {callee:=.builtin .append,args:= #[x,y],argTypes:=ts}/\AppFacts P o esz bytes x y elem z/\∃t,ts[0]? =some t/\P.underlying t=some (.slice elem):=by
 unfold pJ at hc;split at hc
 ·rename_i args ts ax;simp only[be,QJ]at hc;obtain⟨⟨⟨aj,ht⟩,ah⟩,a0⟩:=hc;obtain⟨x,y,hy⟩:=rj ax (py aj);split at ht
  ·rename_i t tx I ab;split at ht
   ·rename_i e dx hu ad;simp only[be]at ht;obtain⟨aR,ht⟩:=ht;have J:(∃e2,dx=.slice e2)\/dx=.string:=by grind
    rcases J with⟨e2,rfl⟩|rfl;all_goals
     split at ht
     ·rename_i i D;simp only[be]at ht;obtain⟨⟨h1,h2⟩,h3⟩:=ht;split at h3
      ·rename_i z hz;have h1:=py h1;have h2:=py h2;have h3:=py h3;refine⟨x,y,ts,e,z,hy,⟨ah,h3,?_,?_⟩,t,I,hu⟩
       ·intro ρ w base Z U n hx hl R;simp only[execOp,hy,resolve,invoke,builtin,Builtin.append_,Qz,QL,Qr];simp only[List.map_toArray,QU,TR,hx,I,ab,aL hu,aL ad,hl,sizeOf,eJ D,h1,Qz,QL,Qr,
         TI,SP,SO,QQ,if_false,if_pos R,Bool.not_false,if_true]
        cases(Builtin.firstCells esz n (ρ y)).run P w with
        |halt a b=>rfl
        |ok new w1=>
         simp only[Qr];cases base with
         |none=>rfl
         |some a=>simp only[Qz,QL];cases(storeCells (a.add (Z*esz)) new.toList).run P w1<;>rfl
       ·intro ρ w base Z U n hx hl R aF;refine⟨(Question.appendCap (Z+n) U e).cut (w.tape w.drawn (.appendCap (Z+n) U e)),by simp only[Question.cut];omega,?_⟩;have aE:Builtin.nextslicecap (Z+n) U<=2*(Z+n)+1024:=Bk oM;have ak:¬(((Z+n:Nat):Int)>IntKind.i64.max/\(false=true\/i.bytes=0)):=by grind
        have ao:¬Builtin.nextslicecap (Z+n) U*i.bytes>2^48:=by
         rw[h2];have:=Rm bytes aE;omega
        have aA:∀w,(zeroValue e).run P w=.ok z w:=fun w=>by simp[zeroValue,eJ D,hz]
        simp only[execOp,hy,resolve,invoke,builtin,Builtin.append_,Qz,QL,Qr];simp only[List.map_toArray,QU,TR,hx,I,ab,aL hu,aL ad,hl,sizeOf,eJ D,h1,Qz,QL,Qr,
         TI,SP,SO,QQ,if_false,if_neg R,Bool.not_false,if_true]
        rw[if_neg (eV ak)];simp only[Qz,eJ D,Qr];rw[if_neg ao];simp only[Qz,run_choose,Question.forced,QQ,if_false,Qr,eJ D,run_askRoom,QL,World.drew_eq];cases(Builtin.firstCells esz Z (.slice base Z U)).run P w.drew with
        |halt a b=>rfl
        |ok old w1=>
         simp only[Qr];cases(Builtin.firstCells esz n (ρ y)).run P w1 with
         |halt a b=>rfl
         |ok new w2=>
          simp only[Qr,aA];cases(newRow e (old++new++Builtin.zeroCells z.cells ((Question.appendCap (Z+n) U e).cut (w.tape w.drawn (.appendCap (Z+n) U e))-(Z+n)))).run P w2<;>rfl
      ·cases h3
     ·cases ht
   ·cases ht
  ·cases ht
 ·cases hc
end
def kF(h:Heap)(esz bytes need:Nat)(c:List V):Option (V×Heap):=
 bif Nat.ble ((2*need+1024) *bytes) 281474976710656 then some (.sliceU h.next 0 need esz,halloc h c)else none
def dK(h:Heap)(esz bytes:Nat)(s x:V):Option (V×Heap):=
 match srcLen x with
 |none=>none
 |some n=>
  bif Nat.beq n 0 then
   match kB s with
   |some _=>some (s,h)
   |none=>none
  else
   match srcCells h esz x n with
   |none=>none
   |some xs=>
    match s with
    |.nils=>kF h esz bytes n xs
    |.slice b o len cap=>
     bif Nat.ble (len+n) cap then(dk h b (o+len*esz) xs).map fun h'=>(.slice b o (len+n) cap,h')
     else match aH h b o (len*esz)with
      |some old=>kF h esz bytes (len+n) (old++xs)
      |none=>none
    |.sliceU b o len e=>
     bif Nat.beq e esz&&Nat.ble ((2*(len+n)+1024) *bytes) 281474976710656 then
      match dt h b with
      |some c=>
       bif Nat.ble (o+(len+n) *esz) c.length then(dk h b (o+len*esz) xs).map fun h'=>(.sliceU b o (len+n) e,h')
       else bif Nat.ble (o+len*esz) c.length&&az xs then
        match dL (len*esz) (fQ c o)with
        |some old=>(jB h b (o+len*esz) (old++xs)).map fun h'=>(.sliceU h.next 0 (len+n) e,h')
        |none=>none
       else none
      |none=>none
     else none
    |_=>none
section
variable {P : Program} {m : M} {h : Heap} {w : World}
theorem jQ(z:Array Value)(n:Nat):(Builtin.zeroCells z n).size=n*z.size:=by simp[Builtin.zeroCells]
theorem HRel.drew(H:HRel m h w):HRel m h w.drew:=H.congr rfl
theorem qg{h':Heap}{b o:Nat}{vs:List V}(x:dk h b o vs=some h'):h'.next=h.next:=by
 obtain⟨_,_,_,_,_,_,_,_,q,_⟩:=qf x;exact q
def MS2(P:Program)(m:M)(h:Heap)(w:World)(o:Oper)(ρ:Operand->Value)(v:V)(h':Heap)(elem:TypeId)(s:V):Prop:=
 ∃x w' m',MG ((execOp ρ o).run P w) x w'/\VRel m' v x/\HRel m' h' w'/\Ext m h w m' h' w'/\
  (h'.next=h.next\/∃loc C fz t,m' h.next=some loc/\w'.heap[loc.block]? =some (.cells C t fz)/\
   ((loc.base=0/\t=elem)\/∃b k n e lb D fz',s=.sliceU b k n e/\m b=some lb/\loc.base=lb.base+k/\w.heap[lb.block]? =some (.cells D t fz')))
theorem qD(H:HRel m h w){o:Oper}{ρ:Operand->Value}{esz bytes:Nat}{x y:Operand}{elem:TypeId}{z:Value}(F:AppFacts P o esz bytes x y elem z)
 {base:Option Addr} {len cap n:Nat} {old I:List V} {v:V} {h':Heap} (hx:ρ x=.slice base len cap) (hn:∀w,(Builtin.lenOf (ρ y)).run P w=.ok n w) (ab:¬len+n<=cap)
 (R:∃ys,(Builtin.firstCells esz len (ρ x)).run P w.drew=.ok (List.toArray ys) w.drew/\VsRel m old ys/\old.length=len*esz)
 (hnew:∃ys,(Builtin.firstCells esz n (ρ y)).run P w.drew=.ok (List.toArray ys) w.drew/\VsRel m I ys/\I.length=n*esz)
 (D:kF h esz bytes (len+n) (old++I)=some (v,h')) {s:V}:MS2 P m h w o ρ v h' elem s:=by
 unfold kF at D;cases hb:Nat.ble ((2*(len+n)+1024) *bytes) 281474976710656
 ·grind
 ·rw[hb]at D;simp only[cond_true,QA,Re]at D;obtain⟨rfl,rfl⟩:=D;obtain⟨nc,J,Z⟩:=F.grows ρ w base len cap n hx (hn w) ab (Qt hb);obtain⟨ys,h1,r1,l1⟩:=R;obtain⟨zs,h2,r2,l2⟩:=hnew;rw[h1]at Z;simp only[Qr]at Z;rw[h2]at Z;simp only[Qr,cY]at Z;have rr:=Tg r1 r2;have ad:=r1.length;have ah:=r2.length;have U:(List.toArray ys++List.toArray zs++Builtin.zeroCells z.cells (nc-(len+n))).size=nc*esz:=by
   simp[jQ,F.zsz,ad,ah,l1,l2,<-Sw];congr 1;omega
  have:=H.drew.alloc (old++I) (List.toArray ys++List.toArray zs++Builtin.zeroCells z.cells (nc-(len+n))) elem
   (by rw[U];simp[l1,l2,<-Sw];exact Rm _ J)
   (fun i v hi=>by
    obtain⟨q,hq,rq⟩:=rr.get i v hi;refine⟨q,?_,rq⟩;have aj:=(QD.1 hq).1;rw[Sy (eV aj)];simpa using hq)
  obtain⟨H',E'⟩:=this;refine⟨_,_,_,.inl Z,⟨_,aC _ _ _,?_,?_⟩,H',(Ext.drew m h w).trans E',.inr ⟨_,_,_,_,aC _ _ _,heap_alloc_new w.drew _,.inl ⟨rfl,rfl⟩⟩⟩
  ·simp only[U,Sh];rw[Te _ F.pos];exact J
  ·simp only[U,Sh];rw[Te _ F.pos]
theorem qG(H:HRel m h w){o:Oper}{ρ:Operand->Value}{esz bytes:Nat}{s x v:V}{h':Heap}(hc:pJ P o.op esz bytes=true)(hv:VsRel m [s,x] (OV ρ o.op))
 (Z:dK h esz bytes s x=some (v,h')):∃elem,(∃args ts t,du o.op .append=some (args,ts)/\ts[0]? =some t/\P.underlying t=some (.slice elem))/\MS2 P m h w o ρ v h' elem s:=by
 obtain⟨ox,oy,ts,elem,z,hy,F,t0,bY,bN⟩:=FV hc;refine⟨elem,⟨#[ox,oy],ts,t0,by rw[hy];simp[du],bY,bN⟩,?_⟩;obtain⟨x',y',e',rx,ry⟩:=bR hv;rw[hy]at e';change[ρ ox,ρ oy]=[x',y']at e';simp only[QC,and_true]at e';unfold dK at Z;split at Z
 ·cases Z
 ·rename_i n hn;have ad:∀w,(Builtin.lenOf (ρ oy)).run P w=.ok n w:=fun w=>by rw[e'.2];exact rJ hn ry w
  cases hb:Nat.beq n 0
  ·simp only[hb,cond_false]at Z;split at Z
   ·cases Z
   ·rename_i xs bo;have hnew:∃ys,(Builtin.firstCells esz n (ρ oy)).run P w.drew=.ok (List.toArray ys) w.drew/\VsRel m xs ys/\xs.length=n*esz:=by
     rw[e'.2];exact jx (P:=P) H.drew bo ry
    have ao:∃ys,(Builtin.firstCells esz n (ρ oy)).run P w=.ok (List.toArray ys) w/\VsRel m xs ys/\xs.length=n*esz:=by
     rw[e'.2];exact jx (P:=P) H bo ry
    have bf:n≠0:=by intro q;subst q;simp at hb
    split at Z
    ·
     simp only[VRel]at rx;have U:=e'.1.trans rx;refine qD (old:=[]) (len:=0) H F U ad oM ⟨[],?_,rfl,iS⟩ hnew (eV Z);rw[U];rfl
    ·
     rename_i b k len cap;obtain⟨loc,hm,bw,U⟩:=rx;have U:=e'.1.trans U;cases I:Nat.ble (len+n) cap
     ·simp only[I,cond_false]at Z;split at Z
      ·rename_i old ax;refine qD H F U ad (by intro q;rw[Nat.ble_eq_true_of_le q]at I;cases I) ?_ hnew Z;rw[U];exact H.drew.load P hm ax
      ·cases Z
     ·simp only[I,cond_true]at Z;have I:=Qt I;cases R:dk h b (k+len*esz) xs with
      |none=>rw[R]at Z;cases Z
      |some h2=>
       rw[R]at Z;simp only[QG,QA,Re]at Z;obtain⟨rfl,rfl⟩:=Z;obtain⟨ys,h1,r1,l1⟩:=ao;obtain⟨w',J,H',E'⟩:=H.store P hm R r1;refine⟨_,w',m,.inl ?_,⟨loc,hm,I,rfl⟩,H',E',.inl (qg R)⟩;rw[F.fits ρ w _ len cap n U (ad w) I,h1];simp only[Qr,gu,RT,J]
    ·
     rename_i b k len e;obtain⟨loc,hm,bw,U⟩:=rx;have U:=e'.1.trans U;cases aF:(Nat.beq e esz&&Nat.ble ((2*(len+n)+1024) *bytes) 281474976710656)
     ·rw[aF]at Z;cases Z
     ·rw[aF]at Z;simp only[cond_true]at Z;simp only[be]at aF;have he:=py aF.1;subst he;have bc:=Qt aF.2;split at Z
      ·rename_i c aA;obtain⟨f,mk,hg,bE⟩:=jF aA;obtain⟨bk,a9,rel⟩:=H.blk b loc hm;rw[hg]at a9;cases a9;obtain⟨C,el,fz,hC,bT,ce,a8,bh⟩:=rel bE;cases I:Nat.ble (k+(len+n) *e) c.length
       ·simp only[I,cond_false]at Z;have b6:¬k+(len+n) *e<=c.length:=by intro q;rw[Nat.ble_eq_true_of_le q]at I;cases I
        cases a1:(Nat.ble (k+len*e) c.length&&az xs)
        ·rw[a1]at Z;cases Z
        rw[a1]at Z;simp only[cond_true]at Z;simp only[be]at a1;have bm:=Qt a1.1;have a6:=a1.2;split at Z
        ·rename_i old ax;obtain⟨ak,br⟩:=iE ax;rw[bA]at ak br;cases a5:jB h b (k+len*e) (old++xs)with
         |none=>rw[a5]at Z;cases Z
         |some h2=>
          rw[a5]at Z;simp only[QG,QA,Re]at Z;obtain⟨rfl,rfl⟩:=Z;obtain⟨ys,bv,r1,l1⟩:=ao;have ci:=r1.length;have ah:old.length=len*e:=by rw[ak];simp at br|-;omega
          have a3:∀i:Nat,i<len*e->old[i]? =c[k+i]? :=by
           intro i hi;rw[ak,Sc,if_pos hi,Rl]
          have b7:(len+n) *e=len*e+n*e:=Sw _ _ _;have aE:=F.pos;have ch:0<n*e:=Uj oM aE;by_cases ab:len+n<=(loc.room-k)/e
          ·
           have cc:(len+n) *e<=loc.room-k:=by
            have:=Rm e ab;exact QY this (Nat.div_mul_le_self _ _)
           obtain⟨w',J,R⟩:=jT P loc.block (loc.base+(k+len*e)) el fz ys 0 C w hC oM
            (fun j hj=>by have:=bh (k+len*e+j) oM;rwa[(oM:loc.base+(k+len*e+j)=loc.base+(k+len*e)+0+j)]at this)
            (vD a6 r1)
           obtain⟨C',a4,bg,aj⟩:=R.row C el fz hC;have a2:=H.super (loc':=⟨loc.block,loc.base+k,loc.room-k,none⟩) (news:=xs) (w':=w') hm hg a5 (eG ah) bm oM
            ⟨pi _,by simp[ah,l1];omega⟩
            ⟨C',el,fz,a4,by simp only[];omega,fun i u hi=>by
             simp only[];rw[aj (loc.base+k+i)];by_cases a7:i<len*e
             ·rw[Sk oM,a3 i a7]at hi;rw[if_neg oM,RT];exact a8 _ u hi
             ·rw[Rv oM]at hi;obtain⟨q,hq,rq⟩:=r1.get _ _ hi;have cj:=(QD.1 hq).1;refine⟨q,?_,rq⟩;rw[if_pos oM,if_pos oM,<-hq];congr 1;omega,
             fun i hi=>by simp only[]at hi|-;have:=bh (k+i) oM;rwa[<-RT]at this⟩
            (.inr ⟨rfl,rfl,R.other,fun C0 bK bP aR=>by
             rw[hC]at aR;cases aR;exact⟨C',a4,bg,fun j hj=>by rw[aj j,if_neg oM]⟩⟩)
            (fun _=>⟨by simp only[];omega,fun C0 bK bP C1 aR bn j hj=>by
             rw[hC]at aR;cases aR;rw[a4]at bn;cases bn;rw[aj j,if_neg oM]⟩)
            (by rw[R.size];exact pi _) (by rw[R.size];exact H.inb b loc hm) R.os R.tape R.output
           obtain⟨H',E'⟩:=a2;refine⟨_,w',_,.inl ?_,⟨_,aC _ _ _,ab,rfl⟩,H',E',.inr ⟨_,C',fz,el,aC _ _ _,a4,.inr ⟨b,k,len,e,loc,C,fz,rfl,hm,rfl,hC⟩⟩⟩;rw[F.fits ρ w _ len _ n U (ad w) ab,bv];simp only[Qr,gu,RT,J];simp
          ·
           obtain⟨nc,bi,J⟩:=F.grows ρ w _ len _ n U (ad w) ab bc;obtain⟨zs,bB,r2,l2⟩:=hnew;have a0:∃ys,(Builtin.firstCells e len (ρ ox)).run P w.drew=.ok (List.toArray ys) w.drew/\VsRel m old ys/\old.length=len*e:=by
            rw[U];refine H.drew.load P hm ?_;unfold aH;rw[aA];exact ax
           obtain⟨os,h1,ro,lo⟩:=a0;rw[h1]at J;simp only[Qr]at J;rw[bB]at J;simp only[Qr,cY]at J;have rr:=Tg ro r2;have bL:=ro.length;have bz:=r2.length;have bu:(List.toArray os++List.toArray zs++Builtin.zeroCells z.cells (nc-(len+n))).size=nc*e:=by
            simp[jQ,F.zsz,bL,bz,lo,l2,<-Sw];congr 1;omega
           have ca:=Rm e bi;have a2:=H.super (loc':=⟨w.heap.size,0,nc*e,none⟩) (news:=xs) (w':=w.drew.alloc (.cells (List.toArray os++List.toArray zs++Builtin.zeroCells z.cells (nc-(len+n))) elem)) hm hg a5 (eG ah) bm oM
            ⟨pi _,by simp[ah,l1];omega⟩
            ⟨_,elem,(0,0),heap_alloc_new w.drew _,by simp only[bu];omega,fun i u hi=>by
             obtain⟨q,hq,rq⟩:=rr.get i u hi;refine⟨q,?_,rq⟩;have a7:=(QD.1 hq).1;simp only[Rc];rw[Sy (eV a7)];simpa using hq,fun i hi=>by simp⟩
            (.inl ⟨rfl,fun i hi=>heap_alloc_old w.drew _ _ hi⟩) (fun q=>by have:=H.inb b loc hm;simp only[]at q;omega) iS iS rfl rfl rfl
           obtain⟨H',E'⟩:=a2;refine⟨_,_,_,.inl J,⟨_,aC _ _ _,?_,?_⟩,H',E',.inr ⟨_,_,_,_,aC _ _ _,heap_alloc_new w.drew _,.inl ⟨rfl,rfl⟩⟩⟩
           ·simp only[Sh];rw[Te _ aE];exact bi
           ·simp only[Sh];rw[Te _ aE];rfl
        ·cases Z
       ·simp only[I,cond_true]at Z;have I:=Qt I;cases R:dk h b (k+len*e) xs with
        |none=>rw[R]at Z;cases Z
        |some h2=>
         rw[R]at Z;simp only[QG,QA,Re]at Z;obtain⟨rfl,rfl⟩:=Z;obtain⟨ys,h1,r1,l1⟩:=ao;obtain⟨w',J,H',E'⟩:=H.store P hm R r1;have ab:len+n<=(loc.room-k)/e:=by
          rw[Nat.le_div_iff_mul_le F.pos];omega
         refine⟨_,w',m,.inl ?_,⟨loc,hm,ab,rfl⟩,H',E',.inl (qg R)⟩;rw[F.fits ρ w _ len _ n U (ad w) ab,h1];simp only[Qr,gu,RT,J]
      ·cases Z
    ·cases Z
  ·simp only[hb,cond_true]at Z;have bf:=py hb;subst bf;split at Z
   ·rename_i sl D;simp only[QA,Re]at Z;obtain⟨rfl,rfl⟩:=Z;obtain⟨a,c,U⟩:=rx.nonnil D;have bt:sl+0<=c:=by
     unfold kB at D;split at D
     ·cases D
     rename_i bI;unfold srcLen at D;split at D
     ·cases D;obtain⟨_,_,q,e⟩:=rx;rw[U]at e;cases e;exact q
     ·cases D;obtain⟨_,_,q,e⟩:=rx;rw[U]at e;cases e;exact q
     ·cases D;simp only[VRel]at rx;rw[U]at rx;cases rx;omega
     ·cases D;omega
     ·cases D;omega
     ·exact absurd rfl (bI _)
     ·cases D
    refine⟨x',w,m,.inl ?_,rx,H,Sa _ _ _,.inl rfl⟩;rw[F.fits ρ w a sl c 0 (e'.1.trans U) (ad w) bt,e'.2];rw[Il ry hn esz w,U];cases a<;>simp[storeCells]
   ·cases Z
theorem ur(H:HRel m h w){o:Oper}{ρ:Operand->Value}{esz bytes:Nat}{s x v:V}{h':Heap}(I:pJ P o.op esz bytes=true)(J:VsRel m [s,x] (OV ρ o.op))
 (Z:dK h esz bytes s x=some (v,h')):MS P m h w o ρ v h':=by
 obtain⟨_,_,R,w',U,a,b,c,d,_⟩:=qG H I J Z;exact⟨R,w',U,a,b,c,d⟩
end
section
variable {P : Program} {m : M} {h : Heap} {w : World}
def EsRel(m:M):List (V×V×Nat)->List MapEntry->Prop
 |[],es'=>es'=[]
 |(k,v,n)::es,es'=>∃e r,es'=e::r/\VRel m k e.key/\VRel m v e.val/\e.born=n/\EsRel m es r
theorem EsRel.of_get:∀(es:List (V×V×Nat))(es':List MapEntry),es'.length=es.length→(∀(i:Nat) k v n,es[i]? =some (k,v,n)→∃e:MapEntry,es'[i]? =some e∧VRel m k e.key∧VRel m v e.val∧e.born=n)→EsRel m es es'
 |[],es',hl,_=>by cases es'<;>simp_all [EsRel]
 |(k,v,n)::es,[],hl,_=>by simp at hl
 |(k,v,n)::es,e::r,hl,hg=>by
  obtain⟨e',h1,h2⟩:=hg 0 k v n rfl;simp at h1;subst h1;exact⟨e,r,rfl,h2.1,h2.2.1,h2.2.2,EsRel.of_get es r (eV hl) (fun i k v n hi=>by simpa using hg (i+1) k v n (eV hi))⟩
theorem EsRel.length:∀{es:List (V×V×Nat)}{es':List MapEntry},EsRel m es es'->es'.length=es.length
 |[],_,h=>by simp only[EsRel]at h;subst h;rfl
 |(_,_,_)::_,_,⟨_,_,rfl,_,_,_,t⟩=>by simp[EsRel.length t]
theorem EsRel.get:∀{es:List (V×V×Nat)}{es':List MapEntry},EsRel m es es'->∀(i:Nat) k v n,es[i]? =some (k,v,n)->∃e:MapEntry,es'[i]? =some e/\VRel m k e.key/\VRel m v e.val/\e.born=n
 |[],_,_,i,_,_,_,hi=>by simp at hi
 |(_,_,_)::_,_,⟨e,_,rfl,h1,h2,h3,t⟩,0,k,v,n,hi=>by grind
 |(_,_,_)::_,_,⟨_,_,rfl,_,_,_,t⟩,i+1,k,v,n,hi=>by simpa using EsRel.get t i k v n (eV hi)
end
mutual
def vEq:V->V->Bool
 |.bool a,.bool b=> !(xor a b)
 |.int k n,.int k' n'=>jA k k'&&ieq n n'
 |.str s,.str t=>s==t
 |.nilp,.nilp=>true
 |.ptr b o,.ptr b' o'=>Nat.beq b b'&&Nat.beq o o'
 |.nils,.nils=>true
 |.slice b o l c,.slice b' o' l' c'=>Nat.beq b b'&&Nat.beq o o'&&Nat.beq l l'&&Nat.beq c c'
 |.sliceU b o l c,.sliceU b' o' l' c'=>Nat.beq b b'&&Nat.beq o o'&&Nat.beq l l'&&Nat.beq c c'
 |.sliceE,.sliceE=>true
 |.nilm,.nilm=>true
 |.map b,.map b'=>Nat.beq b b'
 |.nilf,.nilf=>true
 |.func f a c,.func f' a' c'=>decide (f=f')&&mE a a'&&mE c c'
 |.nili,.nili=>true
 |.iface t v,.iface t' v'=>Nat.beq t t'&&vEq v v'
 |.agg l,.agg l'=>mE l l'
 |.tup l,.tup l'=>mE l l'
 |.yld b,.yld b'=>Nat.beq b b'
 |.sliceZ a c,.sliceZ a' c'=>decide (a=a')&&Nat.beq c c'
 |_,_=>false
def mE:List V->List V->Bool
 |[],[]=>true
 |v::vs,u::us=>vEq v u&&mE vs us
 |_,_=>false
end
mutual
theorem wY:∀(a b:V),vEq a b=true→a=b
 |.bool a,b,h=>by cases b<;>simp[vEq]at h;rename_i b;cases a<;>cases b<;>simp_all
 |.int k n,b,h=>by
  cases b<;>simp[vEq]at h;rename_i k' n';have:=mP h.1;subst this;have h2:=h.2;rw[fK]at h2;simp at h2;subst h2;rfl
 |.str s,b,h=>by cases b<;>simp[vEq]at h;subst h;rfl
 |.nilp,b,h=>by cases b<;>simp[vEq]at h;rfl
 |.ptr p o,b,h=>by cases b<;>simp[vEq]at h;obtain⟨rfl,rfl⟩:=h;rfl
 |.nils,b,h=>by cases b<;>simp[vEq]at h;rfl
 |.slice p o l c,b,h=>by cases b<;>simp[vEq]at h;obtain⟨⟨⟨rfl,rfl⟩,rfl⟩,rfl⟩:=h;rfl
 |.sliceU p o l c,b,h=>by cases b<;>simp[vEq]at h;obtain⟨⟨⟨rfl,rfl⟩,rfl⟩,rfl⟩:=h;rfl
 |.sliceE,b,h=>by cases b<;>simp[vEq]at h;rfl
 |.nilm,b,h=>by cases b<;>simp[vEq]at h;rfl
 |.map p,b,h=>by cases b<;>simp[vEq]at h;subst h;rfl
 |.nilf,b,h=>by cases b<;>simp[vEq]at h;rfl
 |.func f x y,b,h=>by
  cases b<;>simp only[vEq,Bool.false_eq_true]at h;simp only[Bool.and_eq_true,decide_eq_true_eq]at h;obtain⟨⟨rfl,h1⟩,h2⟩:=h;rw[ju _ _ h1,ju _ _ h2]
 |.nili,b,h=>by cases b<;>simp[vEq]at h;rfl
 |.iface t v,b,h=>by
  cases b<;>simp only[vEq,Bool.false_eq_true]at h;simp only[Bool.and_eq_true]at h;rw[Nat.eq_of_beq_eq_true h.1,wY _ _ h.2]
 |.agg l,b,h=>by cases b<;>simp only[vEq,Bool.false_eq_true]at h;rw[ju _ _ h]
 |.tup l,b,h=>by cases b<;>simp only[vEq,Bool.false_eq_true]at h;rw[ju _ _ h]
 |.yld p,b,h=>by cases b<;>simp[vEq]at h;subst h;rfl
 |.sliceZ a c,b,h=>by cases b<;>simp[vEq]at h;obtain⟨rfl,rfl⟩:=h;rfl
theorem ju:∀(a b:List V),mE a b=true->a=b
 |[],[],_=>rfl
 |[],_::_,h=>by simp[mE]at h
 |_::_,[],h=>by simp[mE]at h
 |v::vs,u::us,h=>by
  simp only[mE,be]at h;rw[wY v u h.1,ju vs us h.2]
end
section
variable {P : Program} {m : M} {h : Heap} {w : World}
theorem EsRel.append{es es2:List (V×V×Nat)}{es' es2':List MapEntry}(a:EsRel m es es')(b:EsRel m es2 es2'):EsRel m (es++es2) (es'++es2'):=by
 induction es generalizing es' with
 |nil=>simp only[EsRel]at a;subst a;exact b
 |cons p es ih=>
  obtain⟨k,v,n⟩:=p;obtain⟨e,r,rfl,h1,h2,h3,t⟩:=a;exact⟨e,r++es2',rfl,h1,h2,h3,ih t⟩
theorem EsRel.set{es:List (V×V×Nat)}{es':List MapEntry}(a:EsRel m es es'){i:Nat}{k v:V}{n:Nat}{e:MapEntry}(h1:VRel m k e.key)(h2:VRel m v e.val)(h3:e.born=n):EsRel m (es.set i (k,v,n)) (es'.set i e):=by
 induction es generalizing es' i with
 |nil=>simp only[EsRel]at a;subst a;simp[EsRel]
 |cons p es ih=>
  obtain⟨k0,v0,n0⟩:=p;obtain⟨e0,r,rfl,g1,g2,g3,t⟩:=a;cases i with
  |zero=>exact⟨e,r,rfl,h1,h2,h3,t⟩
  |succ i=>exact⟨e0,r.set i e,rfl,g1,g2,g3,ih t⟩
end
section
variable {P : Program} {m : M} {h : Heap} {w : World}
def Pe(h:Heap)(zero:List V)(d:V):Option (V×Heap):=
 match d with
 |.nils=>some (.tup [],h)
 |.sliceE=>some (.tup [],h)
 |.slice b o n _=>bif Nat.beq n 0 then some (.tup [],h)else(dk h b o (gY zero n)).map fun h'=>(.tup [],h')
 |.sliceU b o n _=>bif Nat.beq n 0 then some (.tup [],h)else(dk h b o (gY zero n)).map fun h'=>(.tup [],h')
 |_=>none
theorem Hz{op:Op}{b:Builtin}{args:Array Operand}{R:Array TypeId}(Z:du op b=some (args,R))(h:args.size=1):∃x,op=.call {callee:=.builtin b,args:= #[x],argTypes:=R}:=by
 unfold du at Z;split at Z
 ·rename_i D U I;split at Z
  ·rename_i J;subst J;simp only[QA,Re]at Z;obtain⟨rfl,rfl⟩:=Z;obtain⟨l⟩:=U;match l,h with
   |[x],_=>exact⟨x,rfl⟩
  ·cases Z
 ·cases Z
end
section
variable {P : Program} {m : M} {h : Heap} {w : World}
def bytesOf:List V->Option (List UInt8)
 |[]=>some []
 |.int .u8 n::l=>match bytesOf l with
  |some s=>some (UInt8.ofNat n.toNat::s)
  |none=>none
 |_=>none
def nV(h:Heap)(x:V):Option V:=
 match x with
 |.nils=>some (.str [])
 |.slice b o n _=>match aH h b o n with
  |some cs=>(bytesOf cs).map .str
  |none=>none
 |.sliceU b o n _=>match aH h b o n with
  |some cs=>(bytesOf cs).map .str
  |none=>none
 |_=>none
def BU(P:Program)(op:Op):Bool:=match op with
 |.convert src dst _=>(match P.underlying src,P.underlying dst with
  |some (.slice e),some .string=>(match P.underlying e with|some (.int .u8)=>true|_=>false)
  |_,_=>false)
 |_=>false
theorem qz:∀(l:List V)(s:List UInt8)(xs:List Value),bytesOf l=some s→VsRel m l xs→∃ns:List Int,xs=ns.map (Value.int .u8)∧s=ns.map fun n=>UInt8.ofNat n.toNat
 |[],s,xs,hb,r=>by
  simp only[bytesOf,Option.some.injEq]at hb;subst hb;simp only[VsRel]at r;subst r;exact⟨[],rfl,rfl⟩
 |v::l,s,xs,hb,r=>by
  unfold bytesOf at hb;split at hb
  ·rename_i q;cases q
  ·rename_i n l' q;cases q;obtain⟨x,xs',rfl,rx,rt⟩:=r;split at hb
   ·rename_i s' hs';cases hb;obtain⟨ns,h1,h2⟩:=qz l s' xs' hs' rt;simp only[VRel]at rx;exact⟨n::ns,by rw[rx,h1];rfl,by rw[h2];rfl⟩
   ·cases hb
  ·cases hb
theorem wb:∀(ns:List Int)(s:ByteArray),ns.foldl (fun r n=>r.push (UInt8.ofNat n.toNat)) s=⟨s.data++(ns.map fun n=>UInt8.ofNat n.toNat).toArray⟩
 |[],s=>by simp
 |n::ns,s=>by
  rw[List.foldl_cons,wb ns];congr 1;simp[ByteArray.push]
theorem Cg(H:HRel m h w){o:Oper}{ρ:Operand->Value}{x v:V}(Z:BU P o.op=true)(hv:VsRel m [x] (OV ρ o.op))(hs:nV h x=some v):MS P m h w o ρ v h:=by
 unfold BU at Z;split at Z
 ·rename_i src dst a hy;split at Z
  ·rename_i e J I;split at Z
   ·rename_i he;obtain⟨x',e',rx⟩:=bJ hv;rw[hy]at e';change[ρ a]=[x']at e';simp only[QC,and_true]at e';have D:∀b l c,x'=.slice b l c->(execOp ρ o).run P w=((Conv.bytesToString (.slice b l c)).run P w).andThen fun y w'=>.ok (.value y) w':=by
     intro b l c hx;simp only[execOp,hy,e',hx,Qz,run_convert_bytes_string w src dst e b l c J he I,QL]
    have main:∀b k n cs c loc,m b=some loc->x'=.slice (some ⟨loc.block,loc.base+k,none⟩) n c->aH h b k n=some cs->(bytesOf cs).map V.str=some v->MS P m h w o ρ v h:=by
     intro b k n cs c loc hm hx hl R;obtain⟨xs,h1,h2,h3⟩:=H.load P hm hl;cases U:bytesOf cs with
     |none=>rw[U]at R;cases R
     |some s=>
      rw[U]at R;simp only[QG,QA]at R;subst R;obtain⟨ns,q1,q2⟩:=qz cs s xs U h2;rw[q1]at h1;refine⟨.string ⟨s.toArray⟩,w,m,.inl ?_,?_,H,Sa _ _ _⟩
      ·rw[D _ _ _ hx,run_bytesToString w _ n c ns h1,wb,<-q2];show Result.ok (Next.value (.string ⟨#[]++s.toArray⟩)) w=_;rw[Array.empty_append]
      ·simp only[VRel]
    unfold nV at hs;split at hs
    ·cases hs;simp only[VRel]at rx;refine⟨.string .empty,w,m,.inl ?_,?_,H,Sa _ _ _⟩
     ·rw[D _ _ _ rx];rfl
     ·simp only[VRel];rfl
    ·exact yaz
    ·exact yaz
    ·cases hs
   ·cases Z
  ·cases Z
 ·cases Z
end
variable {P : Program} {m : M} {h : Heap} {w : World}
def hsi(h:Heap)(z:List UInt8):Heap:=⟨h.bl.set h.next (.si z 0),h.next+1,h.fams,h.tys⟩
theorem HRel.allocI(H:HRel m h w)(z:List UInt8):HRel (ir m h.next ⟨w.heap.size,0,0,none⟩) (hsi h z) (w.alloc (.stringIter ⟨z.toArray⟩ 0))/\Ext m h w (ir m h.next ⟨w.heap.size,0,0,none⟩) (hsi h z) (w.alloc (.stringIter ⟨z.toArray⟩ 0)):=by
 have Z:=H.le_mset ⟨w.heap.size,0,0,none⟩;refine H.up rfl ⟨⟨⟨?_,?_⟩,?_,?_,?_⟩,⟨Z,?_,TP _,?_,iS,?_,rfl,rfl,rfl,Cov.new m _ _ rfl,fun b U=>Kept.of_eq (heap_alloc_old w _ _ U),sK rfl⟩⟩
 ·intro p cp f k hp;show match h.fams.get f with|none=>f=p|some (_,e)=>k<=e
  rw[hsi,RP]at hp;by_cases e:p=h.next
  ·grind
  ·exact ya7
 ·intro p hp;have J:h.next+1<=p:=hp;refine⟨?_,(H.wf.fresh p oM).2⟩;rw[hsi,Qu _ _ oM];exact(H.wf.fresh p oM).1
 ·intro p loc hp;by_cases e:p=h.next
  ·subst e;rw[aC]at hp;cases hp;exact⟨.si z 0,by rw[hsi,QZ],rfl,heap_alloc_new w _⟩
  ·rw[aK _ _ e]at hp;obtain⟨b,U,r⟩:=H.blk p loc hp;refine⟨b,by rw[hsi,Qu _ _ e];exact U,r.mono Z (fun _ _ _ _ x=>x) (heap_alloc_old w _ _ (H.inb p loc hp))⟩
 ·exact yab
 ·intro p q lp lq hp hq he hne;by_cases e:p=h.next
  ·exact yaK
  ·rw[aK _ _ e]at hp;by_cases e2:q=h.next
   ·exact ybn
   ·rw[aK _ _ e2]at hq;obtain⟨cp,R,f,kp,kq,a,b,d⟩:=H.sep p q lp lq hp hq he hne;exact⟨cp,R,f,kp,kq,by rw[hsi,Qu _ _ e];exact a,by rw[hsi,Qu _ _ e2];exact b,d⟩
 ·exact y2
 ·intro p _ hp;rw[hsi,Qu _ _ oM]
 ·intro b _ U;exact heap_alloc_old w _ _ U
def lV(h:Heap)(b:Nat)(z:List UInt8)(pos:Nat):Heap:=⟨h.bl.set b (.si z pos),h.next,h.fams,h.tys⟩
theorem HRel.setI(H:HRel m h w){b:Nat}{loc:Loc}(hm:m b=some loc){z:List UInt8}{c0:Nat}(hb:h.bl.get b=some (.si z c0))(pos:Nat):
 HRel m (lV h b z pos) {w with heap:=w.heap.setIfInBounds loc.block (.stringIter ⟨z.toArray⟩ pos)}/\
 Ext m h w m (lV h b z pos) {w with heap:=w.heap.setIfInBounds loc.block (.stringIter ⟨z.toArray⟩ pos)}:=by
 have I:=H.inb b loc hm;have U:∀p lp,m p=some lp->p≠b->lp.block≠loc.block:=by
  intro p lp hp R J;obtain⟨cp,cq,f,kp,kq,a1,a2,_⟩:=H.sep p b lp loc hp hm J R;rw[hb]at a2;cases a2
 refine H.up rfl ⟨⟨⟨?_,?_⟩,?_,?_,?_⟩,⟨fun _ _ x=>x,fun p l a c=>(by rw[a]at c;cases c),pi _,?_,iS,?_,rfl,rfl,rfl,fun _ _ _ x=>x,?_,fun _ _ a b=>by simp[a]at b⟩⟩
 ·intro p cp f k hp;show match h.fams.get f with|none=>f=p|some (_,e)=>k<=e
  rw[lV,RP]at hp;by_cases e:p=b
  ·grind
  ·exact ya7
 ·intro p hp;have D:=H.wf.fresh p hp;have ad:p≠b:=by grind
  exact⟨by rw[lV,Qu _ _ ad];exact D.1,D.2⟩
 ·intro p lp hp;by_cases e:p=b
  ·subst e;rw[hm]at hp;cases hp;obtain⟨bk,Z,rel⟩:=H.blk p loc hm;rw[hb]at Z;cases Z;exact⟨.si z pos,by rw[lV,QZ],rel.1,by show _=_;simp[I]⟩
  ·obtain⟨bk,Z,r⟩:=H.blk p lp hp;refine⟨bk,by rw[lV,Qu _ _ e];exact Z,r.mono (fun _ _ x=>x) (fun _ _ _ _ x=>x) ?_⟩;have:=U p lp hp e;simp[Sx this]
 ·intro p lp hp;have:=H.inb p lp hp;simpa using this
 ·intro p q lp lq hp hq J R;obtain⟨cp,cq,f,kp,kq,a1,a2,a3⟩:=H.sep p q lp lq hp hq J R;have h1:p≠b:=by grind
  have h2:q≠b:=by grind
  exact⟨cp,cq,f,kp,kq,by rw[lV,Qu _ _ h1];exact a1,by rw[lV,Qu _ _ h2];exact a2,a3⟩
 ·intro p hn hp;have h1:p≠b:=by grind
  rw[lV,Qu _ _ h1]
 ·grind
 ·intro g ah;by_cases h4:g=loc.block
  ·subst h4;obtain⟨bk,Z,rel⟩:=H.blk b loc hm;rw[hb]at Z;cases Z;have ab:=rel.2;intro x hx;rw[ab]at hx;cases hx;exact⟨.stringIter ⟨z.toArray⟩ pos,by simp[I],trivial⟩
  ·exact Kept.of_eq (by simp[Sx h4])
def ait(h:Heap)(nx:Bool)(x:V):Option (V×Heap):=
 bif nx then
  match x with
  |.ptr b 0=>match h.bl.get b with
   |some (.si z pos)=>if pos<z.length then some (.tup [.bool true,.int .i64 (pos:Int),.int .i32 ((Utf8.decode ⟨z.toArray⟩ pos).1:Int)],lV h b z (pos+(Utf8.decode ⟨z.toArray⟩ pos).2))else some (.tup [.bool false],h)
   |_=>none
  |_=>none
 else
  match x with
  |.str z=>some (.ptr h.next 0,hsi h z)
  |_=>none
def IN(P:Program)(op:Op)(nx:Bool):Bool:=match op with
 |.range t _=> !nx&&(match P.underlying t with|some .string=>true|_=>false)
 |.next _ s=>nx&&s
 |_=>false
theorem Gb(H:HRel m h w){o:Oper}{ρ:Operand->Value}{nx:Bool}{x v:V}{h':Heap}(U:IN P o.op nx=true)(hv:VsRel m [x] (OV ρ o.op))(Z:ait h nx x=some (v,h')):MS P m h w o ρ v h':=by
 unfold IN at U;split at U
 ·rename_i t a I;simp only[be,RA]at U;obtain⟨rfl,U⟩:=U;split at U
  ·rename_i hu;obtain⟨y,ys,R,ry,rn⟩:=hv;rw[I]at R;change[ρ a]=y::ys at R;simp only[QC]at R;unfold ait at Z;simp only[cond_false]at Z;split at Z
   ·rename_i z;cases Z;have hx:=R.1.trans ry;obtain⟨H',E'⟩:=H.allocI z;refine⟨_,_,_,.inl ?_,⟨_,aC _ _ _,rfl⟩,H',E'⟩;simp[execOp,I,Instr.range,aL hu,hx,newObj];rfl
   ·cases Z
  ·cases U
 ·rename_i a s I;simp only[be]at U;obtain⟨rfl,rfl⟩:=U;obtain⟨y,ys,R,ry,rn⟩:=hv;rw[I]at R;change[ρ a]=y::ys at R;simp only[QC]at R;unfold ait at Z;simp only[cond_true]at Z;split at Z
  ·rename_i b;obtain⟨loc,hm,rfl⟩:=ry;split at Z
   ·rename_i z pos hb;obtain⟨bk,D,rel⟩:=H.blk b loc hm;rw[hb]at D;cases D;have hx:ρ a=.pointer (some ⟨loc.block,0,none⟩):=by rw[R.1,rel.1]
    have hz:(⟨z.toArray⟩:ByteArray).size=z.length:=by simp[ByteArray.size]
    split at Z
    ·rename_i J;cases Z;obtain⟨H',E'⟩:=H.setI hm hb (pos+(Utf8.decode ⟨z.toArray⟩ pos).2);refine⟨_,_,_,.inl ?_,⟨_,rfl,_,_,rfl,rfl,_,_,rfl,rfl,_,_,rfl,rfl,rfl⟩,H',E'⟩;have:=Go.Lib.run_next_any_at (P:=P) w loc.block ⟨z.toArray⟩ pos o.type rel.2 (by rw[hz];exact J);simp[execOp,I,hx,this,World.iterAt]
    ·rename_i J;cases Z;refine⟨_,_,_,.inl ?_,⟨_,rfl,_,_,rfl,rfl,rfl⟩,H,Sa _ _ _⟩;have:=Go.Lib.run_next_end_at (P:=P) w loc.block ⟨z.toArray⟩ pos o.type rel.2 (by rw[hz];exact J);simp[execOp,I,hx,this]
   ·cases Z
  ·cases Z
 ·cases U
section
variable {P : Program} {m : M} {h : Heap} {w : World}
def htag(h:Heap)(b ty n:Nat):Heap:=⟨h.bl,h.next,h.fams,h.tys.set b (ty,n)⟩
theorem BRel.htag{b ty n p:Nat}{loc:Loc}{k:Blk}(r:BRel m h p loc w k):BRel m (htag h b ty n) p loc w k:=by
 cases k<;>exact r
theorem HRel.tag(H:HRel m h w){b ty n:Nat}{loc:Loc}{C:Array Value}{U:Nat×Nat}(hm:m b=some loc)(D:loc.base=0)(hc:w.heap[loc.block]? =some (.cells C ty U))(I:n=0\/C.size=n):
 HRel m (htag h b ty n) w:=by
 refine⟨⟨⟨H.wf.fam,H.wf.fresh⟩,fun p l Z=>?_,H.inb,H.sep⟩,fun p t k Z=>?_⟩
 ·obtain⟨bk,J,R⟩:=H.blk p l Z;exact⟨bk,J,R.htag⟩
 ·have Z:(h.tys.set b (ty,n)).get p=some (t,k):=Z;rw[RP]at Z;by_cases e:p=b
  ·grind
  ·rw[if_neg e]at Z;exact H.tg p t k Z
theorem Ext.tag(m:M)(h:Heap)(w:World)(b ty n:Nat):Ext m h w m (htag h b ty n) w:=
 ⟨fun _ _ x=>x,fun _ _ a b=>by simp[a]at b,pi _,fun _ _ _=>rfl,pi _,fun _ _ _=>rfl,rfl,rfl,rfl,fun _ _ _ x=>x,fun _ _=>Kept.refl _ _ _,fun _ _ a b=>by simp[a]at b⟩
def vV(h:Heap)(b:Nat):Option Heap:=
 match h.bl.get b with
 |some (.row _ f k)=>match h.fams.get f with
  |none=>some ⟨h.bl,h.next+1,h.fams.set f (h.next,k+1),h.tys⟩
  |some (ow,e)=>bif Nat.beq ow b then some ⟨h.bl,h.next+1,h.fams.set f (h.next,e+1),h.tys⟩else none
 |_=>none
theorem BD{h':Heap}{b:Nat}(W:HWF h)(x:vV h b=some h'):∃c f k e,h.bl.get b=some (.row c f k)/\f<h.next/\(∀p c' k',h.bl.get p=some (.row c' f k')->k'<e)/\
 h'.bl=h.bl/\h'.next=h.next+1/\h'.fams=h.fams.set f (h.next,e)/\h'.tys=h.tys:=by
 unfold vV at x;split at x
 ·rename_i c f k R;split at x
  ·rename_i hf;cases x;have U:=W.fam _ _ _ _ R;rw[hf]at U;have U:=U;refine⟨c,f,k,k+1,R,?_,fun p c' k' J=>?_,rfl,rfl,rfl,rfl⟩
   ·rcases Rn f h.next with q|q
    ·exact q
    ·have:=(W.fresh f q).1;rw[U,R]at this;cases this
   ·have Z:=W.fam _ _ _ _ J;rw[hf]at Z;have Z:=Z;rw[<-Z,U,R]at J;cases J;exact Sz _
  ·rename_i ow e hf;cases I:Nat.beq ow b
   ·grind
   ·rw[I]at x;simp only[cond_true,QA]at x;subst x;refine⟨c,f,k,e+1,R,?_,fun p c' k' J=>?_,rfl,rfl,rfl,rfl⟩
    ·rcases Rn f h.next with q|q
     ·exact q
     ·have:=(W.fresh f q).2;rw[hf]at this;cases this
    ·have Z:=W.fam _ _ _ _ J;rw[hf]at Z;exact Nat.lt_succ_of_le Z
 ·cases x
theorem HRel.lt(H:HRel m h w){p:Nat}{loc:Loc}(hm:m p=some loc):p<h.next:=by
 rcases Rn p h.next with q|q
 ·exact q
 ·rw[H.unmapped q]at hm;cases hm
theorem HRel.kill(H:HRel m h w){h':Heap}{b:Nat}{lb:Loc}(hm:m b=some lb)(x:vV h b=some h'):HRel m h' w/\Ext m h w m h' w/\
 ∀p loc c f k,m p=some loc->loc.block=lb.block->h'.bl.get p=some (.row c f k)->rd h' p f k=false:=by
 obtain⟨c,f,k,e,hg,aj,ah,J,e2,e3,e4⟩:=BD H.wf x;have gf:h'.fams.get f=some (h.next,e):=by rw[e3,QZ]
 have go:∀q,q≠f->h'.fams.get q=h.fams.get q:=fun q hq=>by rw[e3,Qu _ _ hq]
 have dead:∀p loc c' k',m p=some loc->h.bl.get p=some (.row c' f k')->rd h' p f k'=false:=by
  intro p loc c' k' Z R;have h1:=H.lt Z;have h2:=ah _ _ _ R;unfold rd;rw[gf];have a:Nat.beq h.next p=false:=by
   cases q:Nat.beq h.next p
   ·rfl
   ·have:=py q;omega
  have b:Nat.beq k' e=false:=by
   cases q:Nat.beq k' e
   ·rfl
   ·have:=py q;omega
  show(Nat.beq h.next p||Nat.beq k' e)=false;rw[a,b];rfl
 have same:∀p loc bk,m p=some loc->h.bl.get p=some bk->BRel m h p loc w bk->BRel m h' p loc w bk:=by
  intro p loc bk Z hb r;cases bk with
  |row c' U k'=>
   intro R;by_cases q:U=f
   ·grind
   ·refine r ?_;unfold rd at R|-;rw[go U q]at R;exact R
  |mp es clock=>exact r
  |lp ps as bd en st pend=>exact r
  |si s pos=>exact r
  |dead=>trivial
 have E:Ext m h w m h' w:=⟨fun _ _ x=>x,fun _ _ a b=>by simp[a]at b,oM,fun _ _ _=>by rw[J],pi _,fun _ _ _=>rfl,rfl,rfl,rfl,fun _ _ _ x=>x,fun _ _=>Kept.refl _ _ _,fun _ _ a b=>by simp[a]at b⟩;refine⟨(H.up e4 ⟨⟨⟨?_,?_⟩,?_,H.inb,?_⟩,E⟩).1,E,?_⟩
 ·intro p c' U k' Z;rw[J]at Z;by_cases q:U=f
  ·grind
  ·rw[go U q];exact H.wf.fam _ _ _ _ Z
 ·intro p Z;rw[e2]at Z;have:=H.wf.fresh p oM;exact⟨by rw[J];exact this.1,by rw[go p oM];exact this.2⟩
 ·intro p loc Z;obtain⟨bk,h1,h2⟩:=H.blk p loc Z;exact⟨bk,by rw[J];exact h1,same p loc bk Z h1 h2⟩
 ·intro p q lp lq Z hq he ab;obtain⟨cp,cq,U,kp,kq,I,D,a3⟩:=H.sep p q lp lq Z hq he ab;refine⟨cp,cq,U,kp,kq,by rw[J];exact I,by rw[J];exact D,fun y hy=>?_⟩;by_cases z:U=f
  ·subst z;rw[gf]at hy;cases hy;have:=H.lt hq;omega
  ·grind
 ·intro p loc c' U k' Z ad R;rw[J]at R;by_cases q:p=b
  ·grind
  ·obtain⟨cp,cq,f2,kp,kq,I,D,_⟩:=H.sep p b loc lb Z hm ad q;rw[hg]at D;cases D;rw[R]at I;cases I;exact dead p loc _ _ Z R
theorem HRel.refz(H:HRel m h w){g:Nat}{C:Array Value}{t:TypeId}{fz Z:Nat×Nat}{w':World}(R:w.heap[g]? =some (.cells C t fz))(I:w'.heap[g]? =some (.cells C t Z))
 (ho:∀i,i≠g->w'.heap[i]? =w.heap[i]?) (hs:w'.heap.size=w.heap.size)
 (hf:∀p loc c f k,m p=some loc->loc.block=g->h.bl.get p=some (.row c f k)->rd h p f k=true->∀i:Nat,i<loc.room->¬(Z.1<=loc.base+i/\loc.base+i<Z.2)):HRel m h w':=by
 refine⟨⟨H.wf,fun p loc U=>?_,fun p loc U=>by rw[hs];exact H.inb p loc U,H.sep⟩,fun p ty n U=>?_⟩
 ·obtain⟨b,D,r⟩:=H.blk p loc U;refine⟨b,D,?_⟩;by_cases e:loc.block=g
  ·cases b with
   |row c f k=>
    intro hr;obtain⟨C1,el,f1,J,a2,a3,a4,a5⟩:=r hr;rw[e,R]at J;cases J;exact⟨C,t,Z,by rw[e];exact I,a2,a3,a4,hf p loc c f k U e D hr⟩
   |mp es clock=>obtain⟨ab,a,_⟩:=r;rw[e,R]at a;cases a
   |lp ps as bd en st pend=>obtain⟨_,_,_,_,_,q,_⟩:=r;rw[e,R]at q;cases q
   |si s pos=>have q:=r.2;rw[e,R]at q;cases q
   |dead=>trivial
  ·exact r.mono (fun _ _ x=>x) (fun _ _ _ _ x=>x) (ho _ e)
 ·obtain⟨loc,C1,f1,J,a2,a3,a4⟩:=H.tg p ty n U;by_cases e:loc.block=g
  ·grind
  ·grind
theorem Ext.refz{g:Nat}{C:Array Value}{t:TypeId}{fz fz':Nat×Nat}{w':World}(hg:w.heap[g]? =some (.cells C t fz))(hg':w'.heap[g]? =some (.cells C t fz'))
 (ho:∀i,i≠g->w'.heap[i]? =w.heap[i]?) (hs:w'.heap.size=w.heap.size) (h1:w'.os=w.os) (h2:w'.tape=w.tape) (h3:w'.output=w.output)
 {p:Nat} {loc:Loc} (hp:m p=some loc) (hpg:loc.block=g) {i:Nat} (hi:i<loc.room) (hj:fz'.1<=loc.base+i/\loc.base+i<fz'.2):Ext m h w m h w':=
 ⟨fun _ _ x=>x,fun _ _ a b=>by simp[a]at b,pi _,fun _ _ _=>rfl,by rw[hs];exact pi _,fun b hb _=>ho b (fun e=>hb p loc hp (hpg.trans e.symm)),h1,h2,h3,fun _ _ _ x=>x,fun b _=>by
  by_cases e:b=g
  ·subst e;intro x hx;rw[hg]at hx;cases hx;exact⟨_,hg',rfl,.inr ⟨loc.base+i,hj.1,hj.2,p,loc,hp,hpg,Nat.le_add_right _ _,oM⟩,rfl,fun _ _=>rfl⟩
  ·exact Kept.of_eq (ho b e),fun _ _ a b=>by simp[a]at b⟩
theorem Ext.newer{m':M}{h':Heap}{w1 w':World}(E:Ext m h w m' h' w1){g:Nat}(hgw:w.heap.size<=g)(ho:∀i,i≠g->w'.heap[i]? =w1.heap[i]?)(hs:w'.heap.size=w1.heap.size)
 (h1:w'.os=w1.os) (h2:w'.tape=w1.tape) (h3:w'.output=w1.output):Ext m h w m' h' w':=
 ⟨E.le,E.new,E.next,E.phan,by rw[hs];exact E.size,fun b hb hl=>(ho b oM).trans (E.keep b hb hl),h1.trans E.os,h2.trans E.tape,h3.trans E.output,E.cov,
  fun b hb=>by rw[ho b oM];exact E.out b hb,E.lps⟩
def bytes8:List V->Option (List UInt8)
 |[]=>some []
 |.int .u8 (.ofNat n)::l=>bif Nat.blt n 256 then(match bytes8 l with
  |some s=>some (UInt8.ofNat n::s)
  |none=>none)else none
 |_=>none
theorem tW:∀(l:List V)(s:List UInt8),bytes8 l=some s→s.length=l.length∧∀(j:Nat) x,s[j]? =some x→l[j]? =some (.int .u8 (Int.ofNat x.toNat))
 |[],s,hb=>by
  simp only[bytes8,Option.some.injEq]at hb;subst hb;exact⟨rfl,fun j x hj=>by simp at hj⟩
 |v::l,s,hb=>by
  unfold bytes8 at hb;split at hb
  ·rename_i q;cases q
  ·rename_i n l' q;cases q;cases hn:Nat.blt n 256
   ·grind
   ·rw[hn]at hb;simp only[cond_true]at hb;have hn:n<256:=by simpa[Nat.blt_eq]using hn
    split at hb
    ·rename_i s' hs';cases hb;obtain⟨a,b⟩:=tW l s' hs';refine⟨by simp[a],fun j x hj=>?_⟩;cases j with
     |zero=>
      simp only[List.getElem?_cons_zero,Option.some.injEq]at hj;subst hj;have:(UInt8.ofNat n).toNat=n:=by simp;omega
      rw[this];rfl
     |succ j=>simpa using b j x (eV hj)
    ·cases hb
  ·cases hb
def aus(h:Heap)(ty:Nat)(p n:V):Option (V×Heap):=
 match p,n with
 |.nilp,.int .i64 (.ofNat 0)=>some (.str [],h)
 |.ptr b 0,.int .i64 (.ofNat n)=>bif Nat.blt 0 n&&Nat.blt n 9223372036854775808 then
  (match h.tys.get b with
  |some (t,_)=>bif Nat.beq t ty then
   (match aH h b 0 n with
   |some cs=>(match bytes8 cs with
    |some s=>(match vV h b with
     |some h'=>some (.str s,h')
     |none=>none)
    |none=>none)
   |none=>none)
   else none
  |none=>none)
  else none
 |_,_=>none
def asd(v:V):Option V:=
 match v with
 |.nils=>some .nilp
 |.slice b o _ (_+1)=>some (.ptr b o)
 |.sliceU b o (_+1) _=>some (.ptr b o)
 |_=>none
def Lp(h:Heap)(v:V):Option V:=
 match v with
 |.nilp=>some .nilp
 |.ptr b o=>(match ai h b o with
  |some _=>some (.ptr b o)
  |none=>none)
 |_=>none
def Lt(h:Heap)(tab:List (Nat×Nat×Nat))(v:V):Option V:=
 match v with
 |.nilp=>some .nilp
 |.ptr b o=>(match h.tys.get b with
  |some (ty,n)=>bif Nat.blt 0 n&&tab.any (fun r=>Nat.beq r.1 ty&&Nat.beq r.2.1 n&&Nat.beq r.2.2 o)then some (.ptr b o)else none
  |none=>none)
 |_=>none
def yH(h:Heap)(ty esz bytes:Nat)(s x:V):Option (V×Heap):=
 match dK h esz bytes s x with
 |some (.sliceU b o n e,h')=>bif Nat.beq b h.next then
  (match s with
  |.nils=>some (.sliceU b o n e,htag h' b ty 0)
  |.sliceU b0 0 _ _=>(match h.tys.get b0 with
   |some (t,_)=>bif Nat.beq t ty then some (.sliceU b o n e,htag h' b ty 0)else none
   |none=>none)
  |_=>none)
  else some (.sliceU b o n e,h')
 |r=>r
def NE(h:Heap)(v:V):Option (V×Heap):=
 match v with
 |.str s=>some (.sliceU h.next 0 s.length 1,halloc h (s.map fun b=>V.int .u8 (Int.ofNat b.toNat)))
 |_=>none
def ape(x y:V):Option V:=
 match x,y with
 |.ptr b o,.ptr b' o'=>bif Nat.beq b b'&&Nat.beq o o' then some (.bool false)else none
 |_,_=>none
def ixB(c:Nat):List UInt8->Nat->Int
 |[],_=>-1
 |b::l,i=>bif Nat.beq b.toNat c then Int.ofNat i else ixB c l (i+1)
def K3(c:Nat):List UInt8->Nat->Nat
 |[],n=>n
 |b::l,n=>K3 c l (bif Nat.beq b.toNat c then n+1 else n)
theorem H8(c:Nat)(hc:c<256):∀(l:List UInt8)(i:Nat),ixB c l i=if Lib.indexByte l c.toUInt8=-1 then-1 else Lib.indexByte l c.toUInt8+i
 |[],i=>rfl
 |b::l,i=>by
  have hb:(b==c.toUInt8)=Nat.beq b.toNat c:=by
   rw[Bool.eq_iff_iff,beq_iff_eq,Nat.beq_eq,←UInt8.toNat_inj];simp;omega
  unfold ixB Lib.indexByte;rw[hb];cases Nat.beq b.toNat c
  ·simp only[cond_false,Bool.false_eq_true,if_false,H8 c hc l,beq_iff_eq];have:=Lib.indexByte_ge l c.toUInt8;split
   ·simp
   ·omega
  ·simp
theorem Dl(c:Nat)(hc:c<256):∀(l:List UInt8)(n:Nat),K3 c l n=n+Lib.countByte l c.toUInt8
 |[],n=>rfl
 |b::l,n=>by
  have hb:(b==c.toUInt8)=Nat.beq b.toNat c:=by
   rw[Bool.eq_iff_iff,beq_iff_eq,Nat.beq_eq,←UInt8.toNat_inj];simp;omega
  unfold K3;rw[Dl c hc l];unfold Lib.countByte;rw[List.count_cons,hb];cases Nat.beq b.toNat c<;>simp;omega
def NG(h:Heap)(ty:Nat)(v:V):Option (V×Heap):=
 match v with
 |.int .i64 (.ofNat n)=>bif Nat.ble n 281474976710656 then some (.sliceU h.next 0 n 1,htag (halloc h []) h.next ty 0)else none
 |_=>none
def NM(h:Heap)(k:XK)(vs:List V):Option (V×Heap):=
 match k,vs with
 |.same,[v]=>some (v,h)
 |.cnt,[.str s,.int .u8 (.ofNat c)]=>bif Nat.blt c 256 then some (.int .i64 (Int.ofNat (K3 c s 0)),h)else none
 |.ixb,[.str s,.int .u8 (.ofNat c)]=>bif Nat.blt c 256 then some (.int .i64 (ixB c s 0),h)else none
 |_,_=>none
def aux(h:Heap)(k:UK)(vs:List V):Option (V×Heap):=
 match k,vs with
 |.alt ty zero,[]=>some (.ptr h.next 0,htag (halloc h zero) h.next ty zero.length)
 |.tou,[v]=>(match Lp h v with
  |some v=>some (v,h)
  |none=>none)
 |.fru tab,[v]=>(match Lt h tab v with
  |some v=>some (v,h)
  |none=>none)
 |.sd,[v]=>(match asd v with
  |some v=>some (v,h)
  |none=>none)
 |.us ty,[p,n]=>aus h ty p n
 |.apt ty esz bytes,[s,x]=>yH h ty esz bytes s x
 |.s2b,[v]=>NE h v
 |.pe,[x,y]=>(match ape x y with
  |some v=>some (v,h)
  |none=>none)
 |.ext k,vs=>NM h k vs
 |.mnz ty,[v]=>NG h ty v
 |_,_=>none
def LH:XK->String
 |.same=> "internal/abi.NoEscape"
 |.cnt=> "internal/bytealg.CountString"
 |.ixb=> "internal/bytealg.IndexByteString"
def eB(P:Program)(op:Op)(k:UK):Bool:=
 match k with
 |.alt ty zero=>iW P op zero&&(match op with
  |.alloc t=>Nat.beq t ty
  |_=>false)
 |.tou=>(match op with
  |.convert src dst _=>(match P.underlying src,P.underlying dst with
   |some (.pointer t),some .unsafePointer=>(match P.info? t with
    |some j=>Nat.blt 0 j.size
    |none=>false)
   |_,_=>false)
  |_=>false)
 |.fru tab=>(match op with
  |.convert src dst _=>(match P.underlying src,P.underlying dst with
   |some .unsafePointer,some (.pointer u)=>(P.info? u).isSome&&tab.all (fun r=>liesAt P P.depth r.1 (r.2.1/P.cellsOf r.1) r.2.2 u 1)
   |_,_=>false)
  |_=>false)
 |.sd=>(match du op .unsafeSliceData with
  |some (args,_)=>Nat.beq args.size 1
  |none=>false)
 |.us ty=>(match du op .unsafeString with
  |some (args,ts)=>Nat.beq args.size 2&&(match ts.toList with
   |[pt,_]=>(match P.underlying pt with
    |some (.pointer e)=>Nat.beq e ty&&Nat.beq (P.cellsOf e) 1
    |_=>false)
   |_=>false)
  |none=>false)
 |.apt ty esz bytes=>pJ P op esz bytes&&(match du op .append with
  |some (_,ts)=>(match ts[0]? with
   |some t=>(match P.underlying t with
    |some (.slice e)=>Nat.beq e ty
    |_=>false)
   |none=>false)
  |none=>false)
 |.s2b=>(match op with
  |.convert src dst _=>(match P.underlying src,P.underlying dst with
   |some .string,some (.slice e)=>(match P.underlying e with
    |some (.int .u8)=>true
    |_=>false)
   |_,_=>false)
  |_=>false)
 |.pe=>(match op with
  |.binOp .neq tp _ _ _=>(match P.underlying tp with
   |some (.pointer te)=>(P.info? te).isSome
   |_=>false)
  |_=>false)
 |.ext k=>(match op with
  |.call {callee:=.value (.func f), .. }=>(match P.funcs[f]? with
   |some fn=>fn.body.isNone&&(fn.name==LH k)&&(fn.origin== "")
   |none=>false)
  |_=>false)
 |.mnz ty=>(match op with
  |.call {callee:=.value (.func f), .. }=>(match P.funcs[f]? with
   |some fn=>fn.body.isNone&&(fn.name== "internal/bytealg.MakeNoZero")&&(fn.origin== "")&&(match fn.resultTypes.toList with
    |[t]=>(match P.underlying t with
     |some (.slice e)=>Nat.beq e ty
     |_=>false)
    |_=>false)
   |none=>false)
  |_=>false)
def wZ(op:Op)(k:UK):List Operand:=
 match k with
 |.ext _=>(match op with
  |.call c=>c.args.toList
  |_=>[])
 |.mnz _=>(match op with
  |.call c=>c.args.toList
  |_=>[])
 |_=>op.operands.toList
end
end Go.Ev
