/- An evaluator of the program, and contracts over it: EvMi to EvZ. -/
import Derived.KernelRfl
import Derived.RangeFuncRecord
import Derived.OrdersIn
import Derived.Test.YteojfkejdhhhpaaGreatDoorP01
set_option linter.unusedSimpArgs false
set_option linter.unusedVariables false
set_option linter.constructorNameAsVariable false
set_option linter.unnecessarySimpa false
noncomputable section
namespace Go.Ev
section
variable {P : Program} {m : M} {h : Heap} {w : World}
theorem MJ{fn:Func}(k:XK)(Z:fn.name=LH k)(U:fn.origin= ""):Extern.findNext fn=none/\(fn.name== "runtime.NumGoroutine")=false:=by
 obtain⟨⟩:=fn;simp only at Z U;subst Z;subst U;cases k<;>exact⟨by kernel_rfl,by kernel_rfl⟩
theorem MH{fn:Func}(h1:fn.name= "internal/abi.NoEscape"):Extern.find fn=some Extern.AbiNoEscape.same:=by
 obtain⟨⟩:=fn;simp only at h1;subst h1;kernel_rfl
theorem Og{fn:Func}(h1:fn.name= "internal/bytealg.CountString"):Extern.find fn=some Extern.BytealgCount.count:=by
 obtain⟨⟩:=fn;simp only at h1;subst h1;kernel_rfl
theorem Oe{fn:Func}(h1:fn.name= "internal/bytealg.IndexByteString"):Extern.find fn=some Extern.BytealgIndexByte.indexByte:=by
 obtain⟨⟩:=fn;simp only at h1;subst h1;kernel_rfl
theorem Od{fn:Func}(h1:fn.name= "internal/bytealg.MakeNoZero"):Extern.find fn=some (Extern.BytealgMakeNoZero.makeNoZero fn.params fn.resultTypes):=by
 obtain⟨⟩:=fn;simp only at h1;subst h1;kernel_rfl
theorem MI{fn:Func}(Z:fn.name= "internal/bytealg.MakeNoZero")(U:fn.origin= ""):Extern.findNext fn=none/\(fn.name== "runtime.NumGoroutine")=false:=by
 obtain⟨⟩:=fn;simp only at Z U;subst Z;subst U;exact⟨by kernel_rfl,by kernel_rfl⟩
theorem Ce(H:HRel m h w){o:Oper}{ρ:Operand→Value}(hρ:∀f,ρ (.func f)=.func (.func f) #[] #[]){k:XK}{vs:List V}{v:V}{h':Heap}(hc:eB P o.op (.ext k)=true)
 (hv:VsRel m vs ((wZ o.op (.ext k)).map ρ)) (hs:NM h k vs=some (v,h')):MS P m h w o ρ v h':=by
 unfold eB at hc;simp only at hc;split at hc;case h_2=>cases hc
 rename_i f args ts hy;rw[hy]at hv;replace hv:VsRel m vs (args.toList.map ρ):=hv;split at hc
 ·rename_i fn hf;simp only[Bool.and_eq_true,beq_iff_eq]at hc;obtain⟨⟨hb,hn⟩,ho⟩:=hc;have hb':=hb;obtain⟨hnx,hng⟩:=MJ k hn ho;have hr:∀xs,args.toList.map ρ=xs→(execOp ρ o).run P w=(callFunc f (List.toArray xs)).run P w:=by
   intro xs hxs;have q:args.map ρ=List.toArray xs:=Array.ext' iX;simp only[execOp,hy,resolve,hρ,Deferred.ofValue,Sem.run_bind,Sem.run_pure,Result.andThen_ok,invoke];simp[q]
  unfold NM at hs;split at hs
  ·
   cases hs;obtain⟨x,e,rx⟩:=bJ hv;refine⟨x,w,m,.inl ?_,rx,H,Ext.refl _ _ _⟩;rw[hr _ e,run_callFunc_extern hf hng hb hnx (MH hn)];rfl
  ·rename_i s c;cases hb:Nat.blt c 256
   ·grind
   ·rw[hb]at hs;cases hs;have hb:c<256:=by simpa[Nat.blt_eq]using hb
    obtain⟨x1,x2,e,rfl,rfl⟩:=bR hv;refine⟨_,w,m,.inl ?_,rfl,H,Ext.refl _ _ _⟩;rw[hr _ e,run_callFunc_extern hf hng hb' hnx (Og hn),Lib.run_countString];rw[Dl c hb];simp
  ·rename_i s c;cases hb:Nat.blt c 256
   ·grind
   ·rw[hb]at hs;cases hs;have hb:c<256:=by simpa[Nat.blt_eq]using hb
    obtain⟨x1,x2,e,rfl,rfl⟩:=bR hv;refine⟨_,w,m,.inl ?_,rfl,H,Ext.refl _ _ _⟩;rw[hr _ e,run_callFunc_extern hf hng hb' hnx (Oe hn),Lib.run_indexByteString];rw[H8 c hb];have:(if Lib.indexByte s c.toUInt8=-1 then-1 else Lib.indexByte s c.toUInt8+((0:Nat):Int))=Lib.indexByte s c.toUInt8:=oM
    rw[this];simp
  ·cases hs
 ·cases hc
theorem Ca(H:HRel m h w){o:Oper}{ρ:Operand→Value}(hρ:∀f,ρ (.func f)=.func (.func f) #[] #[]){ty:Nat}{u v:V}{h':Heap}(hc:eB P o.op (.mnz ty)=true)
 (hv:VsRel m [u] ((wZ o.op (.mnz ty)).map ρ)) (hs:NG h ty u=some (v,h')):MS P m h w o ρ v h':=by
 unfold eB at hc;simp only at hc;split at hc;case h_2=>cases hc
 rename_i f args ts hy;rw[hy]at hv;replace hv:VsRel m [u] (args.toList.map ρ):=hv;split at hc
 ·rename_i fn hf;simp only[Bool.and_eq_true,beq_iff_eq]at hc;obtain⟨⟨⟨hb,hn⟩,ho⟩,hty⟩:=hc;obtain⟨hnx,hng⟩:=MI hn ho;split at hty
  ·rename_i t ht;split at hty
   ·rename_i e hu;have he:=Nat.eq_of_beq_eq_true hty;subst he;have ht:fn.resultTypes= #[t]:=Array.ext' (eV ht);have hr:∀xs,args.toList.map ρ=xs→(execOp ρ o).run P w=(callFunc f (List.toArray xs)).run P w:=by
     intro xs hxs;have q:args.map ρ=List.toArray xs:=Array.ext' iX;simp only[execOp,hy,resolve,hρ,Deferred.ofValue,Sem.run_bind,Sem.run_pure,Result.andThen_ok,invoke];simp[q]
    unfold NG at hs;split at hs
    ·rename_i n;cases hle:Nat.ble n 281474976710656
     ·grind
     ·rw[hle]at hs;cases hs;have hle:=Nat.le_of_ble_eq_true hle;obtain⟨x,ex,rfl⟩:=bJ hv;obtain⟨cs,hrun,hcs,_⟩:=Lib.run_makeNoZero (P:=P) w fn.params t e hu n hle;obtain⟨H',E'⟩:=H.drew.drew.alloc [] cs e (Nat.zero_le _) (fun i v hi=>by simp at hi);refine⟨.slice (some ⟨w.heap.size,0,none⟩) n cs.size,_,_,.inl ?_,⟨_,aC _ _ _,?_,?_⟩,H'.tag (aC _ _ _) rfl (heap_alloc_new w.drew.drew _) (.inl rfl),((Ext.drew m h w).trans (Ext.drew m h w.drew)).trans (E'.trans (Ext.tag _ _ _ _ _ _))⟩
      ·rw[hr _ ex,run_callFunc_extern hf hng hb hnx (Od hn),ht];exact congrArg (fun r=>Result.andThen r _) hrun
      ·grind
      ·simp only[Nat.sub_zero,Nat.div_one];rfl
    ·cases hs
   ·cases hty
  ·cases hty
 ·cases hc
theorem Ioa(H:HRel m h w){o:Oper}{ρ:Operand->Value}{ty:Nat}{p n v:V}{h':Heap}(U:eB P o.op (.us ty)=true)(hv:VsRel m [p,n] (OV ρ o.op))(Z:aus h ty p n=some (v,h')):MS P m h w o ρ v h':=by
 unfold eB at U;simp only at U;split at U
 ·rename_i args ts a2;simp only[be]at U;obtain⟨x,y,hy⟩:=rj a2 (py U.1);replace U:=U.2;split at U
  ·rename_i pt it ah;have ah:ts= #[pt,it]:=SY (eV ah);subst ah;split at U
   ·rename_i e hu;simp only[be]at U;have he:=py U.1;subst he;have a4:=py U.2;obtain⟨x',y',e',rx,ry⟩:=bR hv;rw[hy]at e';change[ρ x,ρ y]=[x',y']at e';simp only[QC,and_true]at e';have go:(execOp ρ o).run P w=((Builtin.unsafeString_ #[pt,it] o.type #[x',y']).run P w).andThen fun y w'=>.ok (.value y) w':=by
     simp only[execOp,hy,resolve,invoke,builtin,Qz,QL,Qr];simp[e'.1,e'.2]
    unfold aus at Z;split at Z
    ·cases Z;simp only[VRel]at rx ry;refine⟨.string ⟨#[]⟩,w,m,.inl ?_,rfl,H,Sa _ _ _⟩;rw[go,rx,ry];have:=Lib.run_unsafeString_none (P:=P) w pt it o.type none;rw[(iR:Value.int .i64 (Int.ofNat 0)=Value.int .i64 0),this];rfl
    ·rename_i b n;cases hn:(Nat.blt 0 n&&Nat.blt n 9223372036854775808)
     ·grind
     ·rw[hn]at Z;simp only[cond_true]at Z;simp only[be,QJ]at hn;split at Z
      ·rename_i t k a5;cases ht:Nat.beq t e
       ·grind
       ·rw[ht]at Z;simp only[cond_true]at Z;have ht:=py ht;subst ht;split at Z
        ·rename_i cs hl;split at Z
         ·rename_i s a6;split at Z
          ·rename_i h1 hk;cases Z;obtain⟨loc,hm,hx⟩:=rx;simp only[VRel]at ry;obtain⟨loc',C,fz,g1,g2,g3,g4⟩:=H.tg b t k a5;rw[hm]at g1;cases g1;obtain⟨b1,b2⟩:=tW _ _ a6;unfold aH at hl;split at hl
           ·rename_i c I;obtain⟨f,mk,hg,a7⟩:=jF I;obtain⟨bk,aE,rel⟩:=H.blk b loc hm;rw[hg]at aE;cases aE;obtain⟨C',el,bg,hC,a0,bc,aj,bi⟩:=rel a7;rw[g3]at hC;cases hC;obtain⟨R,aF⟩:=iE hl;rw[bA]at R aF;simp only[TA]at R aF;have a8:s.length=n:=by grind
            have aR:s≠[]:=by grind
            have a9:n<=c.length:=oM
            have D:∀(j:Nat) x,s[j]? =some x->w.cell? ((⟨loc.block,0,none⟩:Addr).add j)=some (.int .u8 x.toNat):=by
             intro j x hj;have q1:=b2 j x hj;rw[R,Sc]at q1;split at q1
             ·obtain⟨y,aA,ax⟩:=aj j _ q1;simp only[VRel]at ax;rw[gu];show(match w.heap[loc.block]? with|some (.cells c _ _)=>(if(none:Option _).isSome then none else c[0+j]?)|_=>none)=_
              rw[g3];simp only[Option.isSome_none,QQ,if_false,Rc];rw[g2,Rc]at aA;rw[aA,ax];rfl
             ·cases q1
            have ab:=Lib.run_unsafeString_row (P:=P) w pt it o.type t hu a4 loc.block C.size (by simp[World.shape?,g3]) s aR oM oM D;rw[a8]at ab;obtain⟨K,EK,dead⟩:=H.kill hm hk;obtain⟨J,ao,a3,a1⟩:∃J:Nat×Nat,(w.freeze ⟨loc.block,0,none⟩ n).heap[loc.block]? =some (.cells C t J)/\J.1<=0/\0<J.2:=by
             obtain⟨lo,hi⟩:=fz;refine⟨if lo==hi then(0,0+n)else(min lo 0,max hi (0+n)),?_,?_,?_⟩
             ·unfold World.freeze;rw[if_neg oM];simp[Ti,g3]
             ·split<;>simp
             ·grind
            have ho:∀i,i≠loc.block->(w.freeze ⟨loc.block,0,none⟩ n).heap[i]? =w.heap[i]? :=by
             intro i hi;unfold World.freeze;rw[if_neg oM];simp[Ti,Sx hi]
            have ak:(w.freeze ⟨loc.block,0,none⟩ n).heap.size=w.heap.size:=by
             unfold World.freeze;split<;>simp
            have ad:(w.freeze ⟨loc.block,0,none⟩ n).os=w.os/\(w.freeze ⟨loc.block,0,none⟩ n).tape=w.tape/\(w.freeze ⟨loc.block,0,none⟩ n).output=w.output:=by
             unfold World.freeze;split<;>exact⟨rfl,rfl,rfl⟩
            refine⟨.string ⟨s.toArray⟩,w.freeze ⟨loc.block,0,none⟩ n,m,.inl ?_,rfl,K.refz g3 ao ho ak (fun p l c1 f1 k1 hp bm bf bh=>?_),EK.trans (Ext.refz g3 ao ho ak ad.1 ad.2.1 ad.2.2 hm rfl (i:=0) oM (by rw[g2];exact⟨a3,a1⟩))⟩
            ·rw[go,hx,ry,g2];simp only[RG];rw[(iR:Value.int .i64 (Int.ofNat n)=Value.int .i64 (n:Int)),ab];rfl
            ·grind
           ·cases hl
          ·cases Z
         ·cases Z
        ·cases Z
      ·cases Z
    ·cases Z
   ·cases U
  ·cases U
 ·cases U
theorem FU(H:HRel m h w){o:Oper}{ρ:Operand->Value}{x v:V}(U:eB P o.op .sd=true)(hv:VsRel m [x] (OV ρ o.op))(Z:asd x=some v):MS P m h w o ρ v h:=by
 unfold eB at U;simp only at U;split at U
 ·rename_i args ts I;obtain⟨a,D⟩:=Hz I (py U);obtain⟨x',R,J⟩:=bJ hv;rw[D]at R;change[ρ a]=[x']at R;simp only[QC,and_true]at R;have go:(execOp ρ o).run P w=((Builtin.unsafeSliceData_ ts o.type #[x']).run P w).andThen fun y w'=>.ok (.value y) w':=by
   simp only[execOp,D,resolve,invoke,builtin,Qz,QL,Qr];simp[R]
  unfold asd at Z;split at Z
  ·cases Z;simp only[VRel]at J;refine⟨.pointer none,w,m,.inl ?_,rfl,H,Sa _ _ _⟩;rw[go,J];rfl
  ·cases Z;obtain⟨loc,hm,_,rfl⟩:=J;exact yad
  ·cases Z;obtain⟨loc,hm,ab,rfl⟩:=J;exact yad
  ·cases Z
 ·cases U
theorem Dt(H:HRel m h w){o:Oper}{ρ:Operand->Value}{src dst:TypeId}{a:Operand}(hy:o.op=.convert src dst a){v:V}{x' y:Value}(e':ρ a=x')(hr:(convert src dst x').run P w=.ok y w)(ry:VRel m v y):MS P m h w o ρ v h:=
 ⟨y,w,m,.inl (by simp only[execOp,hy,e',Qz,hr,QL,Qr]),ry,H,Sa _ _ _⟩
theorem BY(H:HRel m h w){o:Oper}{ρ:Operand->Value}{x v:V}(Z:eB P o.op .tou=true)(I:VsRel m [x] (OV ρ o.op))(hs:Lp h x=some v):MS P m h w o ρ v h:=by
 unfold eB at Z;simp only at Z;split at Z
 ·rename_i src dst a hy;split at Z
  ·rename_i t h1 h2;split at Z
   ·rename_i j hj;have J:j.size≠0:=by have:=(by simpa[QJ]using Z);omega
    obtain⟨R,e',rx⟩:=bJ I;rw[hy]at e';change[ρ a]=[R]at e';simp only[QC,and_true]at e';unfold Lp at hs;split at hs
    ·exact yU
    ·rename_i b k;split at hs
     ·rename_i u D;cases hs;obtain⟨loc,hm,rfl⟩:=rx;obtain⟨z,U,_⟩:=H.load1 hm D;exact Dt H hy e' (run_convert_to_unsafe h1 h2 iX U) ⟨loc,hm,rfl⟩
     ·cases hs
    ·cases hs
   ·cases Z
  ·cases Z
 ·cases Z
theorem Cc(H:HRel m h w){o:Oper}{ρ:Operand->Value}{R:List (Nat×Nat×Nat)}{x v:V}(U:eB P o.op (.fru R)=true)(hv:VsRel m [x] (OV ρ o.op))(hs:Lt h R x=some v):MS P m h w o ρ v h:=by
 unfold eB at U;simp only at U;split at U
 ·rename_i src dst a hy;split at U
  ·rename_i u h1 h2;simp only[be]at U;obtain⟨j,hj⟩:=So.1 U.1;obtain⟨x',e',rx⟩:=bJ hv;rw[hy]at e';change[ρ a]=[x']at e';simp only[QC,and_true]at e';unfold Lt at hs;split at hs
   ·exact yU
   ·rename_i b k;split at hs
    ·rename_i ty n I;cases Z:(Nat.blt 0 n&&R.any (fun r=>Nat.beq r.1 ty&&Nat.beq r.2.1 n&&Nat.beq r.2.2 k))
     ·grind
     ·rw[Z]at hs;cases hs;simp only[be,QJ]at Z;obtain⟨hn,Z⟩:=Z;obtain⟨r,D,Z⟩:=TB.1 Z;simp only[be]at Z;have q:=QM.1 U.2 r D;simp only[py Z.1.1,py Z.1.2,py Z.2]at q;obtain⟨loc,hm,rfl⟩:=rx;obtain⟨loc',C,fz,g1,g2,g3,g4⟩:=H.tg b ty n I;rw[hm]at g1;cases g1;have J:C.size=n:=oM
      refine Dt H hy e' (Lib.run_from_unsafe (e:=ty) (cells:=C.size) w _ h1 h2 hj (by simp[World.shape?,g3]) ?_) ⟨loc,hm,rfl⟩;show liesAt P P.depth ty (C.size/P.cellsOf ty) (loc.base+k) u 1=true;rw[J,g2,Rc];exact q
    ·cases hs
   ·cases hs
  ·cases U
 ·cases U
theorem Ci(H:HRel m h w){o:Oper}{ρ:Operand->Value}{ty:Nat}{zero:List V}(R:eB P o.op (.alt ty zero)=true):MS P m h w o ρ (.ptr h.next 0) (htag (halloc h zero) h.next ty zero.length):=by
 unfold eB at R;simp only[be]at R;obtain⟨Z,U⟩:=R;unfold iW at Z;split at Z
 ·rename_i t hy;rw[hy]at U;have ht:=py U;subst ht;obtain⟨z,hz,hv⟩:=iF (w:=w) Z;have J:=dz m _ _ hv;obtain⟨I,D⟩:=H.alloc_list t J;refine⟨_,_,_,.inl ?_,⟨_,aC _ _ _,rfl⟩,I.tag (aC _ _ _) rfl (heap_alloc_new w _) (.inr (eV J.length)),D.trans (Ext.tag _ _ _ _ _ _)⟩;exact ya3
 ·cases Z
theorem FW(H:HRel m h w){o:Oper}{ρ:Operand->Value}{x y v:V}(Z:eB P o.op .pe=true)(hv:VsRel m [x,y] (OV ρ o.op))(R:ape x y=some v):MS P m h w o ρ v h:=by
 unfold eB at Z;simp only at Z;split at Z
 ·rename_i tp a b ty D;split at Z
  ·rename_i te hu;obtain⟨j,hj⟩:=So.1 Z;obtain⟨x',y',J,rx,ry⟩:=bR hv;rw[D]at J;change[ρ a,ρ b]=[x',y']at J;simp only[QC,and_true]at J;unfold ape at R;split at R
   ·rename_i b1 o1 b2 o2;cases I:(Nat.beq b1 b2&&Nat.beq o1 o2)
    ·grind
    ·rw[I]at R;cases R;simp only[be]at I;have:=py I.1;subst this;have:=py I.2;subst this;obtain⟨loc,hm,rfl⟩:=rx;obtain⟨loc',U,rfl⟩:=ry;rw[hm]at U;cases U;refine⟨.bool false,w,m,.inl ?_,rfl,H,Sa _ _ _⟩;have hr:=Lib.run_neq_ptr_same (P:=P) w ⟨loc.block,loc.base+o1,none⟩ hu hj;simp only[execOp,D,J.1,J.2,Qz,QL];simp[eqGuard,hr]
   ·cases R
  ·cases Z
 ·cases Z
theorem B8(H:HRel m h w){o:Oper}{ρ:Operand->Value}{x v:V}{h':Heap}(U:eB P o.op .s2b=true)(hv:VsRel m [x] (OV ρ o.op))(hs:NE h x=some (v,h')):MS P m h w o ρ v h':=by
 unfold eB at U;simp only at U;split at U
 ·rename_i src dst a hy;split at U
  ·rename_i e h1 h2;split at U
   ·rename_i he;obtain⟨x',e',rx⟩:=bJ hv;rw[hy]at e';change[ρ a]=[x']at e';simp only[QC,and_true]at e';unfold NE at hs;split at hs
    ·rename_i s;cases hs;simp only[VRel]at rx;subst rx;have ad:=Lib.run_convert_string_bytes (P:=P) w src dst e ⟨s.toArray⟩ h1 h2 he;have ab:=grownCap_ge w (ByteArray.size ⟨s.toArray⟩) 0 e;have D:(Lib.bytesCells w e ⟨s.toArray⟩).size=grownCap w (ByteArray.size ⟨s.toArray⟩) 0 e:=by
      have:(⟨s.toArray⟩:ByteArray).size=s.length:=by simp[ByteArray.size]
      rw[this]at ab|-;simp[Lib.bytesCells,ByteArray.size];omega
     have aj:(⟨s.toArray⟩:ByteArray).size=s.length:=by simp[ByteArray.size]
     have hb:=pL m s;obtain⟨H1,E1⟩:=H.drew.alloc (s.map fun b=>V.int .u8 (Int.ofNat b.toNat)) (Lib.bytesCells w e ⟨s.toArray⟩) e (by rw[D];simp;omega) (fun i v I=>by
      obtain⟨q,hq,rq⟩:=hb.get i v I;refine⟨q,?_,rq⟩;have ak:i<s.length:=by grind
      unfold Lib.bytesCells;rw[Sy (eV ak)];simpa using hq)
     have hnew:=heap_alloc_new w.drew (.cells (Lib.bytesCells w e ⟨s.toArray⟩) e);have J:=Lib.bytesWorld_at_new w e ⟨s.toArray⟩;have R:∀i,i≠w.heap.size->(Lib.bytesWorld w e ⟨s.toArray⟩).heap[i]? =(w.drew.alloc (.cells (Lib.bytesCells w e ⟨s.toArray⟩) e)).heap[i]? :=by
      intro i I;simp[Lib.bytesWorld,World.freeze,Ti,Sx I]
     have Z:(Lib.bytesWorld w e ⟨s.toArray⟩).heap.size=(w.drew.alloc (.cells (Lib.bytesCells w e ⟨s.toArray⟩) e)).heap.size:=by
      simp[Lib.bytesWorld,World.freeze]
     refine⟨.slice (some ⟨w.heap.size,0,none⟩) (ByteArray.size ⟨s.toArray⟩) (grownCap w (ByteArray.size ⟨s.toArray⟩) 0 e),Lib.bytesWorld w e ⟨s.toArray⟩,_,.inl ?_,⟨_,aC _ _ _,?_,?_⟩,H1.refz hnew J R Z ?_,((Ext.drew m h w).trans E1).newer (g:=w.heap.size) (pi _) R Z (by simp[Lib.bytesWorld,World.freeze]) (by simp[Lib.bytesWorld,World.freeze]) (by simp[Lib.bytesWorld,World.freeze])⟩
     ·simp only[execOp,hy,e',Qz,ad,QL,Qr]
     ·grind
     ·simp only[D,Sh,Nat.div_one,RG,aj];rfl
     ·intro p l c f k hp ah _ _ i I;by_cases q:p=h.next
      ·subst q;rw[aC]at hp;cases hp;simp only[]at I|-;omega
      ·rw[aK _ _ q]at hp;have z:=H.inb p l hp;have ah:l.block=w.heap.size:=ah;omega
    ·cases hs
   ·cases U
  ·cases U
 ·cases U
theorem Ch(H:HRel m h w){o:Oper}{ρ:Operand->Value}{ty esz bytes:Nat}{s x v:V}{h':Heap}(hc:eB P o.op (.apt ty esz bytes)=true)(hv:VsRel m [s,x] (OV ρ o.op))
 (Z:yH h ty esz bytes s x=some (v,h')):MS P m h w o ρ v h':=by
 unfold eB at hc;simp only[be]at hc;obtain⟨ad,U⟩:=hc;unfold yH at Z;split at Z
 ·rename_i b k n e h1 ha;obtain⟨elem,aj,x',w',m',hg,rx,H',E',J⟩:=qG H ad hv ha;have ab:elem=ty:=by
   obtain⟨args,ts,t,I,q2,q3⟩:=aj;rw[I]at U;simp only[q2,q3]at U;exact py U
  subst ab;cases R:Nat.beq b h.next
  ·rw[R]at Z;cases Z;exact⟨x',w',m',hg,rx,H',E'⟩
  ·rw[R]at Z;simp only[cond_true]at Z;have R:=py R;subst R;obtain⟨lx,ah⟩:∃l,m' h.next=some l:=let⟨l,q,_⟩:=rx;⟨l,q⟩;rcases J with J|⟨loc,C,fz,t,g1,g2,g3⟩
   ·have:=H'.lt ah;omega
   have done:loc.base=0/\t=elem->MS P m h w o ρ (.sliceU h.next k n e) (htag h1 h.next elem 0):=by
    rintro⟨I,rfl⟩;exact⟨x',w',m',hg,rx,H'.tag g1 I g2 (.inl rfl),E'.trans (Ext.tag _ _ _ _ _ _)⟩
   split at Z
   ·grind
   ·rename_i b0 n0 e0;split at Z
    ·rename_i t0 n1 ak;cases ht:Nat.beq t0 elem
     ·grind
     ·rw[ht]at Z;cases Z;have ht:=py ht;subst ht;rcases g3 with g3|⟨b1,k1,n2,e1,lb,D,ao,q,I,q2,q3⟩
      ·exact done g3
      ·cases q;obtain⟨l0,C0,f0,z1,z2,z3,_⟩:=H.tg b0 t0 n1 ak;rw[I]at z1;cases z1;rw[q3]at z3;cases z3;exact done ⟨by rw[q2,z2],rfl⟩
    ·cases Z
   ·cases Z
 ·exact ur H ad hv Z
theorem FP(H:HRel m h w){o:Oper}{ρ:Operand->Value}(I:∀f,ρ (.func f)=.func (.func f) #[] #[]){k:UK}{vs:List V}{v:V}{h':Heap}(U:eB P o.op k=true)
 (R:VsRel m vs ((wZ o.op k).map ρ)) (Z:aux h k vs=some (v,h')):MS P m h w o ρ v h':=by
 unfold aux at Z;split at Z
 ·cases Z;exact Ci H U
 ·split at Z
  ·rename_i u J;cases Z;exact BY H U R J
  ·cases Z
 ·split at Z
  ·rename_i u J;cases Z;exact Cc H U R J
  ·cases Z
 ·split at Z
  ·rename_i u J;cases Z;exact FU H U R J
  ·cases Z
 ·exact Ioa H U R Z
 ·exact Ch H U R Z
 ·exact B8 H U R Z
 ·split at Z
  ·rename_i u J;cases Z;exact FW H U R J
  ·cases Z
 ·exact Ce H I U R Z
 ·exact Ca H I U R Z
 ·cases Z
end
def hnew(h:Heap)(k:Blk):Heap:=⟨h.bl.set h.next k,h.next+1,h.fams,h.tys⟩
def hset(h:Heap)(b:Nat)(k:Blk):Heap:=⟨h.bl.set b k,h.next,h.fams,h.tys⟩
section
variable {P : Program} {m : M} {h : Heap} {w : World}
theorem HRel.loop(H:HRel m h w){b:Nat}{loc:Loc}(hm:m b=some loc){ps:List Nat}{as bd:IC}{env:T V}{st:Nat}{Z:Option Ex}(R:h.bl.get b=some (.lp ps as bd env st Z)):
 ∃g,loc.lp=some g/\g.ps=ps/\g.as=as/\g.bd=bd/\w.heap[loc.block]? =some (.loop {g.r with state:=lst st,pending:=Z.map H6})/\
  ∀s v,env.get s=some v->s=DSL\/(g.vars.contains s=true/\VRel m v (g.r.tmps.getD s undef)):=by
 obtain⟨bk,U,rel⟩:=H.blk b loc hm;rw[R]at U;cases U;exact rel
theorem Ext.loop(H:HRel m h w){w1 w2:World}{L:Nat}{g:LG}{k:Blk}{m2:M}{h2:Heap}{o:Obj}(hk:∀i,i<w.heap.size->w1.heap[i]? =w.heap[i]?)(ao:w.heap.size<=L)(ax:w.heap.size<=w1.heap.size)
 (aj:w1.os=w.os) (ad:w1.tape=w.tape) (ab:w1.output=w.output) (E:Ext (ir m h.next ⟨L,0,0,some g⟩) (hnew h k) w1 m2 h2 w2):
 Ext m h w (ir m2 h.next ⟨L,0,0,none⟩) (hset h2 h.next .dead) (w2.putObj L o):=by
 have J:∀p l,m p=some l->p≠h.next:=fun p l Z x=>by subst x;rw[H.unmapped (pi _)]at Z;cases Z
 have R:∀b i,b<w.heap.size->Cov (ir m h.next ⟨L,0,0,some g⟩) b i->Cov m b i:=by
  rintro b i I ⟨q,l,U,h1,h2,h3⟩;by_cases e:q=h.next
  ·subst e;rw[aC]at U;cases U;simp only[]at h1;omega
  ·rw[aK _ _ e]at U;exact⟨q,l,U,h1,h2,h3⟩
 have hnx:(hnew h k).next=h.next+1:=rfl;refine⟨?_,?_,?_,?_,?_,?_,E.os.trans aj,E.tape.trans ad,E.output.trans ab,?_,?_,?_⟩
 ·intro p l Z;rw[aK _ _ (J p l Z)];exact E.le p l (by rw[aK _ _ (J p l Z)];exact Z)
 ·intro p l Z hn;by_cases e:p=h.next
  ·subst e;rw[aC]at Z;cases Z;exact⟨pi _,.inl ao⟩
  ·rw[aK _ _ e]at Z;obtain⟨n1,n2⟩:=E.new p l Z (by rw[aK _ _ e];exact hn);rw[hnx]at n1;refine⟨oM,?_⟩;rcases n2 with n2|⟨q,lq,U,e2⟩
   ·omega
   ·by_cases e3:q=h.next
    ·subst e3;rw[aC]at U;cases U;exact .inl (by simp only[]at e2;omega)
    ·rw[aK _ _ e3]at U;exact .inr ⟨q,lq,U,e2⟩
 ·have:=E.next;rw[hnx]at this;show h.next<=h2.next;omega
 ·intro p hn Z;have D:p≠h.next:=oM
  show(h2.bl.set h.next .dead).get p=_;rw[Qu _ _ D,E.phan p (by rw[aK _ _ D];exact hn) oM];show(h.bl.set h.next k).get p=_;rw[Qu _ _ D]
 ·have:=E.size;simp;omega
 ·intro b I ah;rw[World.putObj_heap_other oM,E.keep b (fun p l Z e=>?_) oM,hk b ah];by_cases e2:p=h.next
  ·subst e2;rw[aC]at Z;cases Z;simp only[]at e;omega
  ·rw[aK _ _ e2]at Z;exact I p l Z e
 ·rintro b i I ⟨q,l,U,h1,ak,h3⟩;by_cases e:q=h.next
  ·subst e;rw[aC]at U;cases U;simp only[]at h1;omega
  ·rw[aK _ _ e]at U;exact R b i I (E.cov b i oM ⟨q,l,U,h1,ak,h3⟩)
 ·intro b I;rw[World.putObj_heap_other oM,<-hk b I];exact(Kept.refl m b _).trans (fun j x=>R b j I x) (E.out b oM)
 ·intro p l Z hn;by_cases e:p=h.next
  ·subst e;rw[aC]at Z;cases Z;rfl
  ·rw[aK _ _ e]at Z;exact E.lps p l Z (by rw[aK _ _ e];exact hn)
end
def Off(m:M)(r:Nat):Prop:=∀p loc,m p=some loc->loc.block≠r
theorem Off.ext{m U:M}{h h':Heap}{w w':World}{r:Nat}(o:Off m r)(E:Ext m h w U h' w')(D:r<w.heap.size):Off U r:=by
 intro p loc Z e;cases h0:m p with
 |some l0=>
  have:=E.le _ _ h0;rw[Z]at this;cases this;exact o p loc h0 e
 |none=>
  rcases(E.new p loc Z h0).2 with q|⟨q,I,R,J⟩
  ·omega
  ·exact o q I R (J.trans e)
theorem HRel.putOff{m:M}{h:Heap}{w:World}(H:HRel m h w){r:Nat}(o:Off m r)(x:Obj):HRel m h (w.putObj r x):=by
 refine⟨⟨H.wf,fun p loc Z=>?_,fun p loc Z=>by simpa using H.inb p loc Z,H.sep⟩,fun p ty n Z=>let⟨loc,C,fz,a,b,c,d⟩:=H.tg p ty n Z;⟨loc,C,fz,a,b,(World.putObj_heap_other (o p loc a)).trans c,d⟩⟩;obtain⟨b,R,U⟩:=H.blk p loc Z;exact⟨b,R,U.mono (fun _ _ x=>x) (fun _ _ _ _ x=>x) (World.putObj_heap_other (o p loc Z))⟩
theorem Ext.putOff{m m':M}{h h':Heap}{w w':World}(E:Ext m h w m' h' w'){r:Nat}(hr:w.heap.size<=r)(x:Obj):Ext m h w m' h' (w'.putObj r x):=
 ⟨E.le,E.new,E.next,E.phan,by simpa using E.size,fun b hb hl=>(World.putObj_heap_other oM).trans (E.keep b hb hl),E.os,E.tape,E.output,E.cov,
  fun b hb=>by rw[World.putObj_heap_other oM];exact E.out b hb,E.lps⟩
def Marks(B:Nat)(m:M)(w:World):List Deferred->Prop
 |[]=>True
 |d::ds=>(∃r,d={target:=.collected r,args:= #[]}/\B<=r/\w.heap[r]? =some (.deferred (some []))/\Off m r/\∀d'∈ds,d'.target≠.collected r)/\Marks B m w ds
theorem Marks.ext{B:Nat}{m m':M}{h h':Heap}{w w':World}(E:Ext m h w m' h' w'):∀{ds:List Deferred},Marks B m w ds→Marks B m' w' ds
 |[],_=>trivial
 |_::_,⟨⟨r,h1,h2,h3,h4,h5⟩,t⟩=>
  have hlt:=(Array.getElem?_eq_some_iff.1 h3).1
  ⟨⟨r,h1,h2,(E.keep r h4 hlt).trans h3,h4.ext E hlt,h5⟩,Marks.ext E t⟩
theorem Marks.put{B:Nat}{m:M}{w:World}{r:Nat}{x:Obj}:∀{ds:List Deferred},(∀d∈ds,d.target≠.collected r)->Marks B m w ds->Marks B m (w.putObj r x) ds
 |[],_,_=>trivial
 |d::ds,hn,⟨⟨r',h1,h2,h3,h4,h5⟩,t⟩=>
  ⟨⟨r',h1,h2,(World.putObj_heap_other (fun e=>hn d iS (by rw[h1,e]))).trans h3,h4,h5⟩,Marks.put (fun d' hd=>hn d' iX) t⟩
inductive Out where
 |ok (e:Ex) (env:T V) (h:Heap)
 |fail
def evO(loc:List V)(env:T V)(x:Opd):Option V:=
 Opd.rec (motive:=fun _=>Option V) (fun k=>nth loc k) (fun s=>env.get s) (fun v=>some v) (fun n=>some (.ptr n 0)) x
def eF(loc:List V)(env:T V)(xs:List Opd):Option (List V):=
 List.rec (motive:=fun _=>Option (List V)) (some []) (fun x _ ih=>
  Option.rec (motive:=fun _=>Option (List V)) none (fun v=>Option.rec (motive:=fun _=>Option (List V)) none (fun vs=>some (v::vs)) ih) (evO loc env x)) xs
def fN{β:Type}(n:Nat)(k:Nat->β):β:=Nat.rec (motive:=fun _=>β) (k 0) (fun j _=>k (Nat.succ j)) n
theorem Mp{β:Type}(n:Nat)(k:Nat->β):fN n k=k n:=by cases n<;>rfl
def fI{β:Type}(n:Int)(k:Int->β):β:=Int.rec (motive:=fun _=>β) (fun a=>fN a fun a=>k (.ofNat a)) (fun a=>fN a fun a=>k (.negSucc a)) n
theorem O5{β:Type}(n:Int)(k:Int->β):fI n k=k n:=by cases n<;>simp[fI,Mp]
def fB{β:Type}(b:Bool)(k:Bool->β):β:=Bool.rec (motive:=fun _=>β) (k false) (k true) b
theorem O6{β:Type}(b:Bool)(k:Bool->β):fB b k=k b:=by cases b<;>rfl
def fV{β:Type}(v:V)(k:V->β):β:=
 match v with
 |.bool b=>fB b fun b=>k (.bool b)
 |.int t n=>fI n fun n=>k (.int t n)
 |.ptr b o=>fN b fun b=>fN o fun o=>k (.ptr b o)
 |.slice b o l c=>fN b fun b=>fN o fun o=>fN l fun l=>fN c fun c=>k (.slice b o l c)
 |.sliceU b o l c=>fN b fun b=>fN o fun o=>fN l fun l=>fN c fun c=>k (.sliceU b o l c)
 |v=>k v
theorem zU{β:Type}(v:V)(k:V->β):fV v k=k v:=by
 cases v<;>simp[fV,O6,O5,Mp]
abbrev aD:=Nat->List V->Heap->Option (V×Heap)
def dsL:Option V->Option (List V)
 |none=>some []
 |some (.agg l)=>some l
 |_=>none
def aM(call:aD)(loc:List V)(env:T V)(h:Heap)(o:IOp):Option (V×Heap):=
 match o with
 |.p k xs=>match eF loc env xs with
  |some vs=>match aP k vs with
   |some v=>some (v,h)
   |none=>none
  |none=>none
 |.ld n ia x=>match evO loc env x with
  |some v=>match jm h n ia v with
   |some v=>some (v,h)
   |none=>none
  |none=>none
 |.st n x y=>match evO loc env x with
  |some p=>match evO loc env y with
   |some v=>match gm h n p v with
    |some h=>some (.tup [],h)
    |none=>none
   |none=>none
  |none=>none
 |.al zero=>some (.ptr h.next 0,halloc h zero)
 |.bx x=>match evO loc env x with
  |some v=>some (.ptr h.next 0,halloc h v.cells)
  |none=>none
 |.bs zero places len xs=>match eF loc env xs with
  |some vs=>jI h zero places len vs
  |none=>none
 |.mk zero bytes x y=>match evO loc env x with
  |some l=>match evO loc env y with
   |some c=>Ay h zero bytes l c
   |none=>none
  |none=>none
 |.ap esz bytes x y=>match evO loc env x with
  |some s=>match evO loc env y with
   |some v=>dK h esz bytes s v
   |none=>none
  |none=>none
 |.cp esz x y=>match evO loc env x with
  |some s=>match evO loc env y with
   |some v=>AB h esz s v
   |none=>none
  |none=>none
 |.cf f xs=>match eF loc env xs with
  |some vs=>call f vs h
  |none=>none
 |.cv x xs=>match evO loc env x with
  |some (.func (.func f) first caps)=>match eF loc env xs with
   |some vs=>bif Nat.blt f YB then call f (first++vs++caps) h else none
   |none=>none
  |_=>none
 |.b2s x=>match evO loc env x with
  |some d=>match nV h d with
   |some v=>some (v,h)
   |none=>none
  |none=>none
 |.df x xs=>match evO loc env x with
  |some (.func (.func f) first caps)=>match eF loc env xs with
   |some vs=>(match dsL (env.get DSL)with
    |some l=>bif Nat.blt f YB then some (.agg (.tup (.func (.func f) first caps::vs)::l),h)else none
    |none=>none)
   |none=>none
  |_=>none
 |.it nx x=>match evO loc env x with
  |some d=>ait h nx d
  |none=>none
 |.ux k xs=>match eF loc env xs with
  |some vs=>aux h k vs
  |none=>none
 |.bad=>none
 |.pn _=>none
def evG(loc:List V)(env:T V)(g:Option (Opd×Bool)):Option Bool:=
 match g with
 |none=>some true
 |some (x,want)=>match evO loc env x with
  |some (.bool b)=>some (!(xor b want))
  | some (.tup _) => some false -- the guard was passed over itself
  |_=>none
def dN(call:aD)(l:List IStep):List V->T V->Heap->Out:=
 List.rec (motive:=fun _=>List V->T V->Heap->Out) (fun _ env h=>.ok .norm env h)
  (fun s _ ih loc env h=>
   match evG loc env s.gd with
   |some true=>match aM call loc env h s.op with
    |some (v,h)=>fV v fun v=>match s.dst with
     |none=>ih (v::loc) env h
     |some d=>ih loc (env.set d v) h
    |none=>.fail
   |some false=>match s.dst with
    |none=>ih (.tup []::loc) env h
    |some d=>ih loc (env.set d (.tup [])) h
   |none=>.fail) l
def eff:IOp->Bool
 |.p _ _=>false
 |.ld _ _ _=>false
 |.b2s _=>false
 |_=>true
def jM(loc:List V)(env:T V)(o:IOp):Option (List V×Option (Nat×Nat)):=
 match o with
 |.al zero=>some (zero,none)
 |.bx x=>match evO loc env x with
  |some v=>some (v.cells,none)
  |none=>none
 |.bs zero places len xs=>match eF loc env xs with
  |some vs=>match dP (gY zero len) places vs with
   |some c=>some (c,some (len,len))
   |none=>none
  |none=>none
 |.mk zero bytes x y=>match evO loc env x with
  |some l=>match evO loc env y with
   |some c=>match mkN bytes l c with
    |some (n,k)=>some (gY zero k,some (n,k))
    |none=>none
   |none=>none
  |none=>none
 |_=>none
def eZ(id:Nat):Option (Nat×Nat)->V
 |some (n,k)=>.slice id 0 n k
 |none=>.ptr id 0
def lid:V->Nat
 |.ptr b _=>b
 |.slice b _ _ _=>b
 |_=>0
abbrev DS:=IStep×Option (V×List V)
def eT(s:DS):Bool:=match s.2 with
 |some _=>false
 |none=>eff s.1.op
def v8(call:aD)(loc:List V)(env:T V)(h:Heap)(s:IStep):V:=
 bif eff s.op then .tup []else match aM call loc env h s.op with
  |some (v,_)=>v
  |none=>.tup []
def lay(call:aD)(env:T V)(late:List Nat):List IStep->Nat->List V->Heap->Option (List DS×Heap)
 |[],_,_,h=>some ([],h)
 |s::l,i,loc,h=>
  bif late.contains i then
   match jM loc env s.op with
   |some (c,k)=>match lay call env late l (i+1) (eZ h.next k::loc) (halloc h c)with
    |some (r,h')=>some ((s,some (eZ h.next k,c))::r,h')
    |none=>none
   |none=>none
  else
   match lay call env late l (i+1) (v8 call loc env h s::loc) h with
   |some (r,h')=>some ((s,none)::r,h')
   |none=>none
def cL(loc:List V)(env:T V)(o:IOp)(u:V)(c:List V):Bool:=
 match jM loc env o with
 |some (c',k)=>mE c c'&&vEq u (eZ (lid u) k)
 |none=>false
def gU(call:aD)(env:T V)(l:List DS):List V->List Heap->Heap->Option (List V×List Heap):=
 List.rec (motive:=fun _=>List V->List Heap->Heap->Option (List V×List Heap)) (fun loc hs _=>some (loc,hs))
  (fun s _ ih loc hs h=>
   match s.2 with
   |some (u,c)=>bif cL loc env s.1.op u c then ih (u::loc) hs h else none
   |none=>
    match evG loc env s.1.gd with
    |some true=>match aM call loc env h s.1.op with
     |some (v,h')=>fV v fun v=>bif eff s.1.op then ih (v::loc) (h'::hs) h' else ih (v::loc) hs h
     |none=>none
    |some false=>bif eff s.1.op then ih (.tup []::loc) (h::hs) h else ih (.tup []::loc) hs h
    |none=>none) l
def gz(call:aD)(loc:List V)(env:T V)(o:IOp)(v:V):List Heap->Bool
 |[]=>true
 |h::hs=>(match aM call loc env h o with
  |some (u,_)=>vEq u v
  |none=>false)&&gz call loc env o v hs
def kZ(call:aD)(env:T V)(l:List IStep)(loc:List V)(hs:List Heap)(r:Nat×Nat×Nat):Bool:=
 match r with
 |(i,lo,hi)=>match l[i]?,loc.drop (l.length-i-1)with
  |some s,v::loc'=>(match evG loc' env s.gd with
   |some true=>gz call loc' env s.op v ((hs.reverse.drop lo).take (hi+1-lo))
   |_=>true)
  |_,_=>false
def hJ(n:Nat)(loc:List V):List (Nat×Nat)->T V->Option (T V)
 |[],env=>some env
 |(s,i)::r,env=>match loc[n-i-1]? with
  |some v=>hJ n loc r (env.set s v)
  |none=>none
def evD(call:aD)(l:List IStep)(late:List Nat)(reads:List (Nat×Nat×Nat))(sets:List (Nat×Nat))(env:T V)(h0:Heap):Out:=
 match lay call env late l 0 [] h0 with
 |none=>.fail
 |some (dl,h)=>
 match gU call env dl [] [h] h with
 |some (loc,hs)=>bif reads.all (kZ call env l loc hs)then
  (match hJ l.length loc sets env,hs with
   |some env',h'::_=>.ok .norm env' h'
   |_,_=>.fail)
  else .fail
 |none=>.fail
def dbl(body:T V->Heap->Out)(k:Nat):T V->Heap->Out:=
 Nat.rec (motive:=fun _=>T V->Heap->Out) body (fun _ ih env h=>match ih env h with
  |.ok .norm env h=>ih env h
  |r=>r) k
def evC(call:aD)(c:IC):T V->Heap->Out:=
 IC.rec (motive:=fun _=>T V->Heap->Out)
  (fun env h=>.ok .norm env h)
  (fun l env h=>dN call l [] env h)
  (fun _ _ a b env h=>match a env h with
   |.ok .norm env h=>b env h
   |r=>r)
  (fun x _ _ a b env h=>match evO [] env x with
   |some (.bool t)=>bif t then a env h else b env h
   |_=>.fail)
  (fun id _ c env h=>match c env h with
   |.ok (.exit i) env h=>bif Nat.beq i id then .ok .norm env h else .ok (.exit i) env h
   |r=>r)
  (fun _ c env h=>match dbl c 48 env h with
   |.ok .norm _ _=>.fail
   |r=>r)
  (fun id env h=>.ok (.exit id) env h)
  (fun env h=>.ok .ret env h)
  (fun _ l _ c r env h=>match c env h with
   |.ok (.goto i) env h=>bif Nat.beq i l then
    (match dbl (fun env h=>match r env h with
     |.ok (.goto i) env h=>bif Nat.beq i l then .ok .norm env h else .ok (.goto i) env h
     |.ok .norm env h=>.ok (.goto l) env h
     |r=>r) 48 env h with
     |.ok .norm _ _=>.fail
     |.ok (.goto i) env h=>bif Nat.beq i l then .ok .norm env h else .fail
     |r=>r)
    else .fail
   |r=>r)
  (fun l env h=>.ok (.goto l) env h)
  (fun l late _ reads sets env h=>evD call l late reads sets env h)
  (fun _ _=>.fail)
  (fun _ _ _ _=>.fail) c
inductive RV where
 |t (s:Nat)
 |c (s n:Nat) (ia:Bool)
structure IFn where
 nargs:Nat
 body:IC
 results:List RV
def vd:List IStep->List Nat
 |[]=>[]
 |s::l=>match s.dst with
  |some d=>bif Nat.beq d DSL then vd l else d::vd l
  |none=>vd l
def vz:IC->List Nat
 |.ops l=>vd l
 |.seq a b|.cond _ a b|.scope a _ b=>vz a++vz b
 |.block _ a|.loop a|.wd a=>vz a
 |.dops _ _ _ _ t=>t.map Prod.fst
 |_=>[]
def IFn.vars(f:IFn):List Nat:=List.range f.nargs++vz f.body
def evR(env:T V)(h:Heap):RV->Option V
 |.t s=>env.get s
 |.c s n ia=>match env.get s with
  |some v=>jm h n ia v
  |none=>none
def fg(env:T V)(h:Heap):List RV->Option (List V)
 |[]=>some []
 |r::rs=>match evR env h r with
  |some v=>match fg env h rs with
   |some vs=>some (v::vs)
   |none=>none
  |none=>none
def fA(vs:List V):Nat->T V->T V:=
 List.rec (motive:=fun _=>Nat->T V->T V) (fun _ en=>en) (fun v _ ih i en=>ih (Nat.succ i) (en.set i v)) vs
def evF(ov:aD)(F:T IFn)(n:Nat):aD:=
 Nat.rec (motive:=fun _=>aD) (fun _ _ _=>none)
  (fun _ ih f vs h=>match F.get f with
   |some fn=>bif Nat.beq vs.length fn.nargs then
    (match evC ih fn.body (fA vs 0 .e) h with
     |.ok .norm env h=>match fg env h fn.results with
      |some [v]=>fV v fun v=>some (v,h)
      |some vs=>some (.tup vs,h)
      |none=>none
     |.ok .ret env h=>match fg env h fn.results with
      |some [v]=>fV v fun v=>some (v,h)
      |some vs=>some (.tup vs,h)
      |none=>none
     |_=>none)
    else none
   |none=>ov f vs h) n
inductive Src where
 |l (k:Nat)
 |v (s:Nat)
 |x (o:Operand)
 |bad
abbrev Sg:=List (Nat×Src)
def eM:Sg->Nat->Option Src
 |[],_=>none
 |(d,s)::r,t=>if d=t then some s else eM r t
def tZ:Src->Src
 |.l k=>.l (k+1)
 |s=>s
def FK:Sg->Sg
 |[]=>[]
 |(d,s)::r=>(d,tZ s)::FK r
def lZ(d t:Nat):Src->Src
 |.v s=>if t=d\/s=d then .bad else .v s
 |s=>if t=d then .bad else s
def yS(d:Nat):Sg->Sg
 |[]=>[]
 |(t,s)::r=>(t,lZ d t s)::yS d r
def qq(G:Nat):Operand->Opd->Bool
 |.const x,.c v=>vis v x
 |.global g,.g n=>Nat.beq g n&&Nat.testBit G g
 |.func f,.c (.func (.func f') [] [])=>Nat.beq f f'
 |_,_=>false
def dq(G:Nat):Src->Opd->Bool
 |.l k,.l j=>Nat.beq k j
 |.v s,.v t=>Nat.beq s t
 |.x o,y=>qq G o y
 |_,_=>false
structure Cx where
 G:Nat
 vars:List Nat
 N:Nat
 df:Bool
def lI(C:Cx)(σ:Sg):Operand->Opd->Bool
 |.tmp t,y=>match eM σ t with
  |some s=>dq C.G s y
  |none=>match y with
   |.v s=>Nat.beq s t&&C.vars.contains t
   |_=>false
 |o,y=>qq C.G o y
def cU(C:Cx)(σ:Sg):List Operand->List Opd->Bool
 |[],[]=>true
 |o::os,y::ys=>lI C σ o y&&cU C σ os ys
 |_,_=>false
def PF(P:Program)(t:TypeId)(name:String)(f:Nat):Bool:=
 match P.info? t with
 |some i=>(match i.methods.find? (fun x=>x.name==name)with
  |some mt=>mt.path.isEmpty&&(match mt.func with
   |some (g,true)=>Nat.beq g f
   |_=>false)
  |none=>false)&&(match P.underlying t with
   |some (.pointer _)=>true
   |_=>false)
 |none=>false
def cM(P:Program)(C:Cx)(σ:Sg)(o:Oper):IOp->Bool
 |.p k xs=>bG P o.op k&&cU C σ o.op.operands.toList xs
 |.ld n ia x=>yx P o.op n ia&&cU C σ o.op.operands.toList [x]
 |.st n x y=>tG P o.op n&&cU C σ o.op.operands.toList [x,y]
 |.al zero=>iW P o.op zero
 |.bx x=>yA o.op&&cU C σ o.op.operands.toList [x]
 |.bs zero places len xs=>kT P o.op zero places len&&cU C σ o.op.operands.toList xs
 |.mk zero bytes x y=>nj P o.op zero bytes&&cU C σ o.op.operands.toList [x,y]
 |.ap esz bytes x y=>pJ P o.op esz bytes&&cU C σ o.op.operands.toList [x,y]
 |.cp esz x y=>yy P o.op esz&&cU C σ o.op.operands.toList [x,y]
 |.cf f xs=>match o.op with
  |.call {callee:=.value (.func f'),args, .. }=>Nat.beq f f'&&cU C σ args.toList xs&&Nat.blt f YB
  |_=>false
 |.cv x xs=>match o.op with
  |.call {callee:=.value y,args, .. }=>lI C σ y x&&cU C σ args.toList xs
  |_=>false
 |.b2s x=>BU P o.op&&cU C σ o.op.operands.toList [x]
 |.df _ _=>false
 |.it nx x=>IN P o.op nx&&cU C σ o.op.operands.toList [x]
 |.ux k xs=>eB P o.op k&&cU C σ (wZ o.op k) xs
 |.bad=>true
 |.pn x=>match o.op with|.panic y=>lI C σ y x|_=>false
def Md:Op->Bool
 |.defer _=>false
 |_=>true
def gA(P:Program)(C:Cx)(σ:Sg)(o:Oper)(i:IOp):Bool:=Md o.op&&cM P C σ o i
def IQ(C:Cx)(σ:Sg)(o:Oper)(s:IStep):Bool:=
 C.df&&(match s.dst with|some d=>Nat.beq d DSL|none=>false)&&(match o.dst with|none=>true|some _=>false)&&(match o.guard,s.gd with|none,none=>true|_,_=>false)&&
 (match s.op with
  |.df x xs=>(match o.op with
   |.defer {callee:=.value y,args, .. }=>lI C σ y x&&cU C σ args.toList xs
   |_=>false)
  |_=>false)
def An(C:Cx)(σ:Sg)(ops:Array Oper)(g:Option (Nat×Bool))(s:Option (Opd×Bool)):Bool:=
 match g,s with
 |none,none=>true
 |some (j,want),some (x,want')=>(want==want')&&(match(ops[j]?).bind (·.dst)with
  |some d=>Nat.blt d C.N&&lI C σ (.tmp d) x
  |none=>false)
 |_,_=>false
def Ae(C:Cx)(d:Option Nat)(s:Option Nat):Bool:=
 match d,s with
 |none,none=>true
 |some d,none=> !C.vars.contains d&&Nat.blt d C.N
 |some d,some e=>Nat.beq d e&&C.vars.contains d&&Nat.blt d C.N
 |none,some _=>false
def after(σ:Sg)(d:Option Nat)(s:Option Nat):Sg:=
 match d,s with
 |none,_=>FK σ
 |some d,none=>(d,.l 0)::FK σ
 |some d,some _=>yS d σ
def yG(C:Cx)(σ:Sg)(ops:Array Oper)(o:Oper):Option (Nat×Src):=
 match o.op,o.guard,o.dst with
 |.move x,none,some d=>
  if !C.vars.contains d&&Nat.blt d C.N then
   match x with
   |.tmp t=>
    match eM σ t with
    |some (.v s)=>if ops.any (fun p=>p.dst==some s)then none else some (d,.v s)
    |some s=>some (d,s)
    |none=>if C.vars.contains t&& !ops.any (fun p=>p.dst==some t)then some (d,.v t)else none
   |x=>some (d,.x x)
  else none
 |_,_,_=>none
def Dp(σ:Sg):Sg:=yS DSL σ
def eQ(P:Program)(C:Cx)(ops:Array Oper):List Oper->List IStep->Sg->Bool
 |[],[],_=>true
 |[],_::_,_=>false
 |o::os,steps,σ=>
  match yG C σ ops o with
  |some p=>eQ P C ops os steps (p::σ)
  |none=>match steps with
   |[]=>false
   |s::rest=>An C σ ops o.guard s.gd&&gA P C σ o s.op&&Ae C o.dst s.dst&&eQ P C ops os rest (after σ o.dst s.dst)||(IQ C σ o s&&eQ P C ops os rest (Dp σ))
def Glob(K:LG->Prop)(G:Nat)(m:M):Prop:=(∀g,Nat.testBit G g=true->∃r,m g=some ⟨g,0,r,none⟩)/\∀p loc g,m p=some loc->loc.lp=some g->K g
theorem Glob.ext{K:LG->Prop}{G:Nat}{m m':M}{h h':Heap}{w w':World}(a:Glob K G m)(E:Ext m h w m' h' w'):Glob K G m':=
 ⟨fun g hg=>let⟨r,hr⟩:=a.1 g hg;⟨r,E.le _ _ hr⟩,fun p loc g hp hl=>by
  cases h0:m p with
  |some l0=>
   have:=E.le _ _ h0;rw[hp]at this;cases this;exact a.2 p loc g h0 hl
  |none=>rw[E.lps p loc hp h0]at hl;cases hl⟩
variable {K : LG -> Prop}
def Inv(G:Nat)(m:M)(loc:List V)(env:T V)(a:Act)(σ:Sg):Prop:=
 ∀t s,eM σ t=some s->∀y v,dq G s y=true->evO loc env y=some v->VRel m v (a.tmps.getD t undef)
def ERel(C:Cx)(m:M)(env:T V)(a:Act):Prop:=
 a.tmps.size=C.N/\(∀s v,env.get s=some v->s=DSL\/(C.vars.contains s=true/\VRel m v (a.tmps.getD s undef)))/\C.vars.contains DSL=false
theorem ERel.var{C:Cx}{m:M}{env:T V}{a:Act}(Z:ERel C m env a){s:Nat}{v:V}(U:C.vars.contains s=true)(e:env.get s=some v):VRel m v (a.tmps.getD s undef):=by
 rcases Z.2.1 s v e with q|q
 ·rw[q,Z.2.2]at U;cases U
 ·exact q.2
theorem pI{G:Nat}{m:M}{o:Operand}{y:Opd}{loc:List V}{env:T V}{v:V}{a:Act}(Z:Glob K G m)(h:qq G o y=true)(e:evO loc env y=some v):VRel m v (a.eval o):=by
 unfold qq at h;split at h
 ·cases e;exact Co m _ _ h
 ·cases e;simp only[be]at h;have:=py h.1;subst this;obtain⟨r,U⟩:=Z.1 _ h.2;exact⟨_,U,rfl⟩
 ·cases e;have:=py h;subst this;exact⟨[],[],rfl,rfl,rfl⟩
 ·cases h
theorem eW{C:Cx}{m:M}{σ:Sg}{o:Operand}{y:Opd}{loc:List V}{env:T V}{v:V}{a:Act}(Z:Glob K C.G m)(U:Inv C.G m loc env a σ)(J:ERel C m env a)
 (h:lI C σ o y=true) (e:evO loc env y=some v):VRel m v (a.eval o):=by
 unfold lI at h;split at h
 ·rename_i t;split at h
  ·rename_i s R;exact U t s R y v h e
  ·split at h
   ·rename_i s;simp only[be]at h;have:=py h.1;subst this;exact J.var h.2 e
   ·cases h
 ·exact pI Z h e
theorem pE(loc:List V)(env:T V)(x:Opd)(Z:List Opd):eF loc env (x::Z)=match evO loc env x with
 |some v=>(match eF loc env Z with|some vs=>some (v::vs)|none=>none)
 |none=>none:=by
 show Option.rec (motive:=fun _=>Option (List V)) none (fun v=>Option.rec (motive:=fun _=>Option (List V)) none (fun vs=>some (v::vs)) (eF loc env Z)) (evO loc env x)=_;cases evO loc env x with
 |none=>rfl
 |some v=>cases eF loc env Z<;>rfl
def uK(C:Cx)(m:M)(σ:Sg)(loc:List V)(env:T V)(a:Act):Prop:=∀(o:Operand)(y:Opd)(v:V),lI C σ o y=true->evO loc env y=some v->VRel m v (a.eval o)
theorem bM{C:Cx}{m:M}{σ:Sg}{loc:List V}{env:T V}{a:Act}(hO:uK C m σ loc env a):
 ∀(os:List Operand)(ys:List Opd)(vs:List V),cU C σ os ys=true->eF loc env ys=some vs->VsRel m vs (os.map a.eval)
 |[],[],vs,_,e=>by cases e;rfl
 |[],_::_,_,h,_=>by simp[cU]at h
 |_::_,[],_,h,_=>by simp[cU]at h
 |o::os,y::ys,vs,h,e=>by
  simp only[cU,be]at h;rw[pE]at e;cases h1:evO loc env y with
  |none=>rw[h1]at e;cases e
  |some v=>
   rw[h1]at e;cases h2:eF loc env ys with
   |none=>rw[h2]at e;cases e
   |some ws=>
    rw[h2]at e;cases e;exact⟨_,_,rfl,hO _ _ _ h.1 h1,bM hO os ys ws h.2 h2⟩
theorem td{loc:List V}{env:T V}{x:Opd}{v:V}(h:evO loc env x=some v):eF loc env [x]=some [v]:=by
 rw[pE,h];rfl
theorem zX{loc:List V}{env:T V}{x y:Opd}{v u:V}(h:evO loc env x=some v)(k:evO loc env y=some u):eF loc env [x,y]=some [v,u]:=by
 rw[pE,h,td k]
def mC(m:M)(h:Heap)(w:World)(v:V)(h':Heap):Ending->World->Prop:=fun e w'=>∃x m',e=.returned x/\VRel m' v x/\HRel m' h' w'/\Ext m h w m' h' w'
abbrev FR(ro:Option Nat):Fence:={Fence.wide with round:=ro}
def b9(P:Program)(K:LG->Prop)(G:Nat)(call:aD):Prop:=∀f vs h v h',call f vs h=some (v,h')->f<YB->
 (∃fn,P.funcs[f]? =some fn/\fn.body.isSome=true/\(fn.name== "runtime.NumGoroutine")=false)/\
  ∀m w (args:List Value),VsRel m vs args->HRel m h w->Glob K G m->Calls P f (List.toArray args) w (mC m h w v h')
theorem gF{P:Program}{w:World}{f:FuncId}{args:Array Value}(h:∃fn,P.funcs[f]? =some fn/\fn.body.isSome=true/\(fn.name== "runtime.NumGoroutine")=false):
 (callFunc f args).run P w=.ok (.enter f args) w:=by
 obtain⟨fn,hf,R,U⟩:=h;have Z:fn.body.isNone=false:=by cases hh:fn.body<;>simp_all
 simp only[callFunc,Qz,run_program,Qr,hf,U,Z,QQ,if_false,QL]
theorem mL{P:Program}{C:Cx}{call:aD}(I:b9 P K C.G call){m:M}{h h':Heap}{w:World}{σ:Sg}{loc:List V}{env:T V}{a:Act}{o:Oper}{i:IOp}{v:V}
 (hG:Glob K C.G m) (hO:uK C m σ loc env a) (H:HRel m h w) (Z:gA P C σ o i=true) (e:aM call loc env h i=some (v,h')) {K0:Act->World->Prop} {Q:Exit->Act->World->Prop}
 (hK:∀x w' m',VRel m' v x->HRel m' h' w'->Ext m h w m' h' w'->K0 (a.put o.dst x) w') {ro:Option Nat}:o.wpIn (FR ro) 0 P a w K0 Q:=by
 unfold gA at Z;simp only[be]at Z;obtain⟨ak,Z⟩:=Z;have ad:=Oper.semAt_eq ro a.eval o (fun c hcc=>by rw[hcc]at ak;cases ak);have fin:MS P m h w o a.eval v h'->o.wpIn (FR ro) 0 P a w K0 Q:=by
  rintro⟨x,w',m',hg,r,H',E'⟩;refine⟨fun _ _=>trivial,?_⟩;show o.uponIn (FR ro) 0 P a K0 Q ((o.semAt ro a.eval).run P w);rw[ad];rcases hg with hg|⟨hg,rfl⟩
  ·rw[hg];exact hK x w' m' r H' E'
  ·rw[hg];exact hK undef w' m' r H' E'
 have R:∀{f:Nat}{args:List Value},(execOp a.eval o).run P w=.ok (.enter f (List.toArray args)) w->Calls P f (List.toArray args) w (mC m h w v h')->o.wpIn (FR ro) 0 P a w K0 Q:=by
  intro f args hr D;refine⟨fun _ _=>trivial,?_⟩;show o.uponIn (FR ro) 0 P a K0 Q ((o.semAt ro a.eval).run P w);rw[ad,hr];have ah:CallsIn Fence.wide 0 P f (List.toArray args) w (mC m h w v h'):=callsIn_wide.2 D;refine⟨fun q=>absurd q (by simp[Fence.wide]),CallsIn.mono (F:=FR ro) (n:=0) ah ?_⟩;rintro en w' ⟨x,m',rfl,r,H',E'⟩;exact hK x w' m' r H' E'
 have one:∀x u,cU C σ o.op.operands.toList [x]=true->evO loc env x=some u->VsRel m [u] (OV a.eval o.op):=fun x u h1 h2=>bM hO _ _ _ h1 (td h2);have ab:∀x y u t,cU C σ o.op.operands.toList [x,y]=true->evO loc env x=some u->evO loc env y=some t->VsRel m [u,t] (OV a.eval o.op):=fun x y u t h1 h2 h3=>bM hO _ _ _ h1 (zX h2 h3);unfold aM at e;split at e
 ·rename_i k xs;simp only[cM,be]at Z;split at e
  ·rename_i vs U;split at e
   ·rename_i u J;cases e;exact fin (JM H (Ji Z.1 (bM hO _ _ _ Z.2 U) J))
   ·cases e
  ·cases e
 ·rename_i n ia x;simp only[cM,be]at Z;split at e
  ·rename_i u J;split at e
   ·rename_i t ht;cases e;obtain⟨x,r,hr⟩:=Az (P:=P) H Z.1 (one _ _ Z.2 J) ht;exact fin ⟨x,w,m,.inl hr,r,H,Sa _ _ _⟩
   ·cases e
  ·cases e
 ·rename_i n x y;simp only[cM,be]at Z;split at e
  ·rename_i p hp;split at e
   ·rename_i u J;split at e
    ·rename_i h2 ax;cases e;exact fin (yF H Z.1 (ab _ _ _ _ Z.2 hp J) ax)
    ·cases e
   ·cases e
  ·cases e
 ·cases e;simp only[cM]at Z;exact fin (yI H Z)
 ·simp only[cM,be]at Z;split at e
  ·rename_i u J;cases e;exact fin (Cf H Z.1 (one _ _ Z.2 J))
  ·cases e
 ·simp only[cM,be]at Z;split at e
  ·rename_i vs U;exact fin (uJ H Z.1 (bM hO _ _ _ Z.2 U) e)
  ·cases e
 ·simp only[cM,be]at Z;split at e
  ·rename_i p hp;split at e
   ·rename_i u J;exact fin (Ax H Z.1 (ab _ _ _ _ Z.2 hp J) e)
   ·cases e
  ·cases e
 ·simp only[cM,be]at Z;split at e
  ·rename_i p hp;split at e
   ·rename_i u J;exact fin (ur H Z.1 (ab _ _ _ _ Z.2 hp J) e)
   ·cases e
  ·cases e
 ·simp only[cM,be]at Z;split at e
  ·rename_i p hp;split at e
   ·rename_i u J;exact fin (AA H Z.1 (ab _ _ _ _ Z.2 hp J) e)
   ·cases e
  ·cases e
 ·rename_i f xs;simp only[cM]at Z;split at Z
  ·rename_i f' args ts hy;simp only[be,QJ]at Z;have:=py Z.1.1;subst this;split at e
   ·rename_i vs U;have hv:=bM hO _ _ _ Z.1.2 U;obtain⟨hf,D⟩:=I f vs h v h' e Z.2;have hr:(execOp a.eval o).run P w=.ok (.enter f (List.toArray (args.toList.map a.eval))) w:=by
     exact yw
    exact R hr (D m w _ hv H hG)
   ·cases e
  ·cases Z
 ·rename_i x xs;simp only[cM]at Z;split at Z
  ·rename_i y args ts hy;simp only[be]at Z;split at e
   ·rename_i f first aE hx
    split at e
    ·rename_i vs U;have hv:=bM hO _ _ _ Z.2 U;have ao:=hO _ _ _ Z.1 hx;obtain⟨f',c',aA,rf,rc⟩:=ao;cases aj:Nat.blt f YB
     ·grind
     ·rw[aj]at e;simp only[cond_true]at e;obtain⟨hf,D⟩:=I f _ h v h' e ((QJ ..).mp aj);have hr:(execOp a.eval o).run P w=.ok (.enter f (List.toArray (f'++args.toList.map a.eval++c'))) w:=by
       have q:args.map a.eval=List.toArray (args.toList.map a.eval):=SY iS;simp only[execOp,hy,resolve,aA,Deferred.ofValue,Qz,QL,Qr,invoke];rw[show(List.toArray f'++args.map a.eval++List.toArray c')=List.toArray (f'++args.toList.map a.eval++c') by simp[q]];exact gF hf
      exact R hr (D m w _ (Tg (Tg rf hv) rc) H hG)
    ·cases e
   ·cases e
  ·cases Z
 ·simp only[cM,be]at Z;split at e
  ·rename_i d hd;split at e
   ·rename_i u J;cases e;exact fin (Cg H Z.1 (one _ _ Z.2 hd) J)
   ·cases e
  ·cases e
 ·simp only[cM,QQ]at Z
 ·simp only[cM,be]at Z;split at e
  ·rename_i d hd;exact fin (Gb H Z.1 (one _ _ Z.2 hd) e)
  ·cases e
 ·simp only[cM,be]at Z;split at e
  ·rename_i vs U;exact fin (FP H (fun _=>rfl) Z.1 (bM hO _ _ _ Z.2 U) e)
  ·cases e
 ·cases e
 ·cases e
variable {K : LG -> Prop}
theorem EF(σ:Sg)(t:Nat):eM (FK σ) t=(eM σ t).map tZ:=by
 induction σ with
 |nil=>rfl
 |cons p r ih=>
  obtain⟨d,s⟩:=p;simp only[FK,eM];by_cases h:d=t
  ·grind
  ·grind
theorem sO(d:Nat)(σ:Sg)(t:Nat):eM (yS d σ) t=(eM σ t).map (lZ d t):=by
 induction σ with
 |nil=>rfl
 |cons p r ih=>
  obtain⟨e,s⟩:=p;simp only[yS,eM];by_cases h:e=t
  ·grind
  ·grind
theorem fk(a:Act)(d:Nat)(x:Value)(t:Nat)(Z:d<a.tmps.size):(a.put (some d) x).tmps.getD t undef=if t=d then x else a.tmps.getD t undef:=by
 simp only[Act.put,Rh];by_cases h:t=d
 ·grind
 ·grind
theorem mJ(a:Act)(d:Option Nat)(x:Value):(a.put d x).tmps.size=a.tmps.size:=by
 cases d<;>simp[Act.put]
theorem Iy{G:Nat}{s:Src}{y:Opd}{loc:List V}{env:T V}{u v:V}(h:dq G (tZ s) y=true)(e:evO (u::loc) env y=some v):
 ∃y',dq G s y'=true/\evO loc env y'=some v:=by
 cases s with
 |l k=>
  simp only[tZ]at h;cases y with
  |l j=>
   simp only[dq]at h;have:=py h;subst this;exact⟨.l k,by simp[dq],e⟩
  |_=>simp[dq]at h
 |v s=>
  refine⟨y,h,?_⟩;simp only[tZ]at h;cases y<;>simp[dq]at h;exact e
 |x o=>
  refine⟨y,h,?_⟩;simp only[tZ,dq]at h;exact yaM
 |bad=>simp[tZ,dq]at h
theorem wn{G:Nat}{d t:Nat}{s:Src}{y:Opd}{loc:List V}{env:T V}{u v:V}(h:dq G (lZ d t s) y=true)(e:evO loc (env.set d u) y=some v):
 t≠d/\dq G s y=true/\evO loc env y=some v:=by
 cases s with
 |l k=>
  simp only[lZ]at h;by_cases c:t=d
  ·rw[if_pos c]at h;simp[dq]at h
  ·rw[if_neg c]at h;refine⟨c,h,?_⟩;cases y<;>simp[dq]at h;exact e
 |v s=>
  simp only[lZ]at h;by_cases c:t=d\/s=d
  ·rw[if_pos c]at h;simp[dq]at h
  ·rw[if_neg c]at h;refine⟨fun q=>c (.inl q),h,?_⟩;cases y<;>simp[dq]at h;subst h;show env.get s=some v;rw[<-Qu env u (fun q=>c (.inr q))];exact e
 |x o=>
  simp only[lZ]at h;by_cases c:t=d
  ·rw[if_pos c]at h;simp[dq]at h
  ·rw[if_neg c]at h;refine⟨c,h,?_⟩;simp only[dq]at h;exact yaM
 |bad=>
  simp only[lZ]at h;by_cases c:t=d<;>simp[c,dq]at h
def iN(loc:List V)(v:V):Option Nat->List V
 |none=>v::loc
 |some _=>loc
def fO(env:T V)(v:V):Option Nat->T V
 |none=>env
 |some d=>env.set d v
theorem fS{C:Cx}{m m':M}(U:Le m m'){loc:List V}{env:T V}{a:Act}{σ:Sg}(hI:Inv C.G m loc env a σ)(I:ERel C m env a){d s:Option Nat}(D:Ae C d s=true)
 {v:V} {x:Value} (r:VRel m' v x):Inv C.G m' (iN loc v s) (fO env v s) (a.put d x) (after σ d s)/\ERel C m' (fO env v s) (a.put d x):=by
 have J:∀t s',eM (FK σ) t=some s'->∀y u,dq C.G s' y=true->evO (v::loc) env y=some u->VRel m' u (a.tmps.getD t undef):=by
  intro t s' Z y u hy he;rw[EF]at Z;cases hl:eM σ t with
  |none=>rw[hl]at Z;cases Z
  |some s0=>
   rw[hl]at Z;cases Z;obtain⟨y',h1,h2⟩:=Iy hy he;exact RJ U _ _ (hI t s0 hl y' u h1 h2)
 unfold Ae at D;split at D
 ·refine⟨J,I.1,fun s u Z=>(I.2.1 s u Z).imp id fun q=>⟨q.1,RJ U _ _ q.2⟩,I.2.2⟩
 ·rename_i d;simp only[be,RA,QJ]at D;have R:d<a.tmps.size:=by rw[I.1];exact D.2
  refine⟨?_,by rw[mJ];exact I.1,fun s u Z=>?_,I.2.2⟩
  ·intro t s' Z y u hy he;simp only[after,eM]at Z;rw[fk a d x t R];by_cases c:d=t
   ·rw[if_pos c]at Z;cases Z;rw[if_pos c.symm];cases y<;>simp[dq]at hy;subst hy;cases he;exact r
   ·rw[if_neg c]at Z;rw[if_neg (Sx c)];exact J t s' Z y u hy he
  ·rcases I.2.1 s u Z with q|⟨h1,h2⟩
   ·exact .inl q
   refine .inr ⟨h1,?_⟩;rw[fk a d x s R,if_neg (by intro q;subst q;rw[h1]at D;simp at D)];exact RJ U _ _ h2
 ·rename_i d e;simp only[be,QJ]at D;have:=py D.1.1;subst this;have R:d<a.tmps.size:=by rw[I.1];exact D.2
  refine⟨?_,by rw[mJ];exact I.1,fun s u Z=>?_,I.2.2⟩
  ·intro t s' Z y u hy he;simp only[after]at Z;rw[sO]at Z;cases hl:eM σ t with
   |none=>rw[hl]at Z;cases Z
   |some s0=>
    rw[hl]at Z;cases Z;obtain⟨ab,h1,h2⟩:=wn hy he;rw[fk a d x t R,if_neg ab];exact RJ U _ _ (hI t s0 hl y u h1 h2)
  ·simp only[fO]at Z;rw[RP]at Z;rw[fk a d x s R];by_cases c:s=d
   ·grind
   ·rw[if_neg c]at Z;rw[if_neg c];exact(I.2.1 s u Z).imp id fun q=>⟨q.1,RJ U _ _ q.2⟩
 ·cases D
theorem qh{C:Cx}{m:M}{loc:List V}{env:T V}{a:Act}{σ:Sg}{ops:Array Oper}(hG:Glob K C.G m)(hI:Inv C.G m loc env a σ)(hE:ERel C m env a){o:Oper}{s:Option (Opd×Bool)}
 (hc:An C σ ops o.guard s=true) {b:Bool} (e:evG loc env s=some b):Region.wanted o (yielded ops a.tmps)=b:=by
 unfold Region.wanted;unfold An at hc;split at hc
 ·rename_i hg;rw[hg];cases e;rfl
 ·rename_i j want x want' hg;rw[hg];simp only[Bool.and_eq_true,beq_iff_eq]at hc;obtain⟨rfl,hc⟩:=hc;split at hc
  ·rename_i d hd;simp only[Bool.and_eq_true,Nat.blt_eq]at hc;unfold evG at e;simp only[]at e;split at e
   ·rename_i c hx;cases e;have hr:=eW hG hI hE hc.2 hx;simp only[VRel,Act.eval]at hr;have hlt:d<a.tmps.size:=by rw[hE.1];exact hc.1
    have:a.tmps[d]? =some (.bool c):=by
     rw[Array.getD_eq_getD_getElem?,Array.getElem?_eq_getElem hlt]at hr;rw[Array.getElem?_eq_getElem hlt];simpa using hr
    simp only[yielded,hd,Option.bind_some,this];cases c<;>cases want<;>rfl
   ·rename_i c hx;cases e;have hr:=eW hG hI hE hc.2 hx;simp only[VRel,Act.eval]at hr;obtain⟨c',hr,_⟩:=hr;have hlt:d<a.tmps.size:=by rw[hE.1];exact hc.1
    have:a.tmps[d]? =some (.tuple c'.toArray):=by
     rw[Array.getD_eq_getD_getElem?,Array.getElem?_eq_getElem hlt]at hr;rw[Array.getElem?_eq_getElem hlt];simpa using hr
    simp only[yielded,hd,Option.bind_some,this];cases want<;>rfl
   ·cases e
  ·cases hc
 ·cases hc
theorem qC{C:Cx}{m:M}{loc:List V}{env:T V}{a:Act}{σ:Sg}{ops:Array Oper}(hG:Glob K C.G m)(hI:Inv C.G m loc env a σ)(R:ERel C m env a){o:Oper}{p:Nat×Src}
 (h:yG C σ ops o=some p):∃x,o.op=.move x/\o.guard=none/\o.dst=some p.1/\Inv C.G m loc env (a.put o.dst (a.eval x)) (p::σ)/\ERel C m env (a.put o.dst (a.eval x)):=by
 unfold yG at h;split at h
 ·rename_i x d hop hgd hds;split at h
  ·rename_i Z;simp only[be,RA,QJ]at Z;have U:d<a.tmps.size:=by rw[R.1];exact Z.2
   have hE':ERel C m env (a.put (some d) (a.eval x)):=by
    refine⟨by rw[mJ];exact R.1,fun s u I=>?_,R.2.2⟩;rcases R.2.1 s u I with q|⟨h1,h2⟩
    ·exact .inl q
    refine .inr ⟨h1,?_⟩;rw[fk a d _ s U,if_neg (by intro q;subst q;rw[h1]at Z;simp at Z)];exact h2
   have hI':∀D:Src,(∀y v,dq C.G D y=true->evO loc env y=some v->VRel m v (a.eval x))->Inv C.G m loc env (a.put (some d) (a.eval x)) ((d,D)::σ):=by
    intro D ab t s' I y u hy he;simp only[eM]at I;rw[fk a d _ t U];by_cases c:d=t
    ·grind
    ·rw[if_neg c]at I;rw[if_neg (Sx c)];exact hI t s' I y u hy he
   split at h
   ·rename_i t;split at h
    ·rename_i s hl;split at h
     ·cases h
     ·exact yai
    ·rename_i s hl;exact yai
    ·rename_i hl;split at h
     ·cases h;have key:∀y v,dq C.G (.v t) y=true->evO loc env y=some v->VRel m v (a.eval (.tmp t)):=by
       intro y v hy he;cases y<;>simp[dq]at hy;subst hy;rename_i J;simp only[be]at J;exact R.var J.1 he
      exact⟨_,hop,hgd,hds,by rw[hds];exact hI' _ key,by rw[hds];exact hE'⟩
     ·cases h
   ·cases h;exact⟨_,hop,hgd,hds,by rw[hds];exact hI' _ (fun y v hy he=>pI hG hy he),by rw[hds];exact hE'⟩
  ·cases h
 ·cases h
theorem dS(a:Act)(d:Option Nat)(x:Value):(a.put d x).defers=a.defers:=by cases d<;>rfl
theorem cQ(call:aD)(s:IStep)(l:List IStep)(loc:List V)(env:T V)(h:Heap):dN call (s::l) loc env h=
 match evG loc env s.gd with
  |some true=>(match aM call loc env h s.op with
   |some (v,h)=>dN call l (iN loc v s.dst) (fO env v s.dst) h
   |none=>.fail)
  |some false=>dN call l (iN loc (.tup []) s.dst) (fO env (.tup []) s.dst) h
  |none=>.fail:=by
 show(match evG loc env s.gd with
  |some true=>(match aM call loc env h s.op with
   |some (v,h)=>fV v fun v=>(match s.dst with
    |none=>dN call l (v::loc) env h
    |some d=>dN call l loc (env.set d v) h)
   |none=>.fail)
  |some false=>(match s.dst with
   |none=>dN call l (.tup []::loc) env h
   |some d=>dN call l loc (env.set d (.tup [])) h)
  |none=>.fail)=_
 cases evG loc env s.gd with
 |none=>rfl
 |some b=>
  cases b
  ·cases s.dst<;>rfl
  ·simp only[];cases aM call loc env h s.op with
   |none=>rfl
   |some p=>
    obtain⟨v,h'⟩:=p;simp only[zU];cases s.dst<;>rfl
def DefR(m:M)(v:V)(d:Deferred):Prop:=∃f first caps args A C',v=.tup (.func (.func f) first caps::args)/\f<YB/\
 d={target:=.fn (.func f) (List.toArray C'),args:=List.toArray A}/\VsRel m (first++args) A/\VsRel m caps C'
def DsL(B:Nat)(m:M)(w:World):List Deferred->List V->Prop
 |[],vs=>vs=[]
 |d::ds,vs=>((∃r,d={target:=.collected r,args:= #[]}/\B<=r/\w.heap[r]? =some (.deferred (some []))/\Off m r/\∀d'∈ds,d'.target≠.collected r)/\DsL B m w ds vs)\/
  ∃v vs',vs=v::vs'/\DefR m v d/\DsL B m w ds vs'
def DsR(C:Cx)(B:Nat)(m:M)(w:World)(env:T V)(ds:List Deferred):Prop:=
 (C.df=true->∃l,dsL (env.get DSL)=some l/\DsL B m w ds l)/\(C.df=false->DsL B m w ds [])
theorem DefR.mono{m m':M}(l:Le m m'){v:V}{d:Deferred}:DefR m v d->DefR m' v d
 |⟨f,first,caps,args,A,C',h1,h2,h3,h4,h5⟩=>⟨f,first,caps,args,A,C',h1,h2,h3,VsRel.mono l _ _ h4,VsRel.mono l _ _ h5⟩
theorem DsL.ext{B:Nat}{m m':M}{h h':Heap}{w w':World}(E:Ext m h w m' h' w'):∀{ds:List Deferred}{vs:List V},DsL B m w ds vs→DsL B m' w' ds vs
 |[],_,e=>e
 |_::_,_,.inl ⟨⟨r,h1,h2,h3,h4,h5⟩,t⟩=>
  have hlt:=(Array.getElem?_eq_some_iff.1 h3).1
  .inl ⟨⟨r,h1,h2,(E.keep r h4 hlt).trans h3,h4.ext E hlt,h5⟩,DsL.ext E t⟩
 |_::_,_,.inr ⟨v,vs',e,d,t⟩=>.inr ⟨v,vs',e,d.mono E.le,DsL.ext E t⟩
theorem DsL.put{B:Nat}{m:M}{w:World}{r:Nat}{x:Obj}:∀{ds:List Deferred}{vs:List V},(∀d∈ds,d.target≠.collected r)->DsL B m w ds vs->DsL B m (w.putObj r x) ds vs
 |[],_,_,e=>e
 |d::ds,_,hn,.inl ⟨⟨r',h1,h2,h3,h4,h5⟩,t⟩=>
  .inl ⟨⟨r',h1,h2,(World.putObj_heap_other (fun e=>hn d iS (by rw[h1,e]))).trans h3,h4,h5⟩,DsL.put (fun d' hd=>hn d' iX) t⟩
 |d::ds,_,hn,.inr ⟨v,vs',e,q,t⟩=>.inr ⟨v,vs',e,q,DsL.put (fun d' hd=>hn d' iX) t⟩
theorem DsR.ext{C:Cx}{B:Nat}{m m':M}{h h':Heap}{w w':World}(E:Ext m h w m' h' w'){env:T V}{ds:List Deferred}(D:DsR C B m w env ds):DsR C B m' w' env ds:=
 ⟨fun q=>let⟨l,a,b⟩:=D.1 q;⟨l,a,b.ext E⟩,fun q=>(D.2 q).ext E⟩
theorem DsR.congr{C:Cx}{B:Nat}{m:M}{w:World}{env env':T V}{ds:List Deferred}(e:env'.get DSL=env.get DSL)(D:DsR C B m w env ds):DsR C B m w env' ds:=
 ⟨fun q=>by rw[e];exact D.1 q,D.2⟩
theorem DsR.push{C:Cx}{B:Nat}{m:M}{w:World}{env:T V}{ds:List Deferred}(D:DsR C B m w env ds){r:Nat}(h1:B<=r)(h2:w.heap[r]? =some (.deferred (some [])))(h3:Off m r)(h4:∀d∈ds,d.target≠.collected r):
 DsR C B m w env ({target:=.collected r,args:= #[]}::ds):=
 ⟨fun q=>let⟨l,a,b⟩:=D.1 q;⟨l,a,.inl ⟨⟨r,rfl,h1,h2,h3,h4⟩,b⟩⟩,fun q=>.inl ⟨⟨r,rfl,h1,h2,h3,h4⟩,D.2 q⟩⟩
theorem mW{C:Cx}{m:M}{env:T V}{a:Act}(U:ERel C m env a){d s:Option Nat}(Z:Ae C d s=true)(v:V):(fO env v s).get DSL=env.get DSL:=by
 cases s with
 |none=>rfl
 |some t=>
  cases d with
  |none=>cases Z
  |some d=>
   simp only[Ae,be]at Z;have:=py Z.1.1;subst this;simp only[fO];rw[Qu];intro q;rw[<-q,U.2.2]at Z;simp at Z
theorem yZ{P:Program}{C:Cx}{call:aD}(aE:b9 P K C.G call){ops:Array Oper}{Q:Exit->Act->World->Prop}{ro:Option Nat}{B:Nat}(bn:C.df=true->ro=none):
 ∀(os:List Oper)(i:Nat)(R:List IStep)(σ:Sg)(loc:List V)(env:T V)(h:Heap)(m:M)(a:Act)(w:World)(ex:Ex)(U:T V)(h':Heap),
  ops.toList.drop i=os->eQ P C ops os R σ=true->Glob K C.G m->Inv C.G m loc env a σ->ERel C m env a->HRel m h w->DsR C B m w env a.defers->
  dN call R loc env h=.ok ex U h'->
  (∀a' w' m',ex=.norm->ERel C m' U a'->HRel m' h' w'->Ext m h w m' h' w'->DsR C B m' w' U a'.defers->Q .normal a' w')->
  wpOpsIn (FR ro) 0 P ops Q (List.range' i os.length) a w:=by
 intro os;induction os with
 |nil=>
  intro i R σ loc env h m a w ex U h' aj Z hG hI hE H hD e hQ;cases R with
  |nil=>
   cases e;exact hQ a w m rfl hE H (Sa _ _ _) hD
  |cons s l=>simp[eQ]at Z
 |cons o os ih=>
  intro i R σ loc env h m a w ex U h' aj Z hG hI hE H hD e hQ;have bi:ops[i]? =some o:=by
   have:(ops.toList.drop i)[0]? =some o:=by rw[aj];rfl
   rw[Rl]at this;simpa using this
  have J:ops.toList.drop (i+1)=os:=by
   rw[<-RC,aj];rfl
  simp only[QB,List.range'_succ];rw[wpOpsIn_cons];unfold wpOpIn;rw[bi];simp only[];unfold eQ at Z;split at Z
  ·rename_i p a9;obtain⟨x,hop,aA,bt,ah,ad⟩:=qC hG hI hE a9;have hw:Region.wanted o (yielded ops a.tmps)=true:=by unfold Region.wanted;rw[aA]
   rw[if_pos hw];refine⟨fun _ _=>trivial,?_⟩;show o.uponIn (FR ro) 0 P a _ Q ((o.semAt ro a.eval).run P w);have hr:(o.semAt ro a.eval).run P w=.ok (.value (a.eval x)) w:=by
    exact yaQ
   rw[hr];exact ih (i+1) R (p::σ) loc env h m _ w ex U h' J Z hG ah ad H (by rw[dS];exact hD) e hQ
  ·split at Z
   ·cases Z
   ·rename_i s ao;simp only[RO,be]at Z;rw[cQ]at e;rcases Z with⟨⟨⟨bo,bg⟩,ax⟩,I⟩|⟨a0,I⟩
    ·cases hg:evG loc env s.gd with
     |none=>rw[hg]at e;cases e
     |some b=>
      rw[hg]at e;have hw:=qh hG hI hE bo hg;cases b
      ·simp only[]at e;rw[if_neg (by rw[hw];simp)];refine⟨fun _ _=>trivial,?_⟩;obtain⟨ah,ad⟩:=fS (fun _ _ x=>x) hI hE ax (v:=.tup []) (x:=undef) ⟨[],rfl,rfl⟩;exact ih (i+1) ao _ _ _ h m _ w ex U h' J I hG ah ad H (by rw[dS];exact hD.congr (mW hE ax _)) e hQ
      ·simp only[]at e;rw[if_pos hw];cases hop:aM call loc env h s.op with
       |none=>rw[hop]at e;cases e
       |some p=>
        obtain⟨v,h1⟩:=p;rw[hop]at e;simp only[]at e;refine mL aE hG (fun o y v h1 h2=>eW hG hI hE h1 h2) H bg hop (fun x w' m' r H' E'=>?_);obtain⟨ah,ad⟩:=fS E'.le hI hE ax r;exact ih (i+1) ao _ _ _ h1 m' _ w' ex U h' J I (hG.ext E') ah ad H' (by rw[dS];exact(hD.ext E').congr (mW hE ax _)) e
         (fun a' bh bc h1 h2 h3 h4 h5=>hQ a' bh bc h1 h2 h3 (E'.trans h4) h5)
    ·
     unfold IQ at a0;simp only[be]at a0;obtain⟨⟨⟨⟨aF,aR⟩,a3⟩,aA⟩,hop⟩:=a0;split at hop
     ·rename_i x xs a2;split at hop
      ·rename_i y args ts hy;simp only[be]at hop;split at aR
       ·rename_i d a1;have:=py aR;subst this;split at a3
        ·rename_i a7;split at aA
         ·rename_i g1 g2;have a6:=bn aF;subst a6;have hw:Region.wanted o (yielded ops a.tmps)=true:=by unfold Region.wanted;rw[g1]
          rw[if_pos hw];rw[g2,a2]at e;simp only[evG,aM]at e;split at e
          ·rename_i v h1 ab;split at ab
           ·rename_i f first ak hx
            split at ab
            ·rename_i vs bm;split at ab
             ·rename_i l0 a8;cases a5:Nat.blt f YB
              ·grind
              ·rw[a5]at ab;simp only[cond_true,QA,Re]at ab;obtain⟨rfl,rfl⟩:=ab;have hO:uK C m σ loc env a:=fun o y v h1 h2=>eW hG hI hE h1 h2;have hv:=bM hO _ _ _ hop.2 bm;obtain⟨f',c',bf,rf,rc⟩:=hO _ _ _ hop.1 hx;refine⟨fun _ _=>trivial,?_⟩;show o.uponIn (FR none) 0 P a _ Q ((o.semAt none a.eval).run P w);have hr:(o.semAt none a.eval).run P w=.ok (.defer {target:=.fn (.func f) (List.toArray c'),args:=List.toArray (f'++args.toList.map a.eval)}) w:=by
                have q:args.map a.eval=List.toArray (args.toList.map a.eval):=SY iS;rw[Oper.semAt_none];simp only[execOp,hy,resolve,bf,Deferred.ofValue,Qz,QL,Qr];rw[show(List.toArray f'++args.map a.eval)=List.toArray (f'++args.toList.map a.eval) by simp[q]]
               rw[hr];show wpOpsIn (FR none) 0 P ops Q (List.range' (i+1) os.length) (Act.put _ o.dst undef) w;rw[a7,a1]at *;have ah:Inv C.G m loc (env.set DSL (.agg (.tup (.func (.func f) first ak::vs)::l0))) {a with defers:={target:=.fn (.func f) (List.toArray c'),args:=List.toArray (f'++args.toList.map a.eval)}::a.defers} (Dp σ):=by
                intro t s' hs y u hy he;unfold Dp at hs;rw[sO]at hs;cases hl:eM σ t with
                |none=>rw[hl]at hs;cases hs
                |some s0=>
                 rw[hl]at hs;cases hs;obtain⟨br,h1,h2⟩:=wn hy he;exact hI t s0 hl y u h1 h2
               have ad:ERel C m (env.set DSL (.agg (.tup (.func (.func f) first ak::vs)::l0))) {a with defers:={target:=.fn (.func f) (List.toArray c'),args:=List.toArray (f'++args.toList.map a.eval)}::a.defers}:=by
                refine⟨hE.1,fun s u hs=>?_,hE.2.2⟩;rw[RP]at hs;by_cases c:s=DSL
                ·exact .inl c
                ·rw[if_neg c]at hs;exact hE.2.1 s u hs
               refine ih (i+1) ao (Dp σ) loc _ h m _ w ex U h' J I hG ah ad H ?_ e hQ;obtain⟨l1,a4,D⟩:=hD.1 aF;rw[a8]at a4;cases a4;exact⟨fun _=>⟨_,by rw[QZ];rfl,.inr ⟨_,_,rfl,⟨f,first,ak,vs,_,c',rfl,(QJ ..).mp a5,rfl,Tg rf hv,rc⟩,D⟩⟩,fun q=>absurd (aF.symm.trans q) iS⟩
             ·cases ab
            ·cases ab
           ·cases ab
          ·cases e
         ·cases aA
        ·cases a3
       ·cases aR
      ·cases hop
     ·cases hop
def DY(call:aD)(env:T V):List DS->List V->Heap->List V->List Heap->Prop
 |[],_,_,vs,hp=>vs=[]/\hp=[]
 |s::l,loc,h,vs,hp=>∃v vs' h',vs=v::vs'/\
  (((∃c,s.2=some (v,c)/\cL loc env s.1.op v c=true)/\h'=h)\/(s.2=none/\evG loc env s.1.gd=some true/\aM call loc env h s.1.op=some (v,h'))\/(s.2=none/\evG loc env s.1.gd=some false/\v=.tup []/\h'=h))/\
  ((eT s=true/\∃hp',hp=h'::hp'/\DY call env l (v::loc) h' vs' hp')\/(eT s=false/\h'=h/\DY call env l (v::loc) h vs' hp))
theorem wj{call:aD}{loc:List V}{env:T V}{h h':Heap}{o:IOp}{v:V}(Z:eff o=false)(e:aM call loc env h o=some (v,h')):h'=h:=by
 cases o<;>simp[eff]at Z<;>simp only[aM]at e;all_goals
  split at e
  ·grind
  ·cases e
theorem Fi{call:aD}{loc:List V}{env:T V}{h h':Heap}{k:PK}{Z:List Opd}{v:V}(e:aM call loc env h (.p k Z)=some (v,h'))(g:Heap):aM call loc env g (.p k Z)=some (v,g):=by
 simp only[aM]at e|-;split at e
 ·rename_i vs U;split at e
  ·grind
  ·cases e
 ·cases e
theorem wp(call:aD)(env:T V)(s:DS)(l:List DS)(loc:List V)(hs:List Heap)(h:Heap):gU call env (s::l) loc hs h=match s.2 with
      |some (u,c)=>bif cL loc env s.1.op u c then gU call env l (u::loc) hs h else none
      |none=>(match evG loc env s.1.gd with
       |some true=>(match aM call loc env h s.1.op with
        |some (v,h')=>fV v fun v=>bif eff s.1.op then gU call env l (v::loc) (h'::hs) h' else gU call env l (v::loc) hs h
        |none=>none)
       |some false=>bif eff s.1.op then gU call env l (.tup []::loc) (h::hs) h else gU call env l (.tup []::loc) hs h
       |none=>none):=rfl
theorem iZ{call:aD}{env:T V}:∀(l:List DS)(loc:List V)(hs:List Heap)(h:Heap)(locF:List V)(hsF:List Heap),gU call env l loc hs h=some (locF,hsF)→
 ∃vs hp,DY call env l loc h vs hp∧locF=vs.reverse++loc∧hsF=hp.reverse++hs
 |[],loc,hs,h,locF,hsF,e=>by cases e;exact⟨[],[],⟨rfl,rfl⟩,rfl,rfl⟩
 |(s,some (u,cs))::l,loc,hs,h,locF,hsF,e=>by
  rw[wp]at e;simp only[]at e;cases hl:cL loc env s.op u cs
  ·grind
  ·rw[hl]at e;simp only[cond_true]at e;obtain⟨vs,hp,c,rfl,rfl⟩:=iZ l _ _ _ _ _ e;exact⟨u::vs,hp,⟨u,vs,h,rfl,.inl ⟨⟨cs,rfl,hl⟩,rfl⟩,.inr ⟨rfl,rfl,c⟩⟩,iS,rfl⟩
 |(s,none)::l,loc,hs,h,locF,hsF,e=>by
  rw[wp]at e;simp only[]at e;cases hg:evG loc env s.gd with
  |none=>rw[hg]at e;cases e
  |some b=>
   rw[hg]at e;cases b
   ·simp only[]at e;cases he:eff s.op
    ·rw[he]at e;simp only[cond_false]at e;obtain⟨vs,hp,c,rfl,rfl⟩:=iZ l _ _ _ _ _ e;exact⟨.tup []::vs,hp,⟨.tup [],vs,h,rfl,.inr (.inr ⟨rfl,hg,rfl,rfl⟩),.inr ⟨he,rfl,c⟩⟩,iS,rfl⟩
    ·rw[he]at e;simp only[cond_true]at e;obtain⟨vs,hp,c,rfl,rfl⟩:=iZ l _ _ _ _ _ e;exact⟨.tup []::vs,h::hp,⟨.tup [],vs,h,rfl,.inr (.inr ⟨rfl,hg,rfl,rfl⟩),.inl ⟨he,hp,rfl,c⟩⟩,iS,iS⟩
   ·simp only[]at e;cases ho:aM call loc env h s.op with
    |none=>rw[ho]at e;cases e
    |some p=>
     obtain⟨v,h'⟩:=p;rw[ho]at e;simp only[zU]at e;cases he:eff s.op
     ·rw[he]at e;simp only[cond_false]at e;obtain⟨vs,hp,c,rfl,rfl⟩:=iZ l _ _ _ _ _ e;have:=wj he ho;subst this;exact⟨v::vs,hp,⟨v,vs,h',rfl,.inr (.inl ⟨rfl,hg,ho⟩),.inr ⟨he,rfl,c⟩⟩,iS,rfl⟩
     ·rw[he]at e;simp only[cond_true]at e;obtain⟨vs,hp,c,rfl,rfl⟩:=iZ l _ _ _ _ _ e;exact⟨v::vs,h'::hp,⟨v,vs,h',rfl,.inr (.inl ⟨rfl,hg,ho⟩),.inl ⟨he,hp,rfl,c⟩⟩,iS,iS⟩
def fP(l:List DS)(i:Nat):Nat:=((l.take i).filter eT).length
theorem tU{call:aD}{env:T V}:∀(l:List DS)(loc:List V)(h:Heap)(vs:List V)(hp:List Heap),DY call env l loc h vs hp→
 vs.length=l.length∧hp.length=fP l l.length∧∀(i:Nat) s,l[i]? =some s→∃v hb ha,vs[i]? =some v∧(h::hp)[fP l i]? =some hb∧
  (((∃c,s.2=some (v,c)∧cL ((vs.take i).reverse++loc) env s.1.op v c=true)∧ha=hb)∨(s.2=none∧evG ((vs.take i).reverse++loc) env s.1.gd=some true∧aM call ((vs.take i).reverse++loc) env hb s.1.op=some (v,ha))∨(s.2=none∧evG ((vs.take i).reverse++loc) env s.1.gd=some false∧v=.tup []∧ha=hb))∧
  (eT s=true→(h::hp)[fP l i+1]? =some ha)∧(eT s=false→ha=hb)
 |[],loc,h,vs,hp,c=>by
  obtain⟨rfl,rfl⟩:=c;refine⟨rfl,rfl,fun i s hi=>by simp at hi⟩
 |s::l,loc,h,vs,hp,c=>by
  obtain⟨v,vs',h',rfl,hv,hc⟩:=c;rcases hc with⟨he,hp',rfl,c⟩|⟨he,rfl,c⟩
  ·obtain⟨l1,l2,l3⟩:=tU l (v::loc) h' vs' hp' c;refine⟨by simp[l1],by simp[fP,he]at l2⊢;exact l2,fun i t hi=>?_⟩;cases i with
   |zero=>
    simp at hi;subst hi;refine⟨v,h,h',rfl,by simp[fP],by simpa using hv,fun _=>by simp[fP],fun q=>by rw[he]at q;cases q⟩
   |succ i=>
    obtain⟨u,hb,ha,a1,a2,a3,a4,a5⟩:=l3 i t (eV hi);refine⟨u,hb,ha,by simpa using a1,?_,by simpa using a3,fun q=>?_,a5⟩
    ·simpa[fP,he]using a2
    ·simpa[fP,he]using a4 q
  ·obtain⟨l1,l2,l3⟩:=tU l (v::loc) h' vs' hp c;refine⟨by simp[l1],by simp[fP,he]at l2⊢;exact l2,fun i t hi=>?_⟩;cases i with
   |zero=>
    simp at hi;subst hi;refine⟨v,h',h',rfl,by simp[fP],by simpa using hv,fun q=>(by rw[he]at q;cases q),fun _=>rfl⟩
   |succ i=>
    obtain⟨u,hb,ha,a1,a2,a3,a4,a5⟩:=l3 i t (eV hi);refine⟨u,hb,ha,by simpa using a1,?_,by simpa using a3,fun q=>?_,a5⟩
    ·simpa[fP,he]using a2
    ·simpa[fP,he]using a4 q
theorem mu{call:aD}{env:T V}{late:List Nat}:∀(l:List IStep)(i:Nat)(loc:List V)(h:Heap)(r:List DS)(h':Heap),lay call env late l i loc h=some (r,h')→r.length=l.length
 |[],i,loc,h,r,h',e=>by simp only[lay,Option.some.injEq,Prod.mk.injEq]at e;obtain⟨rfl,_⟩:=e;rfl
 |s::l,i,loc,h,r,h',e=>by
  simp only[lay]at e;cases hc:late.contains i
  ·rw[hc]at e;simp only[cond_false]at e;split at e
   ·rename_i r' h2 h3;cases e;simp[mu l _ _ _ _ _ h3]
   ·cases e
  ·rw[hc]at e;simp only[cond_true]at e;split at e
   ·split at e
    ·rename_i r' h2 h3;cases e;simp[mu l _ _ _ _ _ h3]
    ·cases e
   ·cases e
theorem EO(id:Nat)(k:Option (Nat×Nat)):lid (eZ id k)=id:=by cases k<;>rfl
theorem Bu{call:aD}{env:T V}{late:List Nat}:∀(l:List IStep)(i:Nat)(loc:List V)(h:Heap)(r:List DS)(h':Heap),lay call env late l i loc h=some (r,h')→
 (∀(j:Nat) s,l[j]? =some s→(late.contains (i+j)=false∧r[j]? =some (s,none))∨
  (late.contains (i+j)=true∧∃u c,r[j]? =some (s,some (u,c))∧h.next≤lid u∧lid u<h'.next∧h'.bl.get (lid u)=some (.row c (lid u) 0)))∧
 (∀(j k:Nat) s t u v cu cv,j<k→r[j]? =some (s,some (u,cu))→r[k]? =some (t,some (v,cv))→lid u<lid v)∧(∀(j:Nat) s u cu,r[j]? =some (s,some (u,cu))→h.next≤lid u)∧
 h.next≤h'.next∧(∀p,p<h.next→h'.bl.get p=h.bl.get p)∧∀m w,HRel m h w→HRel m h' w
 |[],i,loc,h,r,h',e=>by
  simp only[lay,Option.some.injEq,Prod.mk.injEq]at e;obtain⟨rfl,rfl⟩:=e;exact⟨fun j s hj=>by simp at hj,fun j k s t u v _ _ _ hj=>by simp at hj,fun j s u _ hj=>by simp at hj,Nat.le_refl _,fun _ _=>rfl,fun _ _ H=>H⟩
 |s::l,i,loc,h,r,h',e=>by
  simp only[lay]at e;cases hc:late.contains i
  ·rw[hc]at e;simp only[cond_false]at e;split at e
   ·rename_i r' h2 h3;cases e;obtain⟨a3,a4,a5,a1,a2,a6⟩:=Bu l _ _ _ _ _ h3;refine⟨fun j t hj=>?_,fun j k s' t u v cu cv hjk hj hk=>?_,fun j s' u cu hj=>?_,a1,a2,a6⟩
    ·grind
    ·grind
    ·grind
   ·cases e
  ·rw[hc]at e;simp only[cond_true]at e;split at e
   ·rename_i c kk hlc;split at e
    ·rename_i r' h2 h3;cases e;obtain⟨a3,a4,a5,a1,a2,a6⟩:=Bu l _ _ _ _ _ h3;have hnx:(halloc h c).next=h.next+1:=rfl;rw[hnx]at a1 a2 a5;have hlid:=EO h.next kk;refine⟨fun j t hj=>?_,fun j k s' t u v cu cv hjk hj hk=>?_,fun j s' u cu hj=>?_,oM,fun p hp=>?_,fun m w H=>a6 m w ?_⟩
     ·cases j with
      |zero=>
       simp at hj;subst hj;refine .inr ⟨by simpa using hc,eZ h.next kk,c,rfl,oM,oM,?_⟩;rw[hlid,a2 _ oM,halloc,T.get_set_self]
      |succ j=>
       rcases a3 j t (eV hj)with⟨b1,b2⟩|⟨b1,u,c',b2,b5,b6,b7⟩
       ·grind
       ·grind
     ·grind
     ·grind
     ·rw[a2 p oM,halloc,T.get_set_ne _ _ oM]
     ·have hold:∀p loc,m p=some loc→p≠h.next:=fun p loc hp q=>by subst q;rw[H.unmapped (Nat.le_refl _)]at hp;cases hp
      refine⟨⟨⟨?_,?_⟩,?_,H.inb,?_⟩,H.tg⟩
      ·intro p cp f k hp;show match h.fams.get f with|none=>f=p|some (_,e)=>k≤e
       rw[halloc,T.get_set]at hp;by_cases q:p=h.next
       ·grind
       ·rw[if_neg q]at hp;exact H.wf.fam _ _ _ _ hp
      ·intro p hp;have hp':h.next+1≤p:=hp;refine⟨?_,(H.wf.fresh p oM).2⟩;rw[halloc,T.get_set_ne _ _ oM];exact(H.wf.fresh p oM).1
      ·intro p loc hp;obtain⟨b,hb,rb⟩:=H.blk p loc hp;exact⟨b,by rw[halloc,T.get_set_ne _ _ (hold p loc hp)];exact hb,rb.mono (fun _ _ x=>x) (fun _ _ _ _ x=>x) rfl⟩
      ·intro p q lp lq hp hq he hne;obtain⟨cp,cq,f,kp,kq,b1,b2,b3⟩:=H.sep p q lp lq hp hq he hne;exact⟨cp,cq,f,kp,kq,by rw[halloc,T.get_set_ne _ _ (hold p lp hp)];exact b1,by rw[halloc,T.get_set_ne _ _ (hold q lq hq)];exact b2,b3⟩
    ·cases e
   ·cases e
def pX(late:List Nat):List IStep->Nat->List DS
 |[],_=>[]
 |s::l,i=>(s,bif late.contains i then some (.nilp,[])else none)::pX late l (i+1)
theorem mr{call:aD}{env:T V}{late:List Nat}:∀(l:List IStep)(i:Nat)(loc:List V)(h:Heap)(r:List DS)(h':Heap),lay call env late l i loc h=some (r,h')→(pX late l i).map eT=r.map eT
 |[],i,loc,h,r,h',e=>by simp only[lay,Option.some.injEq,Prod.mk.injEq]at e;obtain⟨rfl,_⟩:=e;rfl
 |s::l,i,loc,h,r,h',e=>by
  simp only[lay]at e;cases hc:late.contains i
  ·rw[hc]at e;simp only[cond_false]at e;split at e
   ·rename_i r' h2 h3;cases e;simp only[pX,hc,cond_false,List.map_cons,mr l _ _ _ _ _ h3]
   ·cases e
  ·rw[hc]at e;simp only[cond_true]at e;split at e
   ·split at e
    ·rename_i r' h2 h3;cases e;simp only[pX,hc,cond_true,List.map_cons,mr l _ _ _ _ _ h3];rfl
    ·cases e
   ·cases e
def bef(B:List Nat)(i j:Nat):Bool:=Nat.testBit (B.getD i 0) j
def Nz(ops:Array Oper)(B:List Nat):Bool:=
 (List.range ops.size).all fun i=>(List.range ops.size).all fun j=> !bef B i j||
  (match ops[i]? with
   |some o=>o.after.toList.any fun e=>Region.binds .any e&&Nat.blt e.on i&&(Nat.beq e.on j||bef B e.on j)
   |none=>false)
def pj(md:Region.Mode)(ops:Array Oper)(R:Nat->Nat):Bool:=
 (List.range ops.size).all fun i=>match ops[i]? with
  |some o=>o.after.toList.all fun e=> !Region.binds md e||(Nat.blt (R e.on) (R i)&&Nat.blt e.on ops.size)
  |none=>false
def Ao(ops:Array Oper)(R:List Nat):Bool:=pj .any ops id&&pj .text ops id&&pj .gc ops (fun i=>R.getD i i)
def fh(ops:Array Oper)(B:List Nat)(i:Nat):List Nat->Sg
 |[]=>[]
 |j::js=>match(ops[j]?).bind (·.dst)with
  |some t=>if bef B i j then(t,.l (i-1-j))::fh ops B i js
              else if i=j\/bef B j i=true then fh ops B i js
              else(t,.bad)::fh ops B i js
  |none=>fh ops B i js
def sig(ops:Array Oper)(B:List Nat)(i:Nat):Sg:=fh ops B i (List.range ops.size)
def OS:IOp->Bool
 |.ld _ _ _=>true
 |.b2s _=>true
 |_=>false
def dV(l:List DS):List Nat:=(List.range l.length).filter fun i=>match l[i]? with|some s=>eT s|none=>false
def Hi(l:List DS)(B:List Nat)(reads:List (Nat×Nat×Nat))(i:Nat):Bool:=
 reads.any fun(r:Nat×Nat×Nat)=>Nat.beq r.1 i&&Nat.ble r.2.1 ((dV l).filter fun e=>bef B i e).length&&Nat.ble ((dV l).length-((dV l).filter fun e=>bef B e i).length) r.2.2
def IF(C:Cx)(ops:Array Oper)(sets:List (Nat×Nat)):Bool:=
 ((List.range ops.size).all fun i=>match(ops[i]?).bind (·.dst)with
  |some t=>Nat.blt t C.N&&(!C.vars.contains t||sets.contains (t,i))&&(List.range ops.size).all (fun j=>Nat.beq i j||(match(ops[j]?).bind (·.dst)with|some u=> !Nat.beq t u|none=>true))
  |none=>true)&&
 sets.all fun(p:Nat×Nat)=>Nat.blt p.2 ops.size&&C.vars.contains p.1&&(match(ops[p.2]?).bind (·.dst)with|some t=>Nat.beq t p.1|none=>false)
def bOf(ops:Array Oper):List Nat:=ops.toList.foldl (fun B o=>B++[o.after.toList.foldl (fun b e=>bif Region.binds .any e then b|||(1<<<e.on)|||B.getD e.on 0 else b) 0]) []
def FJ(P:Program)(C:Cx)(ops:Array Oper)(l:List IStep)(late B R:List Nat)(reads:List (Nat×Nat×Nat))(sets:List (Nat×Nat)):Bool:=
 Nat.beq ops.size l.length&&Ao ops R&&Nz ops B&&IF C ops sets&&
 ((List.range ops.size).all fun i=>match ops[i]?,l[i]? with
  |some o,some s=>An C (sig ops B i) ops o.guard s.gd&&gA P C (sig ops B i) o s.op&&(!OS s.op||Hi (pX late l 0) B reads i)&&(!late.contains i||o.guard.isNone)
  |_,_=>false)&&
 ((dV (pX late l 0)).all fun i=>(dV (pX late l 0)).all fun j=> !Nat.blt i j||bef B j i)
theorem dg{n:Nat}{p:Nat->Bool}(h:(List.range n).all p=true){i:Nat}(hi:i<n):p i=true:=QM.1 h i (eV hi)
abbrev dn(L:Array Bool)(i:Nat):Prop:=L.getD i false=true
theorem jk{ops:Array Oper}{B:List Nat}(hB:Nz ops B=true){L:Array Bool}(ab:∀i o,ops[i]? =some o->dn L i->∀e∈o.after,Region.binds .any e=true->dn L e.on):
 ∀(i:Nat) o,ops[i]? =some o->(∀e∈o.after,Region.binds .any e=true->dn L e.on)->∀j,bef B i j=true->j<ops.size->dn L j:=by
 intro i;induction i using Nat.strongRecOn with
 |_ i ih=>
  intro o J R j hb hj;have hi:=(Rw.1 J).1;have I:=dg (dg hB hi) hj;simp only[hb,Tp,SR,J]at I;obtain⟨e,D,Z⟩:=TB.1 I;simp only[be,QJ,RO]at Z;have U:=R e (eV D) Z.1.1;rcases Z.2 with q|q
  ·have:=py q;subst this;exact U
  ·grind
theorem jZ{ops:Array Oper}{B:List Nat}{i:Nat}:∀(js:List Nat) t s,eM (fh ops B i js) t=some s->∃j,j∈js/\(ops[j]?).bind (·.dst)=some t/\((bef B i j=true/\s=.l (i-1-j))\/s=.bad)
 |[],t,s,h=>by simp[fh,eM]at h
 |j::js,t,s,h=>by
  simp only[fh]at h;split at h
  ·rename_i u hu;split at h
   ·rename_i hb;simp only[eM]at h;by_cases c:u=t
    ·grind
    ·rw[if_neg c]at h;exact yO
   ·split at h
    ·exact yO
    ·simp only[eM]at h;by_cases c:u=t
     ·grind
     ·rw[if_neg c]at h;exact yO
  ·exact yO
theorem lM{ops:Array Oper}{B:List Nat}{i:Nat}:∀(js:List Nat) t,eM (fh ops B i js) t=none→∀j∈js,(ops[j]?).bind (·.dst)=some t→bef B i j=false∧(i=j∨bef B j i=true)
 |[],t,h,j,hj,_=>by simp at hj
 |k::js,t,h,j,hj,hd=>by
  simp only[fh]at h;rcases List.mem_cons.1 hj with rfl|hj
  ·rw[hd]at h;simp only[]at h;cases hb:bef B i j
   ·simp only[hb,Bool.false_eq_true,if_false]at h;by_cases c:i=j∨bef B j i=true
    ·exact⟨rfl,c⟩
    ·rw[if_neg c]at h;simp[eM]at h
   ·simp[hb,eM]at h
  ·have:eM (fh ops B i js) t=none:=by
    split at h
    ·rename_i u hu;split at h
     ·simp only[eM]at h;by_cases c:u=t
      ·rw[if_pos c]at h;cases h
      ·rw[if_neg c]at h;exact h
     ·split at h
      ·exact h
      ·simp only[eM]at h;by_cases c:u=t
       ·rw[if_pos c]at h;cases h
       ·rw[if_neg c]at h;exact h
    ·exact h
   exact lM js t this j hj hd
def cnt(l:List DS)(L:Array Bool):Nat:=((dV l).filter fun e=>L.getD e false).length
theorem pD{α:Type}{p q:α→Bool}:∀(l:List α),(∀x∈l,p x=true→q x=true)→(l.filter p).length≤(l.filter q).length
 |[],_=>by simp
 |x::l,h=>by
  have ih:=pD l fun y hy=>h y iX;by_cases hp:p x=true
  ·grind
  ·grind
theorem mT{α:Type}{p q:α→Bool}:∀(l:List α),(∀x∈l,p x=true→q x=false)→(l.filter p).length+(l.filter q).length≤l.length
 |[],_=>by simp
 |x::l,h=>by
  have ih:=mT l fun y hy=>h y iX;by_cases hp:p x=true
  ·grind
  ·grind
theorem gL{l:List DS}{i:Nat}:i∈dV l↔∃s,l[i]? =some s/\eT s=true:=by
 unfold dV;rw[SJ];constructor
 ·grind
 ·grind
theorem Ac{l:List DS}{a:Nat}(h:(match l[a]? with|some s=>eT s|none=>false)=true):a∈dV l:=by
 rw[gL];split at h
 ·grind
 ·cases h
theorem BK(l:List DS):∀i,i<=l.length->fP l i=((List.range i).filter fun j=>match l[j]? with|some s=>eT s|none=>false).length:=by
 intro i;induction i with
 |zero=>intro _;simp[fP]
 |succ i ih=>
  intro U;have Z:i<l.length:=oM
  rw[List.range_succ,Tf,Qv,<-ih oM];unfold fP;rw[SG Z,Tf,Qv];congr 1;simp[SD,Z];split<;>simp
theorem BS {l : List DS} {L : Array Bool} {i : Nat} (hi : i <= l.length) (h1 : ∀ e ∈ dV l, e < i -> dn L e) (h2 : ∀ e ∈ dV l, i <= e -> ¬ dn L e) : cnt l L = fP l i := by
  rw [BK l i oM]
  unfold cnt dV
  rw [List.filter_filter]
  have : ∀ n, i <= n -> n <= l.length -> ((List.range n).filter fun a => L.getD a false && (match l[a]? with | some s => eT s | none => false)).length = ((List.range i).filter fun j => match l[j]? with | some s => eT s | none => false).length := by
    intro n hn
    induction n with
    | zero => intro _; have : i = 0 := by omega
              subst this; rfl
    | succ n ih =>
      intro hnl
      by_cases c : i = n + 1
      · subst c
        congr 1
        apply Uf
        intro a ha
        have ha' : a < n + 1 := by simpa using ha
        cases hm : (match l[a]? with | some s => eT s | none => false)
        · simp
        · have  := h1 a (Ac hm) ha'
          rw [this]; rfl
      · rw [List.range_succ, Tf, Qv, ih oM oM]
        have : ((List.filter (fun a => L.getD a false && (match l[a]? with | some s => eT s | none => false)) [n]).length = 0) := by
          simp only [SD, List.filter_nil]
          cases hm : (match l[n]? with | some s => eT s | none => false)
          · simp
          · have  := h2 n (Ac hm) oM
            have : L.getD n false = false := by grind
            rw [this]; rfl
        omega
  exact this l.length oM (pi _)
theorem Fp{l r:List DS}(h:l.map eT=r.map eT):dV l=dV r:=by
 have Z:l.length=r.length:=by have:=congrArg List.length h;simpa using this
 unfold dV;rw[Z];apply Uf;intro i _;have:(l.map eT)[i]? =(r.map eT)[i]? :=by rw[h]
 rw[SK,SK]at this;cases U:l[i]? <;>cases R:r[i]? <;>simp_all
variable {K : LG -> Prop}
theorem wq{l:List DS}{i:Nat}{s:DS}(R:l[i]? =some s)(U:eT s=true):fP l (i+1)=fP l i+1:=by
 have Z:=(QD.1 R).1;have J:l[i]=s:=by grind
 unfold fP;rw[SG Z,Tf,Qv,J];simp[U]
theorem BR{l:List DS}{L:Array Bool}{i:Nat}(h:i∉dV l):cnt l (L.setIfInBounds i true)=cnt l L:=by
 unfold cnt;congr 1;apply Uf;intro e Z;exact getD_set_ne false (fun q=>h (q▸Z))
theorem ga{L:Array Bool}{i j:Nat}(Z:i<L.size):dn (L.setIfInBounds i true) j↔j=i\/dn L j:=by
 by_cases c:i=j
 ·subst c;simp[dn,Z]
 ·unfold dn;rw[getD_set_ne false c];constructor
  ·grind
  ·grind
theorem Kj{vals:List V}{i j:Nat}(U:i<=vals.length)(Z:j<i):((vals.take i).reverse++[])[i-1-j]? =vals[j]? :=by grind
theorem uV{n:Nat}{loc:List V}:∀(sets:List (Nat×Nat))(env env':T V),hJ n loc sets env=some env'->∀s v,env'.get s=some v->
 (∃i,(s,i)∈sets/\loc[n-i-1]? =some v)\/((∀i,(s,i)∉sets)/\env.get s=some v)
 |[],env,env',e,s,v,h=>by cases e;exact .inr ⟨iS,h⟩
 |(t,i)::r,env,env',e,s,v,h=>by
  simp only[hJ]at e;split at e
  ·rename_i u hu;rcases uV r _ _ e s v h with⟨j,hj,hv⟩|⟨hn,hv⟩
   ·grind
   ·rw[RP]at hv;by_cases c:s=t
    ·grind
    ·grind
  ·cases e
theorem vj{call:aD}{loc:List V}{env:T V}{o:IOp}{v:V}:∀(hs:List Heap),gz call loc env o v hs=true→∀g∈hs,∃g',aM call loc env g o=some (v,g')
 |[],_,g,hg=>by simp at hg
 |h::hs,hr,g,hg=>by
  simp only[gz,Bool.and_eq_true]at hr;rcases List.mem_cons.1 hg with rfl|hg
  ·obtain⟨h1,_⟩:=hr;split at h1
   ·rename_i u g' hu;have:=wY _ _ h1;subst this;exact⟨g',hu⟩
   ·cases h1
  ·exact vj hs hr.2 g hg
section
variable {P : Program} {C : Cx} {call : aD} {ops : Array Oper} {l : List DS} {B : List Nat} {reads : List (Nat × Nat × Nat)} {sets : List (Nat × Nat)}
structure DI(C:Cx)(ops:Array Oper)(l:List DS)(env:T V)(vals:List V)(Hs:List Heap)(m0:M)(h:Heap)(w0:World)(a0:Act)(L:Array Bool)(a:Act)(w:World)(m:M)(hk:Heap):Prop where
 lsz:L.size=ops.size
 closed:∀i o,ops[i]? =some o->dn L i->∀e∈o.after,Region.binds .any e=true->dn L e.on
 size:a.tmps.size=C.N
 defers:a.defers=a0.defers
 old:∀t,(∀i,dn L i->(ops[i]?).bind (·.dst)≠some t)->a.tmps.getD t undef=a0.tmps.getD t undef
 at_:Hs[cnt l L]? =some hk
 rel:HRel m hk w
 ext:Ext m0 h w0 m hk w
 vals:∀i v t,dn L i->vals[i]? =some v->(ops[i]?).bind (·.dst)=some t->VRel m v (a.tmps.getD t undef)
 unm:∀(i:Nat) s u c,l[i]? =some (s,some (u,c))->¬dn L i->m (lid u)=none/\hk.bl.get (lid u)=some (.row c (lid u) 0)/\lid u<hk.next
theorem DI.next{env:T V}{vals:List V}{Hs:List Heap}{m0 m m':M}{h hk U:Heap}{w0 w w':World}{a0 a:Act}{L:Array Bool}(D:DI C ops l env vals Hs m0 h w0 a0 L a w m hk)
 (aA:IF C ops sets=true) {i:Nat} {o:Oper} (ho:ops[i]? =some o) (aR:¬dn L i) (a1:∀e∈o.after,Region.binds .any e=true->dn L e.on) {v:V} {x:Value} (hv:vals[i]? =some v) (r:VRel m' v x)
 (H':HRel m' U w') (aj:Le m m') (E0:Ext m0 h w0 m' U w') (ao:Hs[cnt l (L.setIfInBounds i true)]? =some U)
 (aE:∀(j:Nat) s u c,l[j]? =some (s,some (u,c))->¬dn (L.setIfInBounds i true) j->m' (lid u)=none/\U.bl.get (lid u)=some (.row c (lid u) 0)/\lid u<U.next):
 DI C ops l env vals Hs m0 h w0 a0 (L.setIfInBounds i true) (a.put o.dst x) w' m' U:=by
 have hi:=(Rw.1 ho).1;have J:i<L.size:=by rw[D.lsz];exact hi
 have Z:=dg (Tz.1 aA).1 hi;have ah:(ops[i]?).bind (·.dst)=o.dst:=by rw[ho];rfl
 rw[ah]at Z;have ab:∀t,o.dst=some t->t<a.tmps.size:=by
  intro t ht;rw[ht]at Z;simp only[be,QJ]at Z;rw[D.size];exact Z.1.1
 have ad:∀t,o.dst=some t->∀j,j<ops.size->j≠i->(ops[j]?).bind (·.dst)≠some t:=by
  intro t ht j I ax hd;rw[ht]at Z;simp only[be]at Z;have:=dg Z.2 I;rw[hd]at this;simp only[RO]at this;rcases this with q|q
  ·exact ax (py q).symm
  ·simp at q
 refine⟨by simpa using D.lsz,?_,by rw[mJ];exact D.size,by rw[dS];exact D.defers,?_,ao,H',E0,?_,aE⟩
 ·intro j p I R e he aF;rw[ga J]at R|-;rcases R with rfl|R
  ·grind
  ·exact .inr (D.closed j p I R e he aF)
 ·intro t ht;have h1:o.dst≠some t:=by
   have:=ht i ((ga J).2 (.inl rfl));rwa[ah]at this
  have h2:=D.old t (fun j I=>ht j ((ga J).2 (.inr I)));cases hd:o.dst with
  |none=>exact h2
  |some d=>
   rw[fk a d x t (ab d hd),if_neg (by intro q;subst q;exact h1 hd)];exact h2
 ·intro j u t I hu ht;rw[ga J]at I;by_cases c:j=i
  ·subst c;rw[ah]at ht;rw[hv]at hu;cases hu;rw[ht,fk a t x t (ab t ht),if_pos rfl];exact r
  ·have R:=I.resolve_left c;have:=D.vals j u t R hu ht;cases hd:o.dst with
   |none=>exact RJ aj _ _ this
   |some d=>
    have ak:j<ops.size:=by grind
    rw[fk a d x t (ab d hd),if_neg (by intro q;subst q;exact ad t hd j ak c ht)];exact RJ aj _ _ this
theorem DI.unm_next{env:T V}{vals:List V}{Hs:List Heap}{m0 m U:M}{h I Z:Heap}{w0 w w':World}{a0 a:Act}{L:Array Bool}(D:DI C ops l env vals Hs m0 h w0 a0 L a w m I)
 {i:Nat} (hi:i<L.size) (J:Ext m I w U Z w'):∀(j:Nat) s u c,l[j]? =some (s,some (u,c))->¬dn (L.setIfInBounds i true) j->
  U (lid u)=none/\Z.bl.get (lid u)=some (.row c (lid u) 0)/\lid u<Z.next:=by
 intro j s u c hj R;obtain⟨b1,b2,b3⟩:=D.unm j s u c hj (fun hd=>R ((ga hi).2 (.inr hd)));refine⟨?_,(J.phan _ b1 b3).trans b2,QH b3 J.next⟩;cases hm:U (lid u)with
 |none=>rfl
 |some loc=>have:=(J.new _ _ hm b1).1;omega
theorem HRel.materialize{m:M}{h:Heap}{w:World}(H:HRel m h w){p:Nat}{c:List V}{f k:Nat}{X:Array Value}{elem:TypeId}(hm:m p=none)(hb:h.bl.get p=some (.row c f k))(hX:VsRel m c X.toList):
 HRel (ir m p ⟨w.heap.size,0,X.size,none⟩) h (w.alloc (.cells X elem)):=by
 have U:Le m (ir m p ⟨w.heap.size,0,X.size,none⟩):=by
  intro q l Z;rw[aK]
  ·exact Z
  ·grind
 have ab:=hX.length;refine⟨⟨H.wf,?_,?_,?_⟩,fun q ty n hp=>let⟨loc,C,fz,a,b,c,d⟩:=H.tg q ty n hp;⟨loc,C,fz,U _ _ a,b,(heap_alloc_old w _ _ (H.inb q loc a)).trans c,d⟩⟩
 ·intro q loc Z;by_cases e:q=p
  ·subst e;rw[aC]at Z;cases Z;refine⟨_,hb,fun _=>⟨X,elem,(0,0),heap_alloc_new w _,iS,by simp at ab;simp only[];omega,fun i v hi=>?_,fun i _=>by simp⟩⟩;obtain⟨x,hx,rx⟩:=hX.get i v hi;exact⟨x,by simpa using hx,RJ U _ _ rx⟩
  ·rw[aK _ _ e]at Z;obtain⟨b,D,r⟩:=H.blk q loc Z;exact⟨b,D,r.mono U (fun _ _ _ _ x=>x) (heap_alloc_old w _ _ (H.inb q loc Z))⟩
 ·intro q loc Z;by_cases e:q=p
  ·subst e;rw[aC]at Z;cases Z;simp
  ·rw[aK _ _ e]at Z;have:=H.inb q loc Z;simp;omega
 ·intro q r lq lr Z R I J;by_cases e:q=p
  ·subst e;rw[aC]at Z;cases Z;rw[aK _ _ (Sx J)]at R;have:=H.inb r lr R;simp only[]at I;omega
  ·rw[aK _ _ e]at Z;by_cases e2:r=p
   ·subst e2;rw[aC]at R;cases R;have:=H.inb q lq Z;simp only[]at I;omega
   ·rw[aK _ _ e2]at R;exact H.sep q r lq lr Z R I J
theorem HW{m:M}{env:T V}{loc:List V}{a:Act}{σ:Sg}(hO:uK C m σ loc env a){o:Oper}{op:IOp}{c:List V}{k:Option (Nat×Nat)}(Z:gA P C σ o op=true)(U:jM loc env op=some (c,k))(w:World):
 ∃x X elem,(execOp a.eval o).run P w=.ok (.value x) (w.alloc (.cells X elem))/\VsRel m c X.toList/\∀id m',m' id=some ⟨w.heap.size,0,X.size,none⟩->VRel m' (eZ id k) x:=by
 unfold jM at U;split at U
 ·rename_i zero;cases U;simp only[gA,cM,be]at Z;replace Z:=Z.2;unfold iW at Z;split at Z
  ·rename_i t D;obtain⟨z,hz,hv⟩:=iF (w:=w) Z;have J:=cY (P:=P) (w:=w) z.cells t;refine⟨.pointer (some ⟨w.heap.size,0,none⟩),z.cells,t,?_,dz m _ _ hv,fun id m' hm=>⟨_,hm,rfl⟩⟩;simp[execOp,D,Instr.alloc,hz,newVar,J]
  ·cases Z
 ·rename_i x;split at U
  ·rename_i v hv;cases U;simp only[gA,cM,be]at Z;replace Z:=Z.2;have R:=bM hO _ _ _ Z.2 (td hv);obtain⟨I,_⟩:=Z;unfold yA at I;split at I
   ·rename_i t ad D;obtain⟨y,e,ry⟩:=bJ R;rw[D]at e;simp[Op.operands]at e;have J:=cY (P:=P) (w:=w) y.cells t;refine⟨.pointer (some ⟨w.heap.size,0,none⟩),y.cells,t,?_,ry.cells,fun id m' hm=>⟨_,hm,rfl⟩⟩;simp[execOp,D,e,Instr.box,newVar,J]
   ·cases I
  ·cases U
 ·rename_i zero ab len xs;split at U
  ·rename_i vs ah;split at U
   ·rename_i c' hf;cases U;simp only[gA,cM,be]at Z;replace Z:=Z.2;have R:=bM hO _ _ _ Z.2 ah;obtain⟨X,elem,h1,h2⟩:=qF (P:=P) (m:=m) (w:=w) Z.1 R hf;exact⟨_,X,elem,h1,h2,fun id m' hm=>⟨_,hm,pi _,rfl⟩⟩
   ·cases U
  ·cases U
 ·rename_i zero bytes x y;split at U
  ·rename_i lv hl;split at U
   ·rename_i cv aj;split at U
    ·rename_i n kk hn;cases U;simp only[gA,cM,be]at Z;replace Z:=Z.2;have R:=bM hO _ _ _ Z.2 (zX hl aj);obtain⟨X,elem,h1,h2,h3⟩:=Ga (P:=P) (m:=m) (w:=w) Z.1 R hn;exact⟨_,X,elem,h1,h2,fun id m' hm=>⟨_,hm,h3,rfl⟩⟩
    ·cases U
   ·cases U
  ·cases U
 ·cases U
theorem DI.opds{vals:List V}{Hs:List Heap}{m0 m:M}{h hk:Heap}{w0 w:World}{a0 a:Act}{L:Array Bool}{env:T V}(D:DI C ops l env vals Hs m0 h w0 a0 L a w m hk)
 (hG:Glob K C.G m0) (hE:ERel C m0 env a0) (hB:Nz ops B=true) (aA:vals.length=ops.size)
 {i:Nat} {o:Oper} (ho:ops[i]? =some o) (ab:¬dn L i) (aj:∀e∈o.after,Region.binds .any e=true->dn L e.on):uK C m (sig ops B i) ((vals.take i).reverse++[]) env a:=by
 have hi:=(Rw.1 ho).1;have ao:=hG.ext D.ext;intro od y v Z ev;unfold lI at Z;split at Z
 ·rename_i t;split at Z
  ·rename_i s hs;obtain⟨j,hj,hd,J⟩:=jZ _ _ _ hs;have U:j<ops.size:=by simpa using hj
   rcases J with⟨hb,rfl⟩|rfl
   ·have ak:=jk hB D.closed i o ho aj j hb U;cases y<;>simp[dq]at Z;subst Z;have ax:j<i:=by
     have I:=dg (dg hB hi) U;simp only[hb,Tp,SR,ho]at I;obtain⟨e,he,R⟩:=TB.1 I;simp only[be,QJ,RO]at R;have aE:=R.1.2;rcases R.2 with q|q
     ·have:=py q;omega
     ·
      have key:∀k,k<ops.size->∀j,j<ops.size->bef B k j=true->j<k:=by
       intro k;induction k using Nat.strongRecOn with
       |_ k ih=>
        intro hk j hj hb;have I:=dg (dg hB hk) hj;simp only[hb,Tp,SR]at I;split at I
        ·obtain⟨e,he,R⟩:=TB.1 I;simp only[be,QJ,RO]at R;rcases R.2 with q|q
         ·have:=py q;have:=R.1.2;omega
         ·grind
        ·cases I
      have:=key e.on oM j U q;omega
    have ad:((vals.take i).reverse++[])[i-1-j]? =some v:=by rw[<-fq];exact ev
    rw[Kj oM ax]at ad;exact D.vals j v t ak ad hd
   ·cases y<;>simp[dq]at Z
  ·rename_i hs;split at Z
   ·rename_i s;simp only[be]at Z;have:=py Z.1;subst this;have ah:=D.old s (fun j hj hd=>by
     have U:j<ops.size:=by grind
     obtain⟨_,hc⟩:=lM _ _ hs j (eV U) hd;rcases hc with rfl|hc
     ·exact ab hj
     ·exact ab (jk hB D.closed j _ (QK U) (D.closed j _ (QK U) hj) i hc hi))
    show VRel m v (a.tmps.getD s undef);rw[ah];exact RJ D.ext.le _ _ (hE.var Z.2 ev)
   ·cases Z
 ·exact pI ao Z ev
end
end Go.Ev
