/- An evaluator of the program, and contracts over it: EvMd to EvY. -/
import Derived.Laws.BytesString
import Derived.Lib.OthersKept
import Derived.RangeFuncRecord
import Derived.OrdersIn
import Derived.Test.YtcomlfdjmehhbaaGreatDoorP01
set_option linter.unusedSimpArgs false
set_option linter.unusedVariables false
set_option linter.constructorNameAsVariable false
set_option linter.unnecessarySimpa false
namespace Go.Ev
section
variable {P : Program} {m : M} {h : Heap} {w : World}
def bytesOf:List V→Option (List UInt8)
  |[]=>some []
  |.int .u8 n::l=>match bytesOf l with
    |some s=>some (UInt8.ofNat n.toNat::s)
    |none=>none
  |_=>none
noncomputable def xK(h:Heap)(x:V):Option V:=
  match x with
  |.nils=>some (.str [])
  |.slice b o n _=>match ak h b o n with
    |some cs=>(bytesOf cs).map .str
    |none=>none
  |.sliceU b o n _=>match ak h b o n with
    |some cs=>(bytesOf cs).map .str
    |none=>none
  |_=>none
def pX(P:Program)(op:Op):Bool:=match op with
  |.convert src dst _=>(match P.underlying src,P.underlying dst with
    |some (.slice e),some .string=>(match P.underlying e with|some (.int .u8)=>true|_=>false)
    |_,_=>false)
  |_=>false
theorem iF:∀(l:List V)(s:List UInt8)(xs:List Value),bytesOf l=some s→VsRel m l xs→∃ns:List Int,xs=ns.map (Value.int .u8)∧s=ns.map fun n=>UInt8.ofNat n.toNat
  |[],s,xs,hb,r=>by
    simp only[bytesOf,Option.some.injEq]at hb;subst hb;simp only[VsRel]at r;subst r;exact⟨[],rfl,rfl⟩
  |v::l,s,xs,hb,r=>by
    unfold bytesOf at hb;split at hb
    ·rename_i q;cases q
    ·rename_i n l' q;cases q;obtain⟨x,xs',rfl,rx,rt⟩:=r;split at hb
     ·rename_i s' hs';cases hb;obtain⟨ns,h1,h2⟩:=iF l s' xs' hs' rt;simp only[VRel]at rx;exact⟨n::ns,by rw[rx,h1];rfl,by rw[h2];rfl⟩
     ·cases hb
    ·cases hb
theorem lL:∀(ns:List Int)(s:ByteArray),ns.foldl (fun r n=>r.push (UInt8.ofNat n.toNat)) s=⟨s.data++(ns.map fun n=>UInt8.ofNat n.toNat).toArray⟩
  |[],s=>by simp
  |n::ns,s=>by
    rw[List.foldl_cons,lL ns];congr 1;simp[ByteArray.push]
theorem qd(H:HRel m h w){o:Oper}{ρ:Operand→Value}{x v:V}(hc:pX P o.op=true)(hv:VsRel m [x] (OV ρ o.op))(hs:xK h x=some v):MS P m h w o ρ v h:=by
  unfold pX at hc;split at hc
  ·rename_i src dst a hy;split at hc
   ·rename_i e hsrc hdst;split at hc
    ·rename_i he;obtain⟨x',e',rx⟩:=aE hv;rw[hy]at e';change[ρ a]=[x']at e';simp only[List.cons.injEq,and_true]at e';have hgo:∀b l c,x'=.slice b l c→(execOp ρ o).run P w=((Conv.bytesToString (.slice b l c)).run P w).andThen fun y w'=>.ok (.value y) w':=by
       intro b l c hx;simp only[execOp,hy,e',hx,Sem.run_bind,run_convert_bytes_string w src dst e b l c hsrc he hdst,Sem.run_pure]
     have main:∀b k n cs c loc,m b=some loc→x'=.slice (some ⟨loc.block,loc.base+k,none⟩) n c→ak h b k n=some cs→(bytesOf cs).map V.str=some v→MS P m h w o ρ v h:=by
       intro b k n cs c loc hm hx hl hb;obtain⟨xs,h1,h2,h3⟩:=H.load P hm hl;cases hbo:bytesOf cs with
       |none=>rw[hbo]at hb;cases hb
       |some s=>
         rw[hbo]at hb;simp only[Option.map_some,Option.some.injEq]at hb;subst hb;obtain⟨ns,q1,q2⟩:=iF cs s xs hbo h2;rw[q1]at h1;refine⟨.string ⟨s.toArray⟩,w,m,.inl ?_,?_,H,Ext.refl _ _ _⟩
         ·rw[hgo _ _ _ hx,run_bytesToString w _ n c ns h1,lL,←q2];show Result.ok (Next.value (.string ⟨#[]++s.toArray⟩)) w=_;rw[Array.empty_append]
         ·simp only[VRel]
     unfold xK at hs;split at hs
     ·cases hs;simp only[VRel]at rx;refine⟨.string .empty,w,m,.inl ?_,?_,H,Ext.refl _ _ _⟩
      ·rw[hgo _ _ _ rx];rfl
      ·simp only[VRel];rfl
     ·split at hs
      ·rename_i cs hl;obtain⟨loc,hm,_,hx⟩:=rx;exact main _ _ _ _ _ loc hm hx hl hs
      ·cases hs
     ·split at hs
      ·rename_i cs hl;obtain⟨loc,hm,_,hx⟩:=rx;exact main _ _ _ _ _ loc hm hx hl hs
      ·cases hs
     ·cases hs
    ·cases hc
   ·cases hc
  ·cases hc
end
variable {P : Program} {m : M} {h : Heap} {w : World}
noncomputable def hsi(h:Heap)(z:List UInt8):Heap:=⟨h.bl.set h.next (.si z 0),h.next+1,h.fams⟩
theorem HRel.allocI(H:HRel m h w)(z:List UInt8):HRel (bH m h.next ⟨w.heap.size,0,0,none⟩) (hsi h z) (w.alloc (.stringIter ⟨z.toArray⟩ 0))∧Ext m h w (bH m h.next ⟨w.heap.size,0,0,none⟩) (hsi h z) (w.alloc (.stringIter ⟨z.toArray⟩ 0)):=by
  have hle:=H.le_mset ⟨w.heap.size,0,0,none⟩;refine⟨⟨⟨?_,?_⟩,?_,?_,?_⟩,⟨hle,?_,Nat.le_succ _,?_,by simp,?_,rfl,rfl,rfl,Cov.new m _ _ rfl,fun b hb=>Kept.of_eq (heap_alloc_old w _ _ hb),gD rfl⟩⟩
  ·intro p cp f k hp;show match h.fams.get f with|none=>f=p|some (_,e)=>k≤e
   rw[hsi,T.get_set]at hp;by_cases e:p=h.next
   ·rw[if_pos e]at hp;cases hp
   ·rw[if_neg e]at hp;exact H.wf.fam _ _ _ _ hp
  ·intro p hp;have hp':h.next+1≤p:=hp;refine⟨?_,(H.wf.fresh p (by omega)).2⟩;rw[hsi,T.get_set_ne _ _ (by omega)];exact(H.wf.fresh p (by omega)).1
  ·intro p loc hp;by_cases e:p=h.next
   ·subst e;rw[ag]at hp;cases hp;exact⟨.si z 0,by rw[hsi,T.get_set_self],rfl,heap_alloc_new w _⟩
   ·rw[aj _ _ e]at hp;obtain⟨b,hb,r⟩:=H.blk p loc hp;refine⟨b,by rw[hsi,T.get_set_ne _ _ e];exact hb,r.mono hle (fun _ _ _ _ x=>x) (heap_alloc_old w _ _ (H.inb p loc hp))⟩
  ·intro p loc hp;by_cases e:p=h.next
   ·subst e;rw[ag]at hp;cases hp;simp
   ·rw[aj _ _ e]at hp;have:=H.inb p loc hp;simp;omega
  ·intro p q lp lq hp hq he hne;by_cases e:p=h.next
   ·subst e;rw[ag]at hp;cases hp;rw[aj _ _ (Ne.symm hne)]at hq;have:=H.inb q lq hq;simp only[]at he;omega
   ·rw[aj _ _ e]at hp;by_cases e2:q=h.next
    ·subst e2;rw[ag]at hq;cases hq;have:=H.inb p lp hp;simp only[]at he;omega
    ·rw[aj _ _ e2]at hq;obtain⟨cp,cq,f,kp,kq,a,b,d⟩:=H.sep p q lp lq hp hq he hne;exact⟨cp,cq,f,kp,kq,by rw[hsi,T.get_set_ne _ _ e];exact a,by rw[hsi,T.get_set_ne _ _ e2];exact b,d⟩
  ·intro p loc hp hn;by_cases e:p=h.next
   ·subst e;rw[ag]at hp;cases hp;exact⟨Nat.le_refl _,.inl (Nat.le_refl _)⟩
   ·rw[aj _ _ e]at hp;rw[hp]at hn;cases hn
  ·intro p _ hp;rw[hsi,T.get_set_ne _ _ (by omega)]
  ·intro b _ hb;exact heap_alloc_old w _ _ hb
noncomputable def fC(h:Heap)(b:Nat)(z:List UInt8)(pos:Nat):Heap:=⟨h.bl.set b (.si z pos),h.next,h.fams⟩
theorem HRel.setI(H:HRel m h w){b:Nat}{loc:Loc}(hm:m b=some loc){z:List UInt8}{c0:Nat}(hb:h.bl.get b=some (.si z c0))(pos:Nat):
    HRel m (fC h b z pos) {w with heap:=w.heap.setIfInBounds loc.block (.stringIter ⟨z.toArray⟩ pos)}∧
    Ext m h w m (fC h b z pos) {w with heap:=w.heap.setIfInBounds loc.block (.stringIter ⟨z.toArray⟩ pos)}:=by
  have hin:=H.inb b loc hm;have hother:∀p lp,m p=some lp→p≠b→lp.block≠loc.block:=by
    intro p lp hp hne hbl;obtain⟨cp,cq,f,kp,kq,a1,a2,_⟩:=H.sep p b lp loc hp hm hbl hne;rw[hb]at a2;cases a2
  refine⟨⟨⟨?_,?_⟩,?_,?_,?_⟩,⟨fun _ _ x=>x,fun p l a c=>(by rw[a]at c;cases c),Nat.le_refl _,?_,by simp,?_,rfl,rfl,rfl,fun _ _ _ x=>x,?_,fun _ _ a b=>by simp[a]at b⟩⟩
  ·intro p cp f k hp;show match h.fams.get f with|none=>f=p|some (_,e)=>k≤e
   rw[fC,T.get_set]at hp;by_cases e:p=b
   ·rw[if_pos e]at hp;cases hp
   ·rw[if_neg e]at hp;exact H.wf.fam _ _ _ _ hp
  ·intro p hp;have hfr:=H.wf.fresh p hp;have hpb:p≠b:=by intro e;subst e;rw[hb]at hfr;simp at hfr
   exact⟨by rw[fC,T.get_set_ne _ _ hpb];exact hfr.1,hfr.2⟩
  ·intro p lp hp;by_cases e:p=b
   ·subst e;rw[hm]at hp;cases hp;obtain⟨bk,hbk,rel⟩:=H.blk p loc hm;rw[hb]at hbk;cases hbk;exact⟨.si z pos,by rw[fC,T.get_set_self],rel.1,by show _=_;simp[hin]⟩
   ·obtain⟨bk,hbk,r⟩:=H.blk p lp hp;refine⟨bk,by rw[fC,T.get_set_ne _ _ e];exact hbk,r.mono (fun _ _ x=>x) (fun _ _ _ _ x=>x) ?_⟩;have:=hother p lp hp e;simp[Array.getElem?_setIfInBounds,Ne.symm this]
  ·intro p lp hp;have:=H.inb p lp hp;simpa using this
  ·intro p q lp lq hp hq hbl hne;obtain⟨cp,cq,f,kp,kq,a1,a2,a3⟩:=H.sep p q lp lq hp hq hbl hne;have h1:p≠b:=by intro e;subst e;rw[hb]at a1;cases a1
   have h2:q≠b:=by intro e;subst e;rw[hb]at a2;cases a2
   exact⟨cp,cq,f,kp,kq,by rw[fC,T.get_set_ne _ _ h1];exact a1,by rw[fC,T.get_set_ne _ _ h2];exact a2,a3⟩
  ·intro p hn hp;have h1:p≠b:=by intro e;subst e;rw[hm]at hn;cases hn
   rw[fC,T.get_set_ne _ _ h1]
  ·intro k hk hlt;have:=hk b loc hm;simp[Array.getElem?_setIfInBounds,this]
  ·intro g hgl;by_cases h4:g=loc.block
   ·subst h4;obtain⟨bk,hbk,rel⟩:=H.blk b loc hm;rw[hb]at hbk;cases hbk;have he1:w.heap[loc.block]? =some (.stringIter ⟨z.toArray⟩ c0):=rel.2;intro x hx;rw[he1]at hx;cases hx;exact⟨.stringIter ⟨z.toArray⟩ pos,by simp[hin],trivial⟩
   ·exact Kept.of_eq (by simp[Array.getElem?_setIfInBounds,Ne.symm h4])
noncomputable def ait(h:Heap)(nx:Bool)(x:V):Option (V×Heap):=
  bif nx then
    match x with
    |.ptr b 0=>match h.bl.get b with
      |some (.si z pos)=>if pos<z.length then some (.tup [.bool true,.int .i64 (pos:Int),.int .i32 ((Utf8.decode ⟨z.toArray⟩ pos).1:Int)],fC h b z (pos+(Utf8.decode ⟨z.toArray⟩ pos).2))else some (.tup [.bool false],h)
      |_=>none
    |_=>none
  else
    match x with
    |.str z=>some (.ptr h.next 0,hsi h z)
    |_=>none
def ur(P:Program)(op:Op)(nx:Bool):Bool:=match op with
  |.range t _=> !nx&&(match P.underlying t with|some .string=>true|_=>false)
  |.next _ s=>nx&&s
  |_=>false
theorem sE(H:HRel m h w){o:Oper}{ρ:Operand→Value}{nx:Bool}{x v:V}{h':Heap}(hc:ur P o.op nx=true)(hv:VsRel m [x] (OV ρ o.op))(hs:ait h nx x=some (v,h')):MS P m h w o ρ v h':=by
  unfold ur at hc;split at hc
  ·rename_i t a hy;simp only[Bool.and_eq_true,Bool.not_eq_true']at hc;obtain⟨rfl,hc⟩:=hc;split at hc
   ·rename_i hu;obtain⟨y,ys,e',ry,rn⟩:=hv;rw[hy]at e';change[ρ a]=y::ys at e';simp only[List.cons.injEq]at e';unfold ait at hs;simp only[cond_false]at hs;split at hs
    ·rename_i z;cases hs;have hx:ρ a=.string ⟨z.toArray⟩:=e'.1.trans ry;obtain⟨H',E'⟩:=H.allocI z;refine⟨_,_,_,.inl ?_,⟨_,ag _ _ _,rfl⟩,H',E'⟩;simp[execOp,hy,Instr.range,ah hu,hx,newObj];rfl
    ·cases hs
   ·cases hc
  ·rename_i a s hy;simp only[Bool.and_eq_true]at hc;obtain⟨rfl,rfl⟩:=hc;obtain⟨y,ys,e',ry,rn⟩:=hv;rw[hy]at e';change[ρ a]=y::ys at e';simp only[List.cons.injEq]at e';unfold ait at hs;simp only[cond_true]at hs;split at hs
   ·rename_i b;obtain⟨loc,hm,rfl⟩:=ry;split at hs
    ·rename_i z pos hb;obtain⟨bk,hbk,rel⟩:=H.blk b loc hm;rw[hb]at hbk;cases hbk;have hx:ρ a=.pointer (some ⟨loc.block,0,none⟩):=by rw[e'.1,rel.1]
     have hz:(⟨z.toArray⟩:ByteArray).size=z.length:=by simp[ByteArray.size]
     split at hs
     ·rename_i hlt;cases hs;obtain⟨H',E'⟩:=H.setI hm hb (pos+(Utf8.decode ⟨z.toArray⟩ pos).2);refine⟨_,_,_,.inl ?_,⟨_,rfl,_,_,rfl,rfl,_,_,rfl,rfl,_,_,rfl,rfl,rfl⟩,H',E'⟩;have:=Go.Lib.run_next_any_at (P:=P) w loc.block ⟨z.toArray⟩ pos o.type rel.2 (by rw[hz];exact hlt);simp[execOp,hy,hx,this,World.iterAt]
     ·rename_i hlt;cases hs;refine⟨_,_,_,.inl ?_,⟨_,rfl,_,_,rfl,rfl,rfl⟩,H,Ext.refl _ _ _⟩;have:=Go.Lib.run_next_end_at (P:=P) w loc.block ⟨z.toArray⟩ pos o.type rel.2 (by rw[hz];exact hlt);simp[execOp,hy,hx,this]
    ·cases hs
   ·cases hs
  ·cases hc
section
variable {P : Program} {m : M} {h : Heap} {w : World}
/-- where the entry with a stamp is -/
def ud(n:Nat):List (V×V×Nat)→Nat→Option Nat
  |[],_=>none
  |(_,_,k)::es,i=>bif Nat.beq k n then some i else ud n es (i+1)
noncomputable def ame(h:Heap)(ks:Option (List Nat))(zero:V)(st:Bool)(vs:List V):Option (V×Heap):=
  match st,vs with
  |false,[.map b,key]=>(match h.bl.get b with
    |some (.mp es clock)=>bif fx ks key then
        match cB ks key es 0 with
        |some (some (i,_))=>(match es[i]? with
          |some (k,u,n)=>bif vEq key k then some (.tup [u,.int .i64 n],di h b (es.set i (key,u,n)) clock)else none
          |none=>none)
        |some none=>some (.tup [zero,.int .i64 clock],di h b (es++[(key,zero,clock)]) (clock+1))
        |none=>none
      else none
    |_=>none)
  |true,[.map b,.int _ (.ofNat n),val]=>(match h.bl.get b with
    |some (.mp es clock)=>(match ud n es 0 with
      |some i=>(match es[i]? with
        |some (k,_,n')=>some (.tup [],di h b (es.set i (k,val,n')) clock)
        |none=>none)
      |none=>none)
    |_=>none)
  |_,_=>none
def un(P:Program)(op:Op)(ks:Option (List Nat))(zero:V)(st:Bool):Bool:=match op with
  |.mapEntry t _ _=> !st&&(match P.underlying t with|some (.map k e)=>fA P k ks&&qi P e zero|_=>false)
  |.entryStore _ _ _ _=>st
  |_=>false
theorem lG{ks:Option (List Nat)}{key:V}:∀(es:List (V×V×Nat))(j i:Nat)(u:V),cB ks key es j=some (some (i,u))→∃k n,j≤i∧es[i-j]? =some (k,u,n)
  |[],j,i,u,h=>by simp[cB]at h
  |(k,v,n)::es,j,i,u,h=>by
    simp only[cB]at h;cases hk:lH ks key k with
    |none=>rw[hk]at h;cases h
    |some b=>
      rw[hk]at h;cases b
      ·obtain⟨k',n',h1,h2⟩:=lG es (j+1) i u h;refine⟨k',n',by omega,?_⟩;rw[show i-j=(i-(j+1))+1 by omega];simpa using h2
      ·simp only[Option.some.injEq,Prod.mk.injEq]at h;obtain⟨rfl,rfl⟩:=h;exact⟨k,n,Nat.le_refl _,by simp⟩
theorem nW{n:Nat}:∀(es:List (V×V×Nat))(es':List MapEntry)(j i:Nat),EsRel m es es'→ud n es j=some i→
    ∃p,i=j+p∧es'.findIdx? (fun e=>(e.born:Int)==(n:Int))=some p
  |[],es',j,i,_,h=>by simp[ud]at h
  |(k,v,q)::es,es',j,i,he,h=>by
    obtain⟨e,r,rfl,h1,h2,h3,t⟩:=he;simp only[ud]at h;cases hq:Nat.beq q n
    ·rw[hq]at h;simp only[cond_false]at h;obtain⟨p,rfl,hp⟩:=nW es r (j+1) i t h;refine⟨p+1,by omega,?_⟩;have hne:q≠n:=Nat.ne_of_beq_eq_false hq;have:((e.born:Int)==(n:Int))=false:=beq_eq_false_iff_ne.2 (by rw[h3];omega);rw[List.findIdx?_cons,this,hp];rfl
    ·rw[hq]at h;simp only[cond_true,Option.some.injEq]at h;subst h;have:=Nat.eq_of_beq_eq_true hq;refine⟨0,rfl,?_⟩;have:((e.born:Int)==(n:Int))=true:=beq_iff_eq.2 (by rw[h3];omega);rw[List.findIdx?_cons,this];rfl
theorem jD(es':List MapEntry)(i:Nat)(e0:MapEntry)(f:MapEntry→MapEntry)(q1:es'[i]? =some e0):(List.toArray es').modify i f=List.toArray (es'.set i (f e0)):=by
  apply Array.ext_getElem?;intro j;rw[Array.getElem?_modify];simp only[List.getElem?_toArray,List.getElem?_set];by_cases c:i=j
  ·subst c;have hlt:i<es'.length:=(List.getElem?_eq_some_iff.1 q1).1;have hg:es'[i]=e0:=by rw[List.getElem?_eq_getElem hlt]at q1;exact Option.some.inj q1
   simp[hlt,hg]
  ·simp[c]
theorem sB(H:HRel m h w){o:Oper}{ρ:Operand→Value}{ks:Option (List Nat)}{zero:V}{st:Bool}{vs:List V}{v:V}{h':Heap}(hc:un P o.op ks zero st=true)(hv:VsRel m vs (OV ρ o.op))
    (hs:ame h ks zero st vs=some (v,h')):MS P m h w o ρ v h':=by
  unfold un at hc;split at hc
  ·rename_i t a b hy;simp only[Bool.and_eq_true,Bool.not_eq_true']at hc;obtain⟨rfl,hc⟩:=hc;split at hc
   ·rename_i kt et hu;simp only[Bool.and_eq_true]at hc;obtain⟨hk,hz⟩:=hc;unfold ame at hs;split at hs
    ·rename_i b' key _;obtain⟨x',y',e',rx,ry⟩:=aI hv;rw[hy]at e';change[ρ a,ρ b]=[x',y']at e';simp only[List.cons.injEq,and_true]at e';split at hs
     ·rename_i es clock hb;cases hkf:fx ks key
      ·rw[hkf]at hs;cases hs
      ·rw[hkf]at hs;simp only[cond_true]at hs;have hck:=fun e=>ej (P:=P) hk ry (fW hkf) e w;obtain⟨loc,hm,rfl⟩:=rx;obtain⟨bk,hbk,rel⟩:=H.blk b' loc hm;rw[hb]at hbk;cases hbk;obtain⟨es',g1,g2,g3⟩:=rel;have he:=EsRel.of_get _ _ g2 g3;cases hf:cB ks key es 0 with
       |none=>rw[hf]at hs;cases hs
       |some r=>
         rw[hf]at hs;obtain⟨r',f1,f2⟩:=eM hk ry w he hf;cases r with
         |none=>
           simp only[RO]at f2;subst f2;simp only[Option.some.injEq,Prod.mk.injEq]at hs;obtain⟨rfl,rfl⟩:=hs;obtain⟨zx,hzx,rz⟩:=kZ (m:=m) hz w;have he':EsRel m (es++[(key,zero,clock)]) (es'++[{key:=y',val:=zx,born:=clock}]):=he.append ⟨_,_,rfl,ry,rz,rfl,rfl⟩;obtain⟨H',E'⟩:=H.setM hm hb (clock+1) he';refine⟨.tuple #[zx,goInt clock],_,m,.inl ?_,⟨[zx,goInt clock],rfl,zx,_,rfl,rz,_,_,rfl,rfl,rfl⟩,H',E'⟩;simp only[execOp,hy,e'.1,e'.2];simp only[Instr.mapEntry,Sem.run_bind,ah hu,Result.andThen_ok,Go.MapKept.run_getObj_map g1,hck,f1,hzx,Go.MapKept.run_setObj_map _ g1,List.push_toArray,Sem.run_pure]
         |some p=>
           obtain⟨i,u⟩:=p;obtain⟨ux,rfl,ru⟩:=f2;simp only[]at hs;split at hs
           ·rename_i k0 v0 n0 hi;cases hq:vEq key k0
            ·rw[hq]at hs;cases hs
            ·rw[hq]at hs;simp only[cond_true,Option.some.injEq,Prod.mk.injEq]at hs;obtain⟨rfl,rfl⟩:=hs;have:=fJ _ _ hq;subst this;obtain⟨k1,n1,_,hu1⟩:=lG es 0 i u hf;rw[Nat.sub_zero,hi]at hu1;cases hu1;obtain⟨e0,q1,q2,q3,q4⟩:=he.get i _ _ _ hi;have hsb:=nB hkf q2 ry;have he':EsRel m (es.set i (key,u,n0)) (es'.set i {e0 with key:=y'}):=he.set ry q3 q4;obtain⟨H',E'⟩:=H.setM hm hb clock he';have hget:(List.toArray es')[i]? =some e0:=by simpa using q1
             refine⟨.tuple #[ux,goInt n0],_,m,.inl ?_,⟨[ux,goInt n0],rfl,ux,_,rfl,ru,_,_,rfl,rfl,rfl⟩,H',E'⟩;simp only[execOp,hy,e'.1,e'.2];simp only[Instr.mapEntry,Sem.run_bind,ah hu,Result.andThen_ok,Go.MapKept.run_getObj_map g1,hck,f1,hget,Option.map_some,Option.getD_some,Instr.keyThatStays,hsb,if_true,Sem.run_pure,jD es' i e0 _ q1,Go.MapKept.run_setObj_map _ g1,q4]
           ·cases hs
     ·cases hs
    ·simp_all
    ·cases hs
   ·cases hc
  ·rename_i t a b c hy;subst hc;unfold ame at hs;split at hs
   ·simp_all
   ·rename_i b' kk n val _;obtain⟨x',y',z',e',rx,ry,rz⟩:=gj hv;rw[hy]at e';change[ρ a,ρ b,ρ c]=[x',y',z']at e';simp only[List.cons.injEq,and_true]at e';split at hs
    ·rename_i es clock hb;obtain⟨loc,hm,rfl⟩:=rx;obtain⟨bk,hbk,rel⟩:=H.blk b' loc hm;rw[hb]at hbk;cases hbk;obtain⟨es',g1,g2,g3⟩:=rel;have he:=EsRel.of_get _ _ g2 g3;split at hs
     ·rename_i i hi;split at hs
      ·rename_i k u n' hg;simp only[Option.some.injEq,Prod.mk.injEq]at hs;obtain⟨rfl,rfl⟩:=hs;obtain⟨p,hp,hf⟩:=nW es es' 0 i he hi;rw[Nat.zero_add]at hp;subst hp;obtain⟨e0,q1,q2,q3,q4⟩:=he.get i _ _ _ hg;have he':EsRel m (es.set i (k,val,n')) (es'.set i {e0 with val:=z'}):=he.set q2 rz q4;obtain⟨H',E'⟩:=H.setM hm hb clock he';simp only[VRel]at ry;refine⟨undef,_,m,.inr ⟨?_,rfl⟩,⟨[],rfl,rfl⟩,H',E'⟩;have hfi:(List.toArray es').findIdx? (fun e=>(e.born:Int)==(n:Int))=some i:=by rw[List.findIdx?_toArray];exact hf
       simp only[execOp,hy,e'.1,e'.2.1,e'.2.2,ry];simp only[Instr.entryStore,Sem.run_bind,asInt,asIntOf,Result.andThen_ok,Go.MapKept.run_getObj_map g1,Sem.run_pure,Int.ofNat_eq_natCast,hfi,jD es' i e0 _ q1,Go.MapKept.run_setObj_map _ g1]
      ·cases hs
     ·cases hs
    ·cases hs
   ·cases hs
  ·cases hc
theorem oN{len y:Nat}{bs:List V}{l h:Nat}{m:Option Nat}(ha:aw len y true true false bs=some (l,h,m)):m=none:=by
  match bs,ha with
  |[],ha=>simp[aw]at ha
  |[_],ha=>simp[aw]at ha
  |[a,b],ha=>
    simp only[aw]at ha;cases hb:aK b y with
    |none=>rw[hb]at ha;cases ha
    |some n=>
      rw[hb]at ha;simp only[Option.bind_some]at ha;cases hc:aK a n with
      |none=>rw[hc]at ha;cases ha
      |some k=>rw[hc]at ha;cases ha;rfl
  |_::_::_::_,ha=>simp[aw]at ha
/-- x[a:b], up to what is known of the row -/
noncomputable def xH(h:Heap)(esz:Nat)(v:V)(bs:List V):Option V:=
  match v with
  |.sliceU b o len e=>bif Nat.beq e esz&&Nat.blt 0 e then
      (match bu h b with
      |some c=>bif Nat.ble len ((c.length-o)/e)then
          (match aw len ((c.length-o)/e) true true false bs with
          |some (l,u,_)=>bif Nat.blt l ((c.length-o)/e)then some (.sliceU b (o+l*esz) (u-l) e)else none
          |none=>none)
        else none
      |none=>none)
    else none
  |v=>bD v esz true true false bs
theorem pZ(H:HRel m h w){o:Oper}{ρ:Operand→Value}{esz:Nat}{x v:V}{bs:List V}(hc:az P o.op (.sl none esz true true false)=true)(hv:VsRel m (x::bs) (OV ρ o.op))
    (hs:xH h esz x bs=some v):MS P m h w o ρ v h:=by
  have hc0:=hc;simp only[az]at hc;split at hc
  ·rename_i t a l hh mxo hy;simp only[Bool.and_eq_true,beq_iff_eq]at hc;obtain⟨⟨⟨he,h1⟩,h2⟩,h3⟩:=hc;obtain⟨e,hu,hsz⟩:=eb he;unfold xH at hs;split at hs
   ·rename_i b k len e0;cases hb:(Nat.beq e0 esz&&Nat.blt 0 e0)
    ·rw[hb]at hs;cases hs
    ·rw[hb]at hs;simp only[cond_true]at hs;simp only[Bool.and_eq_true,Nat.blt_eq]at hb;obtain⟨hb1,hb2⟩:=hb;have he0:=Nat.eq_of_beq_eq_true hb1;subst he0;split at hs
     ·rename_i c hcells;obtain⟨f,mk,hg,hrd⟩:=eo hcells;rw[hy,gq]at hv;obtain⟨x',xs',e',rv,rb⟩:=hv;simp only[List.cons.injEq]at e';obtain⟨rfl,rfl⟩:=e';obtain⟨loc,hm,hlc,hx⟩:=rv;obtain⟨bk,hbk,rel⟩:=H.blk b loc hm;rw[hg]at hbk;cases hbk;obtain⟨C,el,fz,hC,hroom,hcl,hcell,hfz⟩:=rel hrd;cases hle:Nat.ble len ((c.length-k)/e0)
      ·rw[hle]at hs;cases hs
      rw[hle]at hs;simp only[cond_true]at hs;have hle:=Nat.le_of_ble_eq_true hle;have hyc:(c.length-k)/e0≤(loc.room-k)/e0:=Nat.div_le_div_right (by omega);split at hs
      ·rename_i l' u' m' ha;have hr:=fun w=>aX (P:=P) (isS:=true) ha hyc hle (by simpa using h1) (by simpa using h2) (by simpa using h3) rb w;have hbd:=(hr default).2;have hm':=oN ha;subst hm';simp only[Option.getD_none]at hbd;cases hlt:Nat.blt l' ((c.length-k)/e0)
       ·rw[hlt]at hs;cases hs
       rw[hlt]at hs;simp only[cond_true,Option.some.injEq]at hs;subst hs;have hlt':l'<(c.length-k)/e0:=by simpa[Nat.blt_eq]using hlt
       have hd:(loc.room-(k+l'*e0))/e0=(loc.room-k)/e0-l':=by
         rw[←Nat.sub_sub,Nat.mul_comm,Nat.sub_mul_div]
       refine⟨_,w,m,.inl ?_,⟨loc,hm,by omega,rfl⟩,H,Ext.refl _ _ _⟩;simp only[execOp,hy,Instr.sliceAt,Instr.slice,hx,Sem.run_bind,Sem.run_pure,ah hu,Result.andThen_ok,(hr w).1,aH hsz,Option.getD_none];rw[if_neg (by omega),hd];simp only[Option.map_some,cJ,Nat.add_assoc]
      ·cases hs
     ·cases hs
   ·exact oV H (w9 hc0 hv hs)
  ·cases hc
end
noncomputable def hnew(h:Heap)(k:Blk):Heap:=⟨h.bl.set h.next k,h.next+1,h.fams⟩
noncomputable def hset(h:Heap)(b:Nat)(k:Blk):Heap:=⟨h.bl.set b k,h.next,h.fams⟩
section
variable {P : Program} {m : M} {h : Heap} {w : World}
/-- the loop is laid: its record lies somewhere behind what was there -/
theorem HRel.allocL(H:HRel m h w){w1:World}{L:Nat}{g:LG}{env:T V}(hk:∀i,i<w.heap.size→w1.heap[i]? =w.heap[i]?)(hge:w.heap.size≤L)
    (hL:w1.heap[L]? =some (.loop {g.r with state:=.ready,pending:=none})) (henv:∀s v,env.get s=some v→s=DSL∨(g.vars.contains s=true∧VRel m v (g.r.tmps.getD s undef))):
    HRel (bH m h.next ⟨L,0,0,some g⟩) (hnew h (.lp g.ps g.as g.bd env 0 none)) w1:=by
  have hle:=H.le_mset ⟨L,0,0,some g⟩;have hLlt:L<w1.heap.size:=(Array.getElem?_eq_some_iff.1 hL).1;refine⟨⟨?_,?_⟩,?_,?_,?_⟩
  ·intro p cp f k hp;show match h.fams.get f with|none=>f=p|some (_,e)=>k≤e
   rw[hnew,T.get_set]at hp;by_cases e:p=h.next
   ·rw[if_pos e]at hp;cases hp
   ·rw[if_neg e]at hp;exact H.wf.fam _ _ _ _ hp
  ·intro p hp;have hp':h.next+1≤p:=hp;refine⟨?_,(H.wf.fresh p (by omega)).2⟩;rw[hnew,T.get_set_ne _ _ (by omega)];exact(H.wf.fresh p (by omega)).1
  ·intro p loc hp;by_cases e:p=h.next
   ·subst e;rw[ag]at hp;cases hp;exact⟨.lp g.ps g.as g.bd env 0 none,by rw[hnew,T.get_set_self],g,rfl,rfl,rfl,rfl,hL,fun s v hs=>(henv s v hs).imp id fun q=>⟨q.1,VRel.mono hle _ _ q.2⟩⟩
   ·rw[aj _ _ e]at hp;obtain⟨b,hb,r⟩:=H.blk p loc hp;exact⟨b,by rw[hnew,T.get_set_ne _ _ e];exact hb,r.mono hle (fun _ _ _ _ x=>x) (hk _ (H.inb p loc hp))⟩
  ·intro p loc hp;by_cases e:p=h.next
   ·subst e;rw[ag]at hp;cases hp;exact hLlt
   ·rw[aj _ _ e]at hp;have:=H.inb p loc hp;omega
  ·intro p q lp lq hp hq he hne;by_cases e:p=h.next
   ·subst e;rw[ag]at hp;cases hp;rw[aj _ _ (Ne.symm hne)]at hq;have:=H.inb q lq hq;simp only[]at he;omega
   ·rw[aj _ _ e]at hp;by_cases e2:q=h.next
    ·subst e2;rw[ag]at hq;cases hq;have:=H.inb p lp hp;simp only[]at he;omega
    ·rw[aj _ _ e2]at hq;obtain⟨cp,cq,f,kp,kq,a,b,d⟩:=H.sep p q lp lq hp hq he hne;exact⟨cp,cq,f,kp,kq,by rw[hnew,T.get_set_ne _ _ e];exact a,by rw[hnew,T.get_set_ne _ _ e2];exact b,d⟩
/-- the loop's record -/
theorem HRel.loop(H:HRel m h w){b:Nat}{loc:Loc}(hm:m b=some loc){ps:List Nat}{as bd:IC}{env:T V}{st:Nat}{pend:Option Ex}(hb:h.bl.get b=some (.lp ps as bd env st pend)):
    ∃g,loc.lp=some g∧g.ps=ps∧g.as=as∧g.bd=bd∧w.heap[loc.block]? =some (.loop {g.r with state:=lst st,pending:=pend.map dq})∧
      ∀s v,env.get s=some v→s=DSL∨(g.vars.contains s=true∧VRel m v (g.r.tmps.getD s undef)):=by
  obtain⟨bk,hbk,rel⟩:=H.blk b loc hm;rw[hb]at hbk;cases hbk;exact rel
theorem HRel.setL(H:HRel m h w){b:Nat}{loc:Loc}(hm:m b=some loc){ps:List Nat}{as bd:IC}{env:T V}{st:Nat}{pend:Option Ex}(hb:h.bl.get b=some (.lp ps as bd env st pend))
    {g:LG} (hg:loc.lp=some g) (st':Nat) (pend':Option Ex):
    HRel m (hset h b (.lp ps as bd env st' pend')) (w.putObj loc.block (.loop {g.r with state:=lst st',pending:=pend'.map dq}))∧
    Ext m h w m (hset h b (.lp ps as bd env st' pend')) (w.putObj loc.block (.loop {g.r with state:=lst st',pending:=pend'.map dq})):=by
  have hin:=H.inb b loc hm;obtain⟨g',hg',e1,e2,e3,e4,e5⟩:=H.loop hm hb;rw[hg]at hg';cases hg';have hother:∀p lp,m p=some lp→p≠b→lp.block≠loc.block:=by
    intro p lp hp hne hbl;obtain⟨cp,cq,f,kp,kq,a1,a2,_⟩:=H.sep p b lp loc hp hm hbl hne;rw[hb]at a2;cases a2
  refine⟨⟨⟨?_,?_⟩,?_,?_,?_⟩,⟨fun _ _ x=>x,fun p l a c=>(by rw[a]at c;cases c),Nat.le_refl _,?_,by simp,?_,rfl,rfl,rfl,fun _ _ _ x=>x,?_,fun _ _ a b=>by simp[a]at b⟩⟩
  ·intro p cp f k hp;show match h.fams.get f with|none=>f=p|some (_,e)=>k≤e
   rw[hset,T.get_set]at hp;by_cases e:p=b
   ·rw[if_pos e]at hp;cases hp
   ·rw[if_neg e]at hp;exact H.wf.fam _ _ _ _ hp
  ·intro p hp;have hfr:=H.wf.fresh p hp;have hpb:p≠b:=by intro e;subst e;rw[hb]at hfr;simp at hfr
   exact⟨by rw[hset,T.get_set_ne _ _ hpb];exact hfr.1,hfr.2⟩
  ·intro p lp hp;by_cases e:p=b
   ·subst e;rw[hm]at hp;cases hp;exact⟨.lp ps as bd env st' pend',by rw[hset,T.get_set_self],g,hg,e1,e2,e3,World.putObj_heap_same hin,e5⟩
   ·obtain⟨bk,hbk,r⟩:=H.blk p lp hp;exact⟨bk,by rw[hset,T.get_set_ne _ _ e];exact hbk,r.mono (fun _ _ x=>x) (fun _ _ _ _ x=>x) (World.putObj_heap_other (hother p lp hp e))⟩
  ·intro p lp hp;have:=H.inb p lp hp;simpa using this
  ·intro p q lp lq hp hq hbl hne;obtain⟨cp,cq,f,kp,kq,a1,a2,a3⟩:=H.sep p q lp lq hp hq hbl hne;have h1:p≠b:=by intro e;subst e;rw[hb]at a1;cases a1
   have h2:q≠b:=by intro e;subst e;rw[hb]at a2;cases a2
   exact⟨cp,cq,f,kp,kq,by rw[hset,T.get_set_ne _ _ h1];exact a1,by rw[hset,T.get_set_ne _ _ h2];exact a2,a3⟩
  ·intro p hn hp;have h1:p≠b:=by intro e;subst e;rw[hm]at hn;cases hn
   rw[hset,T.get_set_ne _ _ h1]
  ·intro k hk hlt;exact World.putObj_heap_other (fun e=>hk b loc hm e.symm)
  ·intro q hgl;by_cases h4:q=loc.block
   ·subst h4;intro x hx;rw[e4]at hx;cases hx;exact⟨_,World.putObj_heap_same hin,trivial⟩
   ·exact Kept.of_eq (World.putObj_heap_other h4)
/-- the loop is over: what is known of it is forgotten -/
theorem HRel.endL(H:HRel m h w){b:Nat}{loc:Loc}(hm:m b=some loc){ps:List Nat}{as bd:IC}{env:T V}{st:Nat}{pend:Option Ex}(hb:h.bl.get b=some (.lp ps as bd env st pend))(o:Obj):
    HRel (bH m b {loc with lp:=none}) (hset h b .dead) (w.putObj loc.block o):=by
  have hgeo:Geo m (bH m b {loc with lp:=none}):=by
    intro q l hq;by_cases e:q=b
    ·subst e;rw[hm]at hq;cases hq;exact⟨_,ag _ _ _,rfl,rfl,rfl⟩
    ·exact⟨l,by rw[aj _ _ e];exact hq,rfl,rfl,rfl⟩
  have hother:∀p lp,m p=some lp→p≠b→lp.block≠loc.block:=by
    intro p lp hp hne hbl;obtain⟨cp,cq,f,kp,kq,a1,a2,_⟩:=H.sep p b lp loc hp hm hbl hne;rw[hb]at a2;cases a2
  refine⟨⟨?_,?_⟩,?_,?_,?_⟩
  ·intro p cp f k hp;show match h.fams.get f with|none=>f=p|some (_,e)=>k≤e
   rw[hset,T.get_set]at hp;by_cases e:p=b
   ·rw[if_pos e]at hp;cases hp
   ·rw[if_neg e]at hp;exact H.wf.fam _ _ _ _ hp
  ·intro p hp;have hfr:=H.wf.fresh p hp;have hpb:p≠b:=by intro e;subst e;rw[hb]at hfr;simp at hfr
   exact⟨by rw[hset,T.get_set_ne _ _ hpb];exact hfr.1,hfr.2⟩
  ·intro p lp hp;by_cases e:p=b
   ·subst e;exact⟨.dead,by rw[hset,T.get_set_self],trivial⟩
   ·rw[aj _ _ e]at hp;obtain⟨bk,hbk,r⟩:=H.blk p lp hp;refine⟨bk,by rw[hset,T.get_set_ne _ _ e];exact hbk,?_⟩;have hw:(w.putObj loc.block o).heap[lp.block]? =w.heap[lp.block]? :=World.putObj_heap_other (hother p lp hp e);cases bk with
    |row c f k=>
      intro hrd;obtain⟨C,el,fz,a,b',c',d,e'⟩:=r hrd;exact⟨C,el,fz,hw.trans a,b',c',fun i v hi=>let⟨x,hx,rx⟩:=d i v hi;⟨x,hx,VRel.geo hgeo _ _ rx⟩,e'⟩
    |mp es clock=>
      obtain⟨es',a,b',c⟩:=r;refine⟨es',hw.trans a,b',fun i k v n hi=>?_⟩;obtain⟨e',he,r1,r2,r3⟩:=c i k v n hi;exact⟨e',he,VRel.geo hgeo _ _ r1,VRel.geo hgeo _ _ r2,r3⟩
    |lp ps as bd en st pend=>
      obtain⟨g,q1,q2,q3,q4,q5,q6⟩:=r;exact⟨g,q1,q2,q3,q4,hw.trans q5,fun s v hs=>(q6 s v hs).imp id fun q=>⟨q.1,VRel.geo hgeo _ _ q.2⟩⟩
    |si s pos=>exact⟨r.1,hw.trans r.2⟩
    |dead=>trivial
  ·intro p lp hp;by_cases e:p=b
   ·subst e;rw[ag]at hp;cases hp;simpa using H.inb p loc hm
   ·rw[aj _ _ e]at hp;simpa using H.inb p lp hp
  ·intro p q lp lq hp hq hbl hne;by_cases e:p=b
   ·subst e;rw[ag]at hp;cases hp;rw[aj _ _ (Ne.symm hne)]at hq;exact absurd hbl.symm (hother q lq hq (Ne.symm hne))
   ·rw[aj _ _ e]at hp;by_cases e2:q=b
    ·subst e2;rw[ag]at hq;cases hq;exact absurd hbl (hother p lp hp hne)
    ·rw[aj _ _ e2]at hq;obtain⟨cp,cq,f,kp,kq,a,b',d⟩:=H.sep p q lp lq hp hq hbl hne;exact⟨cp,cq,f,kp,kq,by rw[hset,T.get_set_ne _ _ e];exact a,by rw[hset,T.get_set_ne _ _ e2];exact b',d⟩
/-- a range over a function, from its entry to its end -/
theorem Ext.loop(H:HRel m h w){w1 w2:World}{L:Nat}{g:LG}{k:Blk}{m2:M}{h2:Heap}{o:Obj}(hk:∀i,i<w.heap.size→w1.heap[i]? =w.heap[i]?)(hge:w.heap.size≤L)(hsz:w.heap.size≤w1.heap.size)
    (hos:w1.os=w.os) (htp:w1.tape=w.tape) (hout:w1.output=w.output) (E:Ext (bH m h.next ⟨L,0,0,some g⟩) (hnew h k) w1 m2 h2 w2):
    Ext m h w (bH m2 h.next ⟨L,0,0,none⟩) (hset h2 h.next .dead) (w2.putObj L o):=by
  have hold:∀p l,m p=some l→p≠h.next:=fun p l hp x=>by subst x;rw[H.unmapped (Nat.le_refl _)]at hp;cases hp
  have hcov1:∀b i,b<w.heap.size→Cov (bH m h.next ⟨L,0,0,some g⟩) b i→Cov m b i:=by
    rintro b i hb ⟨q,l,hq,h1,h2,h3⟩;by_cases e:q=h.next
    ·subst e;rw[ag]at hq;cases hq;simp only[]at h1;omega
    ·rw[aj _ _ e]at hq;exact⟨q,l,hq,h1,h2,h3⟩
  have hnx:(hnew h k).next=h.next+1:=rfl;refine⟨?_,?_,?_,?_,?_,?_,E.os.trans hos,E.tape.trans htp,E.output.trans hout,?_,?_,?_⟩
  ·intro p l hp;rw[aj _ _ (hold p l hp)];exact E.le p l (by rw[aj _ _ (hold p l hp)];exact hp)
  ·intro p l hp hn;by_cases e:p=h.next
   ·subst e;rw[ag]at hp;cases hp;exact⟨Nat.le_refl _,.inl hge⟩
   ·rw[aj _ _ e]at hp;obtain⟨n1,n2⟩:=E.new p l hp (by rw[aj _ _ e];exact hn);rw[hnx]at n1;refine⟨by omega,?_⟩;rcases n2 with n2|⟨q,lq,hq,e2⟩
    ·exact .inl (by omega)
    ·by_cases e3:q=h.next
     ·subst e3;rw[ag]at hq;cases hq;exact .inl (by simp only[]at e2;omega)
     ·rw[aj _ _ e3]at hq;exact .inr ⟨q,lq,hq,e2⟩
  ·have:=E.next;rw[hnx]at this;show h.next≤h2.next;omega
  ·intro p hn hp;have hpb:p≠h.next:=by omega
   show(h2.bl.set h.next .dead).get p=_;rw[T.get_set_ne _ _ hpb,E.phan p (by rw[aj _ _ hpb];exact hn) (by omega)];show(h.bl.set h.next k).get p=_;rw[T.get_set_ne _ _ hpb]
  ·have:=E.size;simp;omega
  ·intro b hb hlt;rw[World.putObj_heap_other (by omega),E.keep b (fun p l hp e=>?_) (by omega),hk b hlt];by_cases e2:p=h.next
   ·subst e2;rw[ag]at hp;cases hp;simp only[]at e;omega
   ·rw[aj _ _ e2]at hp;exact hb p l hp e
  ·rintro b i hb ⟨q,l,hq,h1,h2',h3⟩;by_cases e:q=h.next
   ·subst e;rw[ag]at hq;cases hq;simp only[]at h1;omega
   ·rw[aj _ _ e]at hq;exact hcov1 b i hb (E.cov b i (by omega) ⟨q,l,hq,h1,h2',h3⟩)
  ·intro b hb;rw[World.putObj_heap_other (by omega),←hk b hb];exact(Kept.refl m b _).trans (fun j x=>hcov1 b j hb x) (E.out b (by omega))
  ·intro p l hp hn;by_cases e:p=h.next
   ·subst e;rw[ag]at hp;cases hp;rfl
   ·rw[aj _ _ e]at hp;exact E.lps p l hp (by rw[aj _ _ e];exact hn)
end
/-- no block stands there -/
def Off(m:M)(r:Nat):Prop:=∀p loc,m p=some loc→loc.block≠r
theorem Off.ext{m m':M}{h h':Heap}{w w':World}{r:Nat}(o:Off m r)(E:Ext m h w m' h' w')(hr:r<w.heap.size):Off m' r:=by
  intro p loc hp e;cases h0:m p with
  |some l0=>
    have:=E.le _ _ h0;rw[hp]at this;cases this;exact o p loc h0 e
  |none=>
    rcases(E.new p loc hp h0).2 with q|⟨q,lq,hq,e2⟩
    ·omega
    ·exact o q lq hq (e2.trans e)
theorem HRel.putOff{m:M}{h:Heap}{w:World}(H:HRel m h w){r:Nat}(o:Off m r)(x:Obj):HRel m h (w.putObj r x):=by
  refine⟨H.wf,fun p loc hp=>?_,fun p loc hp=>by simpa using H.inb p loc hp,H.sep⟩;obtain⟨b,hb,rb⟩:=H.blk p loc hp;exact⟨b,hb,rb.mono (fun _ _ x=>x) (fun _ _ _ _ x=>x) (World.putObj_heap_other (o p loc hp))⟩
theorem Ext.putOff{m m':M}{h h':Heap}{w w':World}(E:Ext m h w m' h' w'){r:Nat}(hr:w.heap.size≤r)(x:Obj):Ext m h w m' h' (w'.putObj r x):=
  ⟨E.le,E.new,E.next,E.phan,by simpa using E.size,fun b hb hl=>(World.putObj_heap_other (by omega)).trans (E.keep b hb hl),E.os,E.tape,E.output,E.cov,
    fun b hb=>by rw[World.putObj_heap_other (by omega)];exact E.out b hb,E.lps⟩
/-- marks: each has its block, with no call in it -/
def Marks(B:Nat)(m:M)(w:World):List Deferred→Prop
  |[]=>True
  |d::ds=>(∃r,d={target:=.collected r,args:= #[]}∧B≤r∧w.heap[r]? =some (.deferred (some []))∧Off m r∧∀d'∈ds,d'.target≠.collected r)∧Marks B m w ds
theorem Marks.ext{B:Nat}{m m':M}{h h':Heap}{w w':World}(E:Ext m h w m' h' w'):∀{ds:List Deferred},Marks B m w ds→Marks B m' w' ds
  |[],_=>trivial
  |_::_,⟨⟨r,h1,h2,h3,h4,h5⟩,t⟩=>
    have hlt:=(Array.getElem?_eq_some_iff.1 h3).1
    ⟨⟨r,h1,h2,(E.keep r h4 hlt).trans h3,h4.ext E hlt,h5⟩,Marks.ext E t⟩
theorem Marks.put{B:Nat}{m:M}{w:World}{r:Nat}{x:Obj}:∀{ds:List Deferred},(∀d∈ds,d.target≠.collected r)→Marks B m w ds→Marks B m (w.putObj r x) ds
  |[],_,_=>trivial
  |d::ds,hn,⟨⟨r',h1,h2,h3,h4,h5⟩,t⟩=>
    ⟨⟨r',h1,h2,(World.putObj_heap_other (fun e=>hn d (by simp) (by rw[h1,e]))).trans h3,h4,h5⟩,Marks.put (fun d' hd=>hn d' (by simp[hd])) t⟩
inductive Out where
  |ok (e:Ex) (env:T V) (h:Heap)
  |fail
noncomputable def evO(loc:List V)(env:T V)(x:Opd):Option V:=
  Opd.rec (motive:=fun _=>Option V) (fun k=>nth loc k) (fun s=>env.get s) (fun v=>some v) (fun n=>some (.ptr n 0)) x
noncomputable def aN(loc:List V)(env:T V)(xs:List Opd):Option (List V):=
  List.rec (motive:=fun _=>Option (List V)) (some []) (fun x _ ih=>
    Option.rec (motive:=fun _=>Option (List V)) none (fun v=>Option.rec (motive:=fun _=>Option (List V)) none (fun vs=>some (v::vs)) ih) (evO loc env x)) xs
noncomputable def fN{β:Type}(n:Nat)(k:Nat→β):β:=Nat.rec (motive:=fun _=>β) (k 0) (fun j _=>k (Nat.succ j)) n
theorem nM{β:Type}(n:Nat)(k:Nat→β):fN n k=k n:=by cases n<;>rfl
noncomputable def fI{β:Type}(n:Int)(k:Int→β):β:=Int.rec (motive:=fun _=>β) (fun a=>fN a fun a=>k (.ofNat a)) (fun a=>fN a fun a=>k (.negSucc a)) n
theorem tQ{β:Type}(n:Int)(k:Int→β):fI n k=k n:=by cases n<;>simp[fI,nM]
noncomputable def fB{β:Type}(b:Bool)(k:Bool→β):β:=Bool.rec (motive:=fun _=>β) (k false) (k true) b
theorem yN{β:Type}(b:Bool)(k:Bool→β):fB b k=k b:=by cases b<;>rfl
noncomputable def fV{β:Type}(v:V)(k:V→β):β:=
  match v with
  |.bool b=>fB b fun b=>k (.bool b)
  |.int t n=>fI n fun n=>k (.int t n)
  |.ptr b o=>fN b fun b=>fN o fun o=>k (.ptr b o)
  |.slice b o l c=>fN b fun b=>fN o fun o=>fN l fun l=>fN c fun c=>k (.slice b o l c)
  |.sliceU b o l c=>fN b fun b=>fN o fun o=>fN l fun l=>fN c fun c=>k (.sliceU b o l c)
  |v=>k v
theorem iv{β:Type}(v:V)(k:V→β):fV v k=k v:=by
  cases v<;>simp[fV,yN,tQ,nM]
abbrev ai:=Nat→List V→Heap→Option (V×Heap)
/-- one operation -/
noncomputable def aq(call:ai)(loc:List V)(env:T V)(h:Heap)(o:IOp):Option (V×Heap):=
  match o with
  |.p k xs=>match aN loc env xs with
    |some vs=>match aP k vs with
      |some v=>some (v,h)
      |none=>none
    |none=>none
  |.ld n ia x=>match evO loc env x with
    |some v=>match cG h n ia v with
      |some v=>some (v,h)
      |none=>none
    |none=>none
  |.st n x y=>match evO loc env x with
    |some p=>match evO loc env y with
      |some v=>match cY h n p v with
        |some h=>some (.tup [],h)
        |none=>none
      |none=>none
    |none=>none
  |.al zero=>some (.ptr h.next 0,halloc h zero)
  |.bx x=>match evO loc env x with
    |some v=>some (.ptr h.next 0,halloc h v.cells)
    |none=>none
  |.bs zero places len xs=>match aN loc env xs with
    |some vs=>er h zero places len vs
    |none=>none
  |.mk zero bytes x y=>match evO loc env x with
    |some l=>match evO loc env y with
      |some c=>oH h zero bytes l c
      |none=>none
    |none=>none
  |.ap esz bytes x y=>match evO loc env x with
    |some s=>match evO loc env y with
      |some v=>mT h esz bytes s v
      |none=>none
    |none=>none
  |.cp esz x y=>match evO loc env x with
    |some s=>match evO loc env y with
      |some v=>lZ h esz s v
      |none=>none
    |none=>none
  |.cf f xs=>match aN loc env xs with
    |some vs=>call f vs h
    |none=>none
  |.cv x xs=>match evO loc env x with
    |some (.func (.func f) first caps)=>match aN loc env xs with
      |some vs=>bif Nat.blt f YB then call f (first++vs++caps) h else none
      |none=>none
    |some (.yld b)=>match aN loc env xs with
      |some vs=>call (YB+b) vs h
      |none=>none
    |_=>none
  |.mm xs=>match aN loc env xs with
    |some vs=>amm h vs
    |none=>none
  |.lk ks zero ok xs=>match aN loc env xs with
    |some [x,key]=>match alk h ks zero ok x key with
      |some v=>some (v,h)
      |none=>none
    |_=>none
  |.mu ks xs=>match aN loc env xs with
    |some [x,key,val]=>amu h ks x key val
    |_=>none
  |.clr zero x=>match evO loc env x with
    |some d=>uG h zero d
    |none=>none
  |.b2s x=>match evO loc env x with
    |some d=>match xK h d with
      |some v=>some (v,h)
      |none=>none
    |none=>none
  |.df x xs=>match evO loc env x with
    |some (.func (.func f) first caps)=>match aN loc env xs with
      |some vs=>(match env.get DSL with
        |some _=>none
        |none=>bif Nat.blt f YB then some (.tup (.func (.func f) first caps::vs),h)else none)
      |none=>none
    |_=>none
  |.it nx x=>match evO loc env x with
    |some d=>ait h nx d
    |none=>none
  |.me ks zero st xs=>match aN loc env xs with
    |some vs=>ame h ks zero st vs
    |none=>none
  |.slu esz xs=>match aN loc env xs with
    |some (v::bs)=>match xH h esz v bs with
      |some v=>some (v,h)
      |none=>none
    |_=>none
  |.bad=>none
/-- does it run? (none: that can't be told) -/
noncomputable def evG(loc:List V)(env:T V)(g:Option (Opd×Bool)):Option Bool:=
  match g with
  |none=>some true
  |some (x,want)=>match evO loc env x with
    |some (.bool b)=>some (!(xor b want))
    | some (.tup _) => some false -- the guard was passed over itself
    |_=>none
noncomputable def bh(call:ai)(l:List IStep):List V→T V→Heap→Out:=
  List.rec (motive:=fun _=>List V→T V→Heap→Out) (fun _ env h=>.ok .norm env h)
    (fun s _ ih loc env h=>
      match evG loc env s.gd with
      |some true=>match aq call loc env h s.op with
        |some (v,h)=>fV v fun v=>match s.dst with
          |none=>ih (v::loc) env h
          |some d=>ih loc (env.set d v) h
        |none=>.fail
      |some false=>match s.dst with
        |none=>ih (.tup []::loc) env h
        |some d=>ih loc (env.set d (.tup [])) h
      |none=>.fail) l
def eff:IOp→Bool
  |.p _ _=>false
  |.ld _ _ _=>false
  |.lk _ _ _ _=>false
  |.b2s _=>false
  |_=>true
/-- blocks that are made in a region, unordered beside its effects: what they hold, and the value that leads to them -/
noncomputable def ew(loc:List V)(env:T V)(o:IOp):Option (List V×Option (Nat×Nat)):=
  match o with
  |.al zero=>some (zero,none)
  |.bx x=>match evO loc env x with
    |some v=>some (v.cells,none)
    |none=>none
  |.bs zero places len xs=>match aN loc env xs with
    |some vs=>match bv (cN zero len) places vs with
      |some c=>some (c,some (len,len))
      |none=>none
    |none=>none
  |.mk zero bytes x y=>match evO loc env x with
    |some l=>match evO loc env y with
      |some c=>match mkN bytes l c with
        |some (n,k)=>some (cN zero k,some (n,k))
        |none=>none
      |none=>none
    |none=>none
  |_=>none
def dH(id:Nat):Option (Nat×Nat)→V
  |some (n,k)=>.slice id 0 n k
  |none=>.ptr id 0
/-- the block that a late value leads to -/
def lid:V→Nat
  |.ptr b _=>b
  |.slice b _ _ _=>b
  |_=>0
/-- a step, and (of a late one) its value and what it holds -/
abbrev DS:=IStep×Option (V×List V)
def cr(s:DS):Bool:=match s.2 with
  |some _=>false
  |none=>eff s.1.op
/-- what a step that is not late will most likely give (held against the real value afterwards) -/
noncomputable def lI(call:ai)(loc:List V)(env:T V)(h:Heap)(s:IStep):V:=
  bif eff s.op then .tup []else match aq call loc env h s.op with
    |some (v,_)=>v
    |none=>.tup []
/-- all late blocks, made ahead of the region -/
noncomputable def lay(call:ai)(env:T V)(late:List Nat):List IStep→Nat→List V→Heap→Option (List DS×Heap)
  |[],_,_,h=>some ([],h)
  |s::l,i,loc,h=>
    bif late.contains i then
      match ew loc env s.op with
      |some (c,k)=>match lay call env late l (i+1) (dH h.next k::loc) (halloc h c)with
        |some (r,h')=>some ((s,some (dH h.next k,c))::r,h')
        |none=>none
      |none=>none
    else
      match lay call env late l (i+1) (lI call loc env h s::loc) h with
      |some (r,h')=>some ((s,none)::r,h')
      |none=>none
/-- is a late step's block what was laid? -/
noncomputable def a9(loc:List V)(env:T V)(o:IOp)(u:V)(c:List V):Bool:=
  match ew loc env o with
  |some (c',k)=>ez c c'&&vEq u (dH (lid u) k)
  |none=>false
noncomputable def dd(call:ai)(env:T V)(l:List DS):List V→List Heap→Heap→Option (List V×List Heap):=
  List.rec (motive:=fun _=>List V→List Heap→Heap→Option (List V×List Heap)) (fun loc hs _=>some (loc,hs))
    (fun s _ ih loc hs h=>
      match s.2 with
      |some (u,c)=>bif a9 loc env s.1.op u c then ih (u::loc) hs h else none
      |none=>
        match evG loc env s.1.gd with
        |some true=>match aq call loc env h s.1.op with
          |some (v,h')=>fV v fun v=>bif eff s.1.op then ih (v::loc) (h'::hs) h' else ih (v::loc) hs h
          |none=>none
        |some false=>bif eff s.1.op then ih (.tup []::loc) (h::hs) h else ih (.tup []::loc) hs h
        |none=>none) l
noncomputable def cK(call:ai)(loc:List V)(env:T V)(o:IOp)(v:V):List Heap→Bool
  |[]=>true
  |h::hs=>(match aq call loc env h o with
    |some (u,_)=>vEq u v
    |none=>false)&&cK call loc env o v hs
/-- hs: the heaps, the last one first; those behind lo to hi effects -/
noncomputable def fR(call:ai)(env:T V)(l:List IStep)(loc:List V)(hs:List Heap)(r:Nat×Nat×Nat):Bool:=
  match r with
  |(i,lo,hi)=>match l[i]?,loc.drop (l.length-i-1)with
    |some s,v::loc'=>(match evG loc' env s.gd with
      |some true=>cK call loc' env s.op v ((hs.reverse.drop lo).take (hi+1-lo))
      |_=>true)
    |_,_=>false
noncomputable def dg(n:Nat)(loc:List V):List (Nat×Nat)→T V→Option (T V)
  |[],env=>some env
  |(s,i)::r,env=>match loc[n-i-1]? with
    |some v=>dg n loc r (env.set s v)
    |none=>none
noncomputable def evD(call:ai)(l:List IStep)(late:List Nat)(reads:List (Nat×Nat×Nat))(sets:List (Nat×Nat))(env:T V)(h0:Heap):Out:=
  match lay call env late l 0 [] h0 with
  |none=>.fail
  |some (dl,h)=>
  match dd call env dl [] [h] h with
  |some (loc,hs)=>bif reads.all (fR call env l loc hs)then
      (match dg l.length loc sets env,hs with
        |some env',h'::_=>.ok .norm env' h'
        |_,_=>.fail)
    else .fail
  |none=>.fail
noncomputable def dbl(body:T V→Heap→Out)(k:Nat):T V→Heap→Out:=
  Nat.rec (motive:=fun _=>T V→Heap→Out) body (fun _ ih env h=>match ih env h with
    |.ok .norm env h=>ih env h
    |r=>r) k
/-- the deferred call, at a function's end -/
noncomputable def bC(call:ai)(e:Ex)(env:T V)(h:Heap):Out:=
  match env.get DSL with
  |none=>.ok e env h
  |some (.tup (.func (.func f) first caps::args))=>(match call f (first++args++caps) h with
    |some (_,h)=>.ok e env h
    |none=>.fail)
  |_=>.fail
noncomputable def evC(call:ai)(c:IC):T V→Heap→Out:=
  IC.rec (motive:=fun _=>T V→Heap→Out)
    (fun env h=>.ok .norm env h)
    (fun l env h=>bh call l [] env h)
    (fun _ _ a b env h=>match a env h with
      |.ok .norm env h=>b env h
      |r=>r)
    (fun x _ _ a b env h=>match evO [] env x with
      |some (.bool t)=>bif t then a env h else b env h
      |_=>.fail)
    (fun id _ c env h=>match c env h with
      |.ok (.exit i) env h=>bif Nat.beq i id then .ok .norm env h else .ok (.exit i) env h
      |r=>r)
    (fun _ c env h=>match dbl c 48 env h with
      |.ok .norm _ _=>.fail
      |r=>r)
    (fun id env h=>.ok (.exit id) env h)
    (fun env h=>.ok .ret env h)
    (fun _ l _ c r env h=>match c env h with
      |.ok (.goto i) env h=>bif Nat.beq i l then
          (match dbl (fun env h=>match r env h with
              |.ok (.goto i) env h=>bif Nat.beq i l then .ok .norm env h else .ok (.goto i) env h
              |.ok .norm env h=>.ok (.goto l) env h
              |r=>r) 48 env h with
            |.ok .norm _ _=>.fail
            |.ok (.goto i) env h=>bif Nat.beq i l then .ok .norm env h else .fail
            |r=>r)
        else .fail
      |r=>r)
    (fun l env h=>.ok (.goto l) env h)
    (fun l late _ reads sets env h=>evD call l late reads sets env h)
    (fun _ _=>.fail)
    (fun g ps as bd _ _ env h=>match evO [] env g with
      |some (.func (.func f) first caps)=>bif Nat.blt f YB then
          (match call f (first++[.yld h.next]++caps) (hnew h (.lp ps as bd env 0 none))with
            |some (_,h2)=>(match h2.bl.get h.next with
              |some (.lp _ _ _ _ st pend)=>bif Nat.beq st 1 then .fail else .ok (match pend with|some ex=>ex|none=>.norm) env (hset h2 h.next .dead)
              |_=>.fail)
            |none=>.fail)
        else .fail
      |_=>.fail)
    (fun _ c env h=>match c env h with
      |.ok .norm env h=>bC call .norm env h
      |.ok .ret env h=>bC call .ret env h
      |_=>.fail) c
noncomputable def oC:List Nat→List V→T V→T V
  |p::ps,v::vs,env=>oC ps vs (env.set p v)
  |_,_,env=>env
/-- a call of yield: a round -/
noncomputable def evY(run:IC→T V→Heap→Out)(b:Nat)(vs:List V)(h:Heap):Option (V×Heap):=
  match h.bl.get b with
  |some (.lp ps as bd env 0 none)=>bif Nat.beq vs.length ps.length then
      (match run as (oC ps vs env) h with
        |.ok .norm env1 h1=>(match h1.bl.get b with
          |some (.lp ps1 as1 bd1 en1 0 p1)=>(match run bd env1 (hset h1 b (.lp ps1 as1 bd1 en1 1 p1))with
            |.ok ex _ h2=>(match h2.bl.get b with
              |some (.lp ps2 as2 bd2 en2 _ _)=>(match ex with
                |.norm=>some (.bool true,hset h2 b (.lp ps2 as2 bd2 en2 0 none))
                |ex=>some (.bool false,hset h2 b (.lp ps2 as2 bd2 en2 2 (some ex))))
              |_=>none)
            |.fail=>none)
          |_=>none)
        |_=>none)
    else none
  |_=>none
/-- a result: a variable, or the n cells at the address that a variable holds -/
inductive RV where
  |t (s:Nat)
  |c (s n:Nat) (ia:Bool)
structure IFn where
  nargs:Nat
  body:IC
  results:List RV
def vd:List IStep→List Nat
  |[]=>[]
  |s::l=>match s.dst with
    |some d=>bif Nat.beq d DSL then vd l else d::vd l
    |none=>vd l
def vz:IC→List Nat
  |.ops l=>vd l
  |.seq a b|.cond _ a b|.scope a _ b=>vz a++vz b
  |.block _ a|.loop a|.wd a=>vz a
  |.dops _ _ _ _ t=>t.map Prod.fst
  |.rf _ p a b=>p++(vz a++vz b)
  |_=>[]
def IFn.vars(f:IFn):List Nat:=List.range f.nargs++vz f.body
noncomputable def evR(env:T V)(h:Heap):RV→Option V
  |.t s=>env.get s
  |.c s n ia=>match env.get s with
    |some v=>cG h n ia v
    |none=>none
noncomputable def bI(env:T V)(h:Heap):List RV→Option (List V)
  |[]=>some []
  |r::rs=>match evR env h r with
    |some v=>match bI env h rs with
      |some vs=>some (v::vs)
      |none=>none
    |none=>none
noncomputable def bG(vs:List V):Nat→T V→T V:=
  List.rec (motive:=fun _=>Nat→T V→T V) (fun _ en=>en) (fun v _ ih i en=>ih (Nat.succ i) (en.set i v)) vs
/-- ov: functions whose contracts are known otherwise -/
noncomputable def evF(ov:ai)(F:T IFn)(n:Nat):ai:=
  Nat.rec (motive:=fun _=>ai) (fun _ _ _=>none)
    (fun _ ih f vs h=>match F.get f with
      |some fn=>bif Nat.beq vs.length fn.nargs then
          (match evC ih fn.body (bG vs 0 .e) h with
            |.ok .norm env h=>match bI env h fn.results with
              |some [v]=>fV v fun v=>some (v,h)
              |some vs=>some (.tup vs,h)
              |none=>none
            |.ok .ret env h=>match bI env h fn.results with
              |some [v]=>fV v fun v=>some (v,h)
              |some vs=>some (.tup vs,h)
              |none=>none
            |_=>none)
        else none
      |none=>bif Nat.ble YB f then evY (evC ih) (f-YB) vs h else ov f vs h) n
/-- what a temporary of a region stands for -/
inductive Src where
  |l (k:Nat)
  |v (s:Nat)
  |x (o:Operand)
  |bad
abbrev Sg:=List (Nat×Src)
def bT:Sg→Nat→Option Src
  |[],_=>none
  |(d,s)::r,t=>if d=t then some s else bT r t
def j8:Src→Src
  |.l k=>.l (k+1)
  |s=>s
def sr:Sg→Sg
  |[]=>[]
  |(d,s)::r=>(d,j8 s)::sr r
/-- without what a variable stood for that is set anew -/
def fK(d t:Nat):Src→Src
  |.v s=>if t=d∨s=d then .bad else .v s
  |s=>if t=d then .bad else s
def mX(d:Nat):Sg→Sg
  |[]=>[]
  |(t,s)::r=>(t,fK d t s)::mX d r
def iB(G:Nat):Operand→Opd→Bool
  |.const x,.c v=>vis v x
  |.global g,.g n=>Nat.beq g n&&Nat.blt g G
  |.func f,.c (.func (.func f') [] [])=>Nat.beq f f'
  |_,_=>false
def aW(G:Nat):Src→Opd→Bool
  |.l k,.l j=>Nat.beq k j
  |.v s,.v t=>Nat.beq s t
  |.x o,y=>iB G o y
  |_,_=>false
structure Cx where
  G:Nat
  vars:List Nat
  N:Nat
  df:Bool
def fm(C:Cx)(σ:Sg):Operand→Opd→Bool
  |.tmp t,y=>match bT σ t with
    |some s=>aW C.G s y
    |none=>match y with
      |.v s=>Nat.beq s t&&C.vars.contains t
      |_=>false
  |o,y=>iB C.G o y
def aD(C:Cx)(σ:Sg):List Operand→List Opd→Bool
  |[],[]=>true
  |o::os,y::ys=>fm C σ o y&&aD C σ os ys
  |_,_=>false
def aF(P:Program)(C:Cx)(σ:Sg)(o:Oper):IOp→Bool
  |.p k xs=>az P o.op k&&aD C σ o.op.operands.toList xs
  |.ld n ia x=>mJ P o.op n ia&&aD C σ o.op.operands.toList [x]
  |.st n x y=>jY P o.op n&&aD C σ o.op.operands.toList [x,y]
  |.al zero=>gL P o.op zero
  |.bx x=>mL o.op&&aD C σ o.op.operands.toList [x]
  |.bs zero places len xs=>e8 P o.op zero places len&&aD C σ o.op.operands.toList xs
  |.mk zero bytes x y=>gK P o.op zero bytes&&aD C σ o.op.operands.toList [x,y]
  |.ap esz bytes x y=>mM P o.op esz bytes&&aD C σ o.op.operands.toList [x,y]
  |.cp esz x y=>mK P o.op esz&&aD C σ o.op.operands.toList [x,y]
  |.cf f xs=>match o.op with
    |.call {callee:=.value (.func f'),args, .. }=>Nat.beq f f'&&aD C σ args.toList xs&&Nat.blt f YB
    |_=>false
  |.cv x xs=>match o.op with
    |.call {callee:=.value y,args, .. }=>fm C σ y x&&aD C σ args.toList xs
    |_=>false
  |.mm xs=>uo P o.op&&aD C σ o.op.operands.toList xs
  |.lk ks zero ok xs=>uq P o.op ks zero ok&&aD C σ o.op.operands.toList xs
  |.mu ks xs=>um P o.op ks&&aD C σ o.op.operands.toList xs
  |.clr zero x=>pW P o.op zero&&aD C σ o.op.operands.toList [x]
  |.b2s x=>pX P o.op&&aD C σ o.op.operands.toList [x]
  |.df _ _=>false
  |.it nx x=>ur P o.op nx&&aD C σ o.op.operands.toList [x]
  |.me ks zero st xs=>un P o.op ks zero st&&aD C σ o.op.operands.toList xs
  |.slu esz xs=>az P o.op (.sl none esz true true false)&&aD C σ o.op.operands.toList xs
  |.bad=>true
def wM:Op→Bool
  |.defer _=>false
  |_=>true
def fE(P:Program)(C:Cx)(σ:Sg)(o:Oper)(i:IOp):Bool:=wM o.op&&aF P C σ o i
/-- a deferred call -/
def wV(C:Cx)(σ:Sg)(o:Oper)(s:IStep):Bool:=
  C.df&&(match s.dst with|some d=>Nat.beq d DSL|none=>false)&&(match o.dst with|none=>true|some _=>false)&&(match o.guard,s.gd with|none,none=>true|_,_=>false)&&
  (match s.op with
    |.df x xs=>(match o.op with
      |.defer {callee:=.value y,args, .. }=>fm C σ y x&&aD C σ args.toList xs
      |_=>false)
    |_=>false)
def sq(C:Cx)(σ:Sg)(ops:Array Oper)(g:Option (Nat×Bool))(s:Option (Opd×Bool)):Bool:=
  match g,s with
  |none,none=>true
  |some (j,want),some (x,want')=>(want==want')&&(match(ops[j]?).bind (·.dst)with
    |some d=>Nat.blt d C.N&&fm C σ (.tmp d) x
    |none=>false)
  |_,_=>false
def nX(C:Cx)(d:Option Nat)(s:Option Nat):Bool:=
  match d,s with
  |none,none=>true
  |some d,none=> !C.vars.contains d&&Nat.blt d C.N
  |some d,some e=>Nat.beq d e&&C.vars.contains d&&Nat.blt d C.N
  |none,some _=>false
def after(σ:Sg)(d:Option Nat)(s:Option Nat):Sg:=
  match d,s with
  |none,_=>sr σ
  |some d,none=>(d,.l 0)::sr σ
  |some d,some _=>mX d σ
/-- a move that only gives a value another name -/
def mR(C:Cx)(σ:Sg)(ops:Array Oper)(o:Oper):Option (Nat×Src):=
  match o.op,o.guard,o.dst with
  |.move x,none,some d=>
    if !C.vars.contains d&&Nat.blt d C.N then
      match x with
      |.tmp t=>
        match bT σ t with
        |some (.v s)=>if ops.any (fun p=>p.dst==some s)then none else some (d,.v s)
        |some s=>some (d,s)
        |none=>if C.vars.contains t&& !ops.any (fun p=>p.dst==some t)then some (d,.v t)else none
      |x=>some (d,.x x)
    else none
  |_,_,_=>none
/-- without what the slot of the deferred call stood for -/
def qI(σ:Sg):Sg:=mX DSL σ
def cW(P:Program)(C:Cx)(ops:Array Oper):List Oper→List IStep→Sg→Bool
  |[],[],_=>true
  |[],_::_,_=>false
  |o::os,steps,σ=>
    match mR C σ ops o with
    |some p=>cW P C ops os steps (p::σ)
    |none=>match steps with
      |[]=>false
      |s::rest=>sq C σ ops o.guard s.gd&&fE P C σ o s.op&&nX C o.dst s.dst&&cW P C ops os rest (after σ o.dst s.dst)||(wV C σ o s&&cW P C ops os rest (qI σ))
def Glob(K:LG→Prop)(G:Nat)(m:M):Prop:=(∀g,g<G→∃r,m g=some ⟨g,0,r,none⟩)∧∀p loc g,m p=some loc→loc.lp=some g→K g
theorem Glob.ext{K:LG→Prop}{G:Nat}{m m':M}{h h':Heap}{w w':World}(a:Glob K G m)(E:Ext m h w m' h' w'):Glob K G m':=
  ⟨fun g hg=>let⟨r,hr⟩:=a.1 g hg;⟨r,E.le _ _ hr⟩,fun p loc g hp hl=>by
    cases h0:m p with
    |some l0=>
      have:=E.le _ _ h0;rw[hp]at this;cases this;exact a.2 p loc g h0 hl
    |none=>rw[E.lps p loc hp h0]at hl;cases hl⟩
variable {K : LG → Prop}
def Inv(G:Nat)(m:M)(loc:List V)(env:T V)(a:Act)(σ:Sg):Prop:=
  ∀t s,bT σ t=some s→∀y v,aW G s y=true→evO loc env y=some v→VRel m v (a.tmps.getD t undef)
def ERel(C:Cx)(m:M)(env:T V)(a:Act):Prop:=
  a.tmps.size=C.N∧(∀s v,env.get s=some v→s=DSL∨(C.vars.contains s=true∧VRel m v (a.tmps.getD s undef)))∧C.vars.contains DSL=false
theorem ERel.var{C:Cx}{m:M}{env:T V}{a:Act}(hE:ERel C m env a){s:Nat}{v:V}(hc:C.vars.contains s=true)(e:env.get s=some v):VRel m v (a.tmps.getD s undef):=by
  rcases hE.2.1 s v e with q|q
  ·rw[q,hE.2.2]at hc;cases hc
  ·exact q.2
theorem hJ{G:Nat}{m:M}{o:Operand}{y:Opd}{loc:List V}{env:T V}{v:V}{a:Act}(hG:Glob K G m)(h:iB G o y=true)(e:evO loc env y=some v):VRel m v (a.eval o):=by
  unfold iB at h;split at h
  ·cases e;exact ms m _ _ h
  ·cases e;simp only[Bool.and_eq_true,Nat.blt_eq]at h;have:=Nat.eq_of_beq_eq_true h.1;subst this;obtain⟨r,hr⟩:=hG.1 _ h.2;exact⟨_,hr,rfl⟩
  ·cases e;have:=Nat.eq_of_beq_eq_true h;subst this;exact⟨[],[],rfl,rfl,rfl⟩
  ·cases h
theorem cO{C:Cx}{m:M}{σ:Sg}{o:Operand}{y:Opd}{loc:List V}{env:T V}{v:V}{a:Act}(hG:Glob K C.G m)(hI:Inv C.G m loc env a σ)(hE:ERel C m env a)
    (h:fm C σ o y=true) (e:evO loc env y=some v):VRel m v (a.eval o):=by
  unfold fm at h;split at h
  ·rename_i t;split at h
   ·rename_i s hs;exact hI t s hs y v h e
   ·split at h
    ·rename_i s;simp only[Bool.and_eq_true]at h;have:=Nat.eq_of_beq_eq_true h.1;subst this;exact hE.var h.2 e
    ·cases h
  ·exact hJ hG h e
theorem aS(loc:List V)(env:T V)(x:Opd)(xs:List Opd):aN loc env (x::xs)=match evO loc env x with
    |some v=>(match aN loc env xs with|some vs=>some (v::vs)|none=>none)
    |none=>none:=by
  show Option.rec (motive:=fun _=>Option (List V)) none (fun v=>Option.rec (motive:=fun _=>Option (List V)) none (fun vs=>some (v::vs)) (aN loc env xs)) (evO loc env x)=_;cases evO loc env x with
  |none=>rfl
  |some v=>cases aN loc env xs<;>rfl
/-- the operands' values are those of the model's -/
def sK(C:Cx)(m:M)(σ:Sg)(loc:List V)(env:T V)(a:Act):Prop:=∀(o:Operand)(y:Opd)(v:V),fm C σ o y=true→evO loc env y=some v→VRel m v (a.eval o)
theorem ax{C:Cx}{m:M}{σ:Sg}{loc:List V}{env:T V}{a:Act}(hO:sK C m σ loc env a):
    ∀(os:List Operand)(ys:List Opd)(vs:List V),aD C σ os ys=true→aN loc env ys=some vs→VsRel m vs (os.map a.eval)
  |[],[],vs,_,e=>by cases e;rfl
  |[],_::_,_,h,_=>by simp[aD]at h
  |_::_,[],_,h,_=>by simp[aD]at h
  |o::os,y::ys,vs,h,e=>by
    simp only[aD,Bool.and_eq_true]at h;rw[aS]at e;cases h1:evO loc env y with
    |none=>rw[h1]at e;cases e
    |some v=>
      rw[h1]at e;cases h2:aN loc env ys with
      |none=>rw[h2]at e;cases e
      |some ws=>
        rw[h2]at e;cases e;exact⟨_,_,rfl,hO _ _ _ h.1 h1,ax hO os ys ws h.2 h2⟩
theorem jQ{loc:List V}{env:T V}{x:Opd}{v:V}(h:evO loc env x=some v):aN loc env [x]=some [v]:=by
  rw[aS,h];rfl
theorem nP{loc:List V}{env:T V}{x y:Opd}{v u:V}(h:evO loc env x=some v)(k:evO loc env y=some u):aN loc env [x,y]=some [v,u]:=by
  rw[aS,h,jQ k]
/-- how a call, or a round, ends -/
def eA(m:M)(h:Heap)(w:World)(v:V)(h':Heap):Ending→World→Prop:=fun e w'=>∃x m',e=.returned x∧VRel m' v x∧HRel m' h' w'∧Ext m h w m' h' w'
abbrev FR(ro:Option Nat):Fence:={Fence.wide with round:=ro}
/-- what is known of the calls -/
def aL(P:Program)(K:LG→Prop)(G:Nat)(call:ai):Prop:=∀f vs h v h',call f vs h=some (v,h')→
  (f<YB→(∃fn,P.funcs[f]? =some fn∧fn.body.isSome=true∧(fn.name== "runtime.NumGoroutine")=false)∧
    ∀m w (args:List Value),VsRel m vs args→HRel m h w→Glob K G m→
      Calls P f (List.toArray args) w (eA m h w v h')∧∀u,CallsDIn Fence.wide 0 P f (List.toArray args) u w (fun e u' w'=>u'=u∧eA m h w v h' e w'))∧
  (YB≤f→∀m w (args:List Value) loc,m (f-YB)=some loc→VsRel m vs args→HRel m h w→Glob K G m→
    ∃r:Loop,w.heap[loc.block]? =some (.loop r)∧args.length=r.params.size∧
      RoundIn Fence.wide 0 P loc.block r.fn ((r.params.zip (List.toArray args)).foldl (fun tmps (t,a)=>tmps.setIfInBounds t a) r.tmps) r.assign r.body w (eA m h w v h'))
theorem cM{P:Program}{w:World}{f:FuncId}{args:Array Value}(h:∃fn,P.funcs[f]? =some fn∧fn.body.isSome=true∧(fn.name== "runtime.NumGoroutine")=false):
    (callFunc f args).run P w=.ok (.enter f args) w:=by
  obtain⟨fn,hf,hb,hn⟩:=h;have hb':fn.body.isNone=false:=by cases hh:fn.body<;>simp_all
  simp only[callFunc,Sem.run_bind,run_program,Result.andThen_ok,hf,hn,hb',Bool.false_eq_true,if_false,Sem.run_pure]
/-- one operation: what follows it -/
theorem jA{P:Program}{C:Cx}{call:ai}(hcall:aL P K C.G call){m:M}{h h':Heap}{w:World}{σ:Sg}{loc:List V}{env:T V}{a:Act}{o:Oper}{i:IOp}{v:V}
    (hG:Glob K C.G m) (hO:sK C m σ loc env a) (H:HRel m h w) (hc:fE P C σ o i=true) (e:aq call loc env h i=some (v,h')) {K0:Act→World→Prop} {Q:Exit→Act→World→Prop}
    (hK:∀x w' m',VRel m' v x→HRel m' h' w'→Ext m h w m' h' w'→K0 (a.put o.dst x) w') {ro:Option Nat}:o.wpIn (FR ro) 0 P a w K0 Q:=by
  unfold fE at hc;simp only[Bool.and_eq_true]at hc;obtain⟨hnd,hc⟩:=hc;have hsem:o.semAt ro a.eval=execOp a.eval o:=Oper.semAt_eq ro a.eval o (fun c hcc=>by rw[hcc]at hnd;cases hnd);have fin:MS P m h w o a.eval v h'→o.wpIn (FR ro) 0 P a w K0 Q:=by
    rintro⟨x,w',m',hg,r,H',E'⟩;refine⟨fun _ _=>trivial,?_⟩;show o.uponIn (FR ro) 0 P a K0 Q ((o.semAt ro a.eval).run P w);rw[hsem];rcases hg with hg|⟨hg,rfl⟩
    ·rw[hg];exact hK x w' m' r H' E'
    ·rw[hg];exact hK undef w' m' r H' E'
  have entered:∀{f:Nat}{args:List Value},(execOp a.eval o).run P w=.ok (.enter f (List.toArray args)) w→Calls P f (List.toArray args) w (eA m h w v h')→o.wpIn (FR ro) 0 P a w K0 Q:=by
    intro f args hr hcl;refine⟨fun _ _=>trivial,?_⟩;show o.uponIn (FR ro) 0 P a K0 Q ((o.semAt ro a.eval).run P w);rw[hsem,hr];have hcl2:CallsIn Fence.wide 0 P f (List.toArray args) w (eA m h w v h'):=callsIn_wide.2 hcl;refine⟨fun q=>absurd q (by simp[Fence.wide]),CallsIn.mono (F:=FR ro) (n:=0) hcl2 ?_⟩;rintro en w' ⟨x,m',rfl,r,H',E'⟩;exact hK x w' m' r H' E'
  have one:∀x u,aD C σ o.op.operands.toList [x]=true→evO loc env x=some u→VsRel m [u] (OV a.eval o.op):=fun x u h1 h2=>ax hO _ _ _ h1 (jQ h2);have two:∀x y u t,aD C σ o.op.operands.toList [x,y]=true→evO loc env x=some u→evO loc env y=some t→VsRel m [u,t] (OV a.eval o.op):=fun x y u t h1 h2 h3=>ax hO _ _ _ h1 (nP h2 h3);unfold aq at e;split at e
  ·rename_i k xs;simp only[aF,Bool.and_eq_true]at hc;split at e
   ·rename_i vs hvs;split at e
    ·rename_i u hu;cases e;exact fin (oV H (uI hc.1 (ax hO _ _ _ hc.2 hvs) hu))
    ·cases e
   ·cases e
  ·rename_i n ia x;simp only[aF,Bool.and_eq_true]at hc;split at e
   ·rename_i u hu;split at e
    ·rename_i t ht;cases e;obtain⟨x,r,hr⟩:=oI (P:=P) H hc.1 (one _ _ hc.2 hu) ht;exact fin ⟨x,w,m,.inl hr,r,H,Ext.refl _ _ _⟩
    ·cases e
   ·cases e
  ·rename_i n x y;simp only[aF,Bool.and_eq_true]at hc;split at e
   ·rename_i p hp;split at e
    ·rename_i u hu;split at e
     ·rename_i h2 hh2;cases e;exact fin (mQ H hc.1 (two _ _ _ _ hc.2 hp hu) hh2)
     ·cases e
    ·cases e
   ·cases e
  ·cases e;simp only[aF]at hc;exact fin (mU H hc)
  ·simp only[aF,Bool.and_eq_true]at hc;split at e
   ·rename_i u hu;cases e;exact fin (qc H hc.1 (one _ _ hc.2 hu))
   ·cases e
  ·simp only[aF,Bool.and_eq_true]at hc;split at e
   ·rename_i vs hvs;exact fin (kN H hc.1 (ax hO _ _ _ hc.2 hvs) e)
   ·cases e
  ·simp only[aF,Bool.and_eq_true]at hc;split at e
   ·rename_i p hp;split at e
    ·rename_i u hu;exact fin (oF H hc.1 (two _ _ _ _ hc.2 hp hu) e)
    ·cases e
   ·cases e
  ·simp only[aF,Bool.and_eq_true]at hc;split at e
   ·rename_i p hp;split at e
    ·rename_i u hu;exact fin (qe H hc.1 (two _ _ _ _ hc.2 hp hu) e)
    ·cases e
   ·cases e
  ·simp only[aF,Bool.and_eq_true]at hc;split at e
   ·rename_i p hp;split at e
    ·rename_i u hu;exact fin (oL H hc.1 (two _ _ _ _ hc.2 hp hu) e)
    ·cases e
   ·cases e
  ·rename_i f xs;simp only[aF]at hc;split at hc
   ·rename_i f' args ts hy;simp only[Bool.and_eq_true,Nat.blt_eq]at hc;have:=Nat.eq_of_beq_eq_true hc.1.1;subst this;split at e
    ·rename_i vs hvs;have hv:=ax hO _ _ _ hc.1.2 hvs;obtain⟨hf,hcl⟩:=(hcall f vs h v h' e).1 hc.2;have hr:(execOp a.eval o).run P w=.ok (.enter f (List.toArray (args.toList.map a.eval))) w:=by
       have q:args.map a.eval=List.toArray (args.toList.map a.eval):=Array.ext' (by simp);simp only[execOp,hy,resolve,Act.eval,Deferred.ofValue,Sem.run_bind,Sem.run_pure,Result.andThen_ok,invoke];rw[show((#[]:Array Value)++args.map a.eval++(#[]:Array Value))=List.toArray (args.toList.map a.eval) by simp[q]];exact cM hf
     exact entered hr (hcl m w _ hv H hG).1
    ·cases e
   ·cases hc
  ·rename_i x xs;simp only[aF]at hc;split at hc
   ·rename_i y args ts hy;simp only[Bool.and_eq_true]at hc;split at e
    ·rename_i f first caps hx
     split at e
     ·rename_i vs hvs;have hv:=ax hO _ _ _ hc.2 hvs;have hfx:=hO _ _ _ hc.1 hx;obtain⟨f',c',hfe,rf,rc⟩:=hfx;cases hlt:Nat.blt f YB
      ·rw[hlt]at e;cases e
      ·rw[hlt]at e;simp only[cond_true]at e;obtain⟨hf,hcl⟩:=(hcall f _ h v h' e).1 ((Nat.blt_eq ..).mp hlt);have hr:(execOp a.eval o).run P w=.ok (.enter f (List.toArray (f'++args.toList.map a.eval++c'))) w:=by
         have q:args.map a.eval=List.toArray (args.toList.map a.eval):=Array.ext' (by simp);simp only[execOp,hy,resolve,hfe,Deferred.ofValue,Sem.run_bind,Sem.run_pure,Result.andThen_ok,invoke];rw[show(List.toArray f'++args.map a.eval++List.toArray c')=List.toArray (f'++args.toList.map a.eval++c') by simp[q]];exact cM hf
       exact entered hr (hcl m w _ (VsRel.append (VsRel.append rf hv) rc) H hG).1
     ·cases e
    ·rename_i b hx;split at e
     ·rename_i vs hvs;have hv:=ax hO _ _ _ hc.2 hvs;obtain⟨loc,hm,hfe⟩:=hO _ _ _ hc.1 hx;obtain⟨r,hr1,hr2,hr3⟩:=(hcall _ vs h v h' e).2 (Nat.le_add_right _ _) m w _ loc (by rw[Nat.add_sub_cancel_left];exact hm) hv H hG;refine⟨fun _ _=>trivial,?_⟩;show o.uponIn (FR ro) 0 P a K0 Q ((o.semAt ro a.eval).run P w);rw[hsem];have hr:(execOp a.eval o).run P w=.ok (.round loc.block r.fn ((r.params.zip (List.toArray (args.toList.map a.eval))).foldl (fun tmps (t,a)=>tmps.setIfInBounds t a) r.tmps) r.assign r.body) w:=by
        have q:args.map a.eval=List.toArray (args.toList.map a.eval):=Array.ext' (by simp);simp only[execOp,hy,resolve,hfe,Deferred.ofValue,Sem.run_bind,Sem.run_pure,Result.andThen_ok,invoke];rw[show((#[]:Array Value)++args.map a.eval)=List.toArray (args.toList.map a.eval) by simp[q]];exact run_yield hr1 (by simpa using hr2)
      rw[hr];refine⟨fun q=>absurd q (by simp[Fence.wide]),RoundIn.mono hr3 ?_⟩;rintro en w' ⟨x,m',rfl,r,H',E'⟩;exact hK x w' m' r H' E'
     ·cases e
    ·cases e
   ·cases hc
  ·simp only[aF,Bool.and_eq_true]at hc;split at e
   ·rename_i vs hvs;exact fin (sA H hc.1 (ax hO _ _ _ hc.2 hvs) e)
   ·cases e
  ·simp only[aF,Bool.and_eq_true]at hc;split at e
   ·rename_i x key hvs;split at e
    ·rename_i u hu;cases e;exact fin (sD H hc.1 (ax hO _ _ _ hc.2 hvs) hu)
    ·cases e
   ·cases e
  ·simp only[aF,Bool.and_eq_true]at hc;split at e
   ·rename_i x key val hvs;exact fin (sx H hc.1 (ax hO _ _ _ hc.2 hvs) e)
   ·cases e
  ·simp only[aF,Bool.and_eq_true]at hc;split at e
   ·rename_i d hd;exact fin (p9 H hc.1 (one _ _ hc.2 hd) e)
   ·cases e
  ·simp only[aF,Bool.and_eq_true]at hc;split at e
   ·rename_i d hd;split at e
    ·rename_i u hu;cases e;exact fin (qd H hc.1 (one _ _ hc.2 hd) hu)
    ·cases e
   ·cases e
  ·simp only[aF,Bool.false_eq_true]at hc
  ·simp only[aF,Bool.and_eq_true]at hc;split at e
   ·rename_i d hd;exact fin (sE H hc.1 (one _ _ hc.2 hd) e)
   ·cases e
  ·simp only[aF,Bool.and_eq_true]at hc;split at e
   ·rename_i vs hvs;exact fin (sB H hc.1 (ax hO _ _ _ hc.2 hvs) e)
   ·cases e
  ·simp only[aF,Bool.and_eq_true]at hc;split at e
   ·rename_i v bs hvs;split at e
    ·rename_i u hu;cases e;exact fin (pZ H hc.1 (ax hO _ _ _ hc.2 hvs) hu)
    ·cases e
   ·cases e
  ·cases e
variable {K : LG → Prop}
theorem rS(σ:Sg)(t:Nat):bT (sr σ) t=(bT σ t).map j8:=by
  induction σ with
  |nil=>rfl
  |cons p r ih=>
    obtain⟨d,s⟩:=p;simp only[sr,bT];by_cases h:d=t
    ·rw[if_pos h,if_pos h];rfl
    ·rw[if_neg h,if_neg h];exact ih
theorem jF(d:Nat)(σ:Sg)(t:Nat):bT (mX d σ) t=(bT σ t).map (fK d t):=by
  induction σ with
  |nil=>rfl
  |cons p r ih=>
    obtain⟨e,s⟩:=p;simp only[mX,bT];by_cases h:e=t
    ·subst h;rw[if_pos rfl,if_pos rfl];rfl
    ·rw[if_neg h,if_neg h];exact ih
theorem bZ(a:Act)(d:Nat)(x:Value)(t:Nat)(hd:d<a.tmps.size):(a.put (some d) x).tmps.getD t undef=if t=d then x else a.tmps.getD t undef:=by
  simp only[Act.put,Array.getD_eq_getD_getElem?];by_cases h:t=d
  ·subst h;rw[if_pos rfl];simp[hd]
  ·rw[if_neg h,Array.getElem?_setIfInBounds_ne (by omega)]
theorem gy(a:Act)(d:Option Nat)(x:Value):(a.put d x).tmps.size=a.tmps.size:=by
  cases d<;>simp[Act.put]
theorem tZ{G:Nat}{s:Src}{y:Opd}{loc:List V}{env:T V}{u v:V}(h:aW G (j8 s) y=true)(e:evO (u::loc) env y=some v):
    ∃y',aW G s y'=true∧evO loc env y'=some v:=by
  cases s with
  |l k=>
    simp only[j8]at h;cases y with
    |l j=>
      simp only[aW]at h;have:=Nat.eq_of_beq_eq_true h;subst this;exact⟨.l k,by simp[aW],e⟩
    |_=>simp[aW]at h
  |v s=>
    refine⟨y,h,?_⟩;simp only[j8]at h;cases y<;>simp[aW]at h;exact e
  |x o=>
    refine⟨y,h,?_⟩;simp only[j8,aW]at h;cases y with
    |l k=>cases o<;>simp[iB]at h
    |v s=>cases o<;>simp[iB]at h
    |c x=>exact e
    |g n=>exact e
  |bad=>simp[j8,aW]at h
theorem lN{G:Nat}{d t:Nat}{s:Src}{y:Opd}{loc:List V}{env:T V}{u v:V}(h:aW G (fK d t s) y=true)(e:evO loc (env.set d u) y=some v):
    t≠d∧aW G s y=true∧evO loc env y=some v:=by
  cases s with
  |l k=>
    simp only[fK]at h;by_cases c:t=d
    ·rw[if_pos c]at h;simp[aW]at h
    ·rw[if_neg c]at h;refine⟨c,h,?_⟩;cases y<;>simp[aW]at h;exact e
  |v s=>
    simp only[fK]at h;by_cases c:t=d∨s=d
    ·rw[if_pos c]at h;simp[aW]at h
    ·rw[if_neg c]at h;refine⟨fun q=>c (.inl q),h,?_⟩;cases y<;>simp[aW]at h;subst h;show env.get s=some v;rw[←T.get_set_ne env u (fun q=>c (.inr q))];exact e
  |x o=>
    simp only[fK]at h;by_cases c:t=d
    ·rw[if_pos c]at h;simp[aW]at h
    ·rw[if_neg c]at h;refine⟨c,h,?_⟩;simp only[aW]at h;cases y with
     |l k=>cases o<;>simp[iB]at h
     |v s=>cases o<;>simp[iB]at h
     |c x=>exact e
     |g n=>exact e
  |bad=>
    simp only[fK]at h;by_cases c:t=d<;>simp[c,aW]at h
/-- the values and the variables behind a step -/
def eu(loc:List V)(v:V):Option Nat→List V
  |none=>v::loc
  |some _=>loc
noncomputable def cL(env:T V)(v:V):Option Nat→T V
  |none=>env
  |some d=>env.set d v
theorem iJ{C:Cx}{m m':M}(hle:Le m m'){loc:List V}{env:T V}{a:Act}{σ:Sg}(hI:Inv C.G m loc env a σ)(hE:ERel C m env a){d s:Option Nat}(hd:nX C d s=true)
    {v:V} {x:Value} (r:VRel m' v x):Inv C.G m' (eu loc v s) (cL env v s) (a.put d x) (after σ d s)∧ERel C m' (cL env v s) (a.put d x):=by
  have bumpI:∀t s',bT (sr σ) t=some s'→∀y u,aW C.G s' y=true→evO (v::loc) env y=some u→VRel m' u (a.tmps.getD t undef):=by
    intro t s' hs y u hy he;rw[rS]at hs;cases hl:bT σ t with
    |none=>rw[hl]at hs;cases hs
    |some s0=>
      rw[hl]at hs;cases hs;obtain⟨y',h1,h2⟩:=tZ hy he;exact VRel.mono hle _ _ (hI t s0 hl y' u h1 h2)
  unfold nX at hd;split at hd
  ·refine⟨bumpI,hE.1,fun s u hs=>(hE.2.1 s u hs).imp id fun q=>⟨q.1,VRel.mono hle _ _ q.2⟩,hE.2.2⟩
  ·rename_i d;simp only[Bool.and_eq_true,Bool.not_eq_true',Nat.blt_eq]at hd;have hlt:d<a.tmps.size:=by rw[hE.1];exact hd.2
   refine⟨?_,by rw[gy];exact hE.1,fun s u hs=>?_,hE.2.2⟩
   ·intro t s' hs y u hy he;simp only[after,bT]at hs;rw[bZ a d x t hlt];by_cases c:d=t
    ·rw[if_pos c]at hs;cases hs;rw[if_pos c.symm];cases y<;>simp[aW]at hy;subst hy;cases he;exact r
    ·rw[if_neg c]at hs;rw[if_neg (Ne.symm c)];exact bumpI t s' hs y u hy he
   ·rcases hE.2.1 s u hs with q|⟨h1,h2⟩
    ·exact .inl q
    refine .inr ⟨h1,?_⟩;rw[bZ a d x s hlt,if_neg (by intro q;subst q;rw[h1]at hd;simp at hd)];exact VRel.mono hle _ _ h2
  ·rename_i d e;simp only[Bool.and_eq_true,Nat.blt_eq]at hd;have:=Nat.eq_of_beq_eq_true hd.1.1;subst this;have hlt:d<a.tmps.size:=by rw[hE.1];exact hd.2
   refine⟨?_,by rw[gy];exact hE.1,fun s u hs=>?_,hE.2.2⟩
   ·intro t s' hs y u hy he;simp only[after]at hs;rw[jF]at hs;cases hl:bT σ t with
    |none=>rw[hl]at hs;cases hs
    |some s0=>
      rw[hl]at hs;cases hs;obtain⟨hne,h1,h2⟩:=lN hy he;rw[bZ a d x t hlt,if_neg hne];exact VRel.mono hle _ _ (hI t s0 hl y u h1 h2)
   ·simp only[cL]at hs;rw[T.get_set]at hs;rw[bZ a d x s hlt];by_cases c:s=d
    ·rw[if_pos c]at hs;cases hs;rw[if_pos c];subst c;exact .inr ⟨hd.1.2,r⟩
    ·rw[if_neg c]at hs;rw[if_neg c];exact(hE.2.1 s u hs).imp id fun q=>⟨q.1,VRel.mono hle _ _ q.2⟩
  ·cases hd
theorem nK{C:Cx}{m:M}{loc:List V}{env:T V}{a:Act}{σ:Sg}{ops:Array Oper}(hG:Glob K C.G m)(hI:Inv C.G m loc env a σ)(hE:ERel C m env a){o:Oper}{s:Option (Opd×Bool)}
    (hc:sq C σ ops o.guard s=true) {b:Bool} (e:evG loc env s=some b):Region.wanted o (yielded ops a.tmps)=b:=by
  unfold Region.wanted;unfold sq at hc;split at hc
  ·rename_i hg;rw[hg];cases e;rfl
  ·rename_i j want x want' hg;rw[hg];simp only[Bool.and_eq_true,beq_iff_eq]at hc;obtain⟨rfl,hc⟩:=hc;split at hc
   ·rename_i d hd;simp only[Bool.and_eq_true,Nat.blt_eq]at hc;unfold evG at e;simp only[]at e;split at e
    ·rename_i c hx;cases e;have hr:=cO hG hI hE hc.2 hx;simp only[VRel,Act.eval]at hr;have hlt:d<a.tmps.size:=by rw[hE.1];exact hc.1
     have:a.tmps[d]? =some (.bool c):=by
       rw[Array.getD_eq_getD_getElem?,Array.getElem?_eq_getElem hlt]at hr;rw[Array.getElem?_eq_getElem hlt];simpa using hr
     simp only[yielded,hd,Option.bind_some,this];cases c<;>cases want<;>rfl
    ·rename_i c hx;cases e;have hr:=cO hG hI hE hc.2 hx;simp only[VRel,Act.eval]at hr;obtain⟨c',hr,_⟩:=hr;have hlt:d<a.tmps.size:=by rw[hE.1];exact hc.1
     have:a.tmps[d]? =some (.tuple c'.toArray):=by
       rw[Array.getD_eq_getD_getElem?,Array.getElem?_eq_getElem hlt]at hr;rw[Array.getElem?_eq_getElem hlt];simpa using hr
     simp only[yielded,hd,Option.bind_some,this];cases want<;>rfl
    ·cases e
   ·cases hc
  ·cases hc
theorem oJ{C:Cx}{m:M}{loc:List V}{env:T V}{a:Act}{σ:Sg}{ops:Array Oper}(hG:Glob K C.G m)(hI:Inv C.G m loc env a σ)(hE:ERel C m env a){o:Oper}{p:Nat×Src}
    (h:mR C σ ops o=some p):∃x,o.op=.move x∧o.guard=none∧o.dst=some p.1∧Inv C.G m loc env (a.put o.dst (a.eval x)) (p::σ)∧ERel C m env (a.put o.dst (a.eval x)):=by
  unfold mR at h;split at h
  ·rename_i x d hop hgd hds;split at h
   ·rename_i hcd;simp only[Bool.and_eq_true,Bool.not_eq_true',Nat.blt_eq]at hcd;have hlt:d<a.tmps.size:=by rw[hE.1];exact hcd.2
    have hE':ERel C m env (a.put (some d) (a.eval x)):=by
      refine⟨by rw[gy];exact hE.1,fun s u hs=>?_,hE.2.2⟩;rcases hE.2.1 s u hs with q|⟨h1,h2⟩
      ·exact .inl q
      refine .inr ⟨h1,?_⟩;rw[bZ a d _ s hlt,if_neg (by intro q;subst q;rw[h1]at hcd;simp at hcd)];exact h2
    have hI':∀s0:Src,(∀y v,aW C.G s0 y=true→evO loc env y=some v→VRel m v (a.eval x))→Inv C.G m loc env (a.put (some d) (a.eval x)) ((d,s0)::σ):=by
      intro s0 hs0 t s' hs y u hy he;simp only[bT]at hs;rw[bZ a d _ t hlt];by_cases c:d=t
      ·rw[if_pos c]at hs;cases hs;rw[if_pos c.symm];exact hs0 y u hy he
      ·rw[if_neg c]at hs;rw[if_neg (Ne.symm c)];exact hI t s' hs y u hy he
    split at h
    ·rename_i t;split at h
     ·rename_i s hl;split at h
      ·cases h
      ·cases h;exact⟨_,hop,hgd,hds,by rw[hds];exact hI' _ (fun y v hy he=>hI t _ hl y v hy he),by rw[hds];exact hE'⟩
     ·rename_i s hl;cases h;exact⟨_,hop,hgd,hds,by rw[hds];exact hI' _ (fun y v hy he=>hI t _ hl y v hy he),by rw[hds];exact hE'⟩
     ·rename_i hl;split at h
      ·cases h;have key:∀y v,aW C.G (.v t) y=true→evO loc env y=some v→VRel m v (a.eval (.tmp t)):=by
         intro y v hy he;cases y<;>simp[aW]at hy;subst hy;rename_i hcc;simp only[Bool.and_eq_true]at hcc;exact hE.var hcc.1 he
       exact⟨_,hop,hgd,hds,by rw[hds];exact hI' _ key,by rw[hds];exact hE'⟩
      ·cases h
    ·cases h;exact⟨_,hop,hgd,hds,by rw[hds];exact hI' _ (fun y v hy he=>hJ hG hy he),by rw[hds];exact hE'⟩
   ·cases h
  ·cases h
theorem dV(a:Act)(d:Option Nat)(x:Value):(a.put d x).defers=a.defers:=by cases d<;>rfl
theorem aJ(call:ai)(s:IStep)(l:List IStep)(loc:List V)(env:T V)(h:Heap):bh call (s::l) loc env h=
    match evG loc env s.gd with
      |some true=>(match aq call loc env h s.op with
        |some (v,h)=>bh call l (eu loc v s.dst) (cL env v s.dst) h
        |none=>.fail)
      |some false=>bh call l (eu loc (.tup []) s.dst) (cL env (.tup []) s.dst) h
      |none=>.fail:=by
  show(match evG loc env s.gd with
      |some true=>(match aq call loc env h s.op with
        |some (v,h)=>fV v fun v=>(match s.dst with
          |none=>bh call l (v::loc) env h
          |some d=>bh call l loc (env.set d v) h)
        |none=>.fail)
      |some false=>(match s.dst with
        |none=>bh call l (.tup []::loc) env h
        |some d=>bh call l loc (env.set d (.tup [])) h)
      |none=>.fail)=_
  cases evG loc env s.gd with
  |none=>rfl
  |some b=>
    cases b
    ·cases s.dst<;>rfl
    ·simp only[];cases aq call loc env h s.op with
     |none=>rfl
     |some p=>
       obtain⟨v,h'⟩:=p;simp only[iv];cases s.dst<;>rfl
/-- a deferred call -/
def DefR(m:M)(v:V)(d:Deferred):Prop:=∃f first caps args A C',v=.tup (.func (.func f) first caps::args)∧f<YB∧
  d={target:=.fn (.func f) (List.toArray C'),args:=List.toArray A}∧VsRel m (first++args) A∧VsRel m caps C'
/-- the deferred calls of a function: marks, and at most one call -/
def DsR(C:Cx)(B:Nat)(m:M)(w:World)(env:T V)(ds:List Deferred):Prop:=
  match C.df,env.get DSL with
  |true,some v=>∃d1 d d2,ds=d1++d::d2∧DefR m v d∧Marks B m w (d1++d2)
  |_,_=>Marks B m w ds
theorem DefR.mono{m m':M}(l:Le m m'){v:V}{d:Deferred}:DefR m v d→DefR m' v d
  |⟨f,first,caps,args,A,C',h1,h2,h3,h4,h5⟩=>⟨f,first,caps,args,A,C',h1,h2,h3,VsRel.mono l _ _ h4,VsRel.mono l _ _ h5⟩
theorem DsR.ext{C:Cx}{B:Nat}{m m':M}{h h':Heap}{w w':World}(E:Ext m h w m' h' w'){env:T V}{ds:List Deferred}(D:DsR C B m w env ds):DsR C B m' w' env ds:=by
  unfold DsR at *;split
  ·rename_i v h1 h2;rw[h1,h2]at D;obtain⟨d1,d,d2,q1,q2,q3⟩:=D;exact⟨d1,d,d2,q1,q2.mono E.le,q3.ext E⟩
  ·rename_i hn;split at D
   ·rename_i v h1 h2;exact absurd h2 (hn v h1)
   ·exact Marks.ext E D
theorem DsR.congr{C:Cx}{B:Nat}{m:M}{w:World}{env env':T V}{ds:List Deferred}(e:env'.get DSL=env.get DSL)(D:DsR C B m w env ds):DsR C B m w env' ds:=by
  unfold DsR at *;rw[e];exact D
theorem DsR.push{C:Cx}{B:Nat}{m:M}{w:World}{env:T V}{ds:List Deferred}(D:DsR C B m w env ds){r:Nat}(h1:B≤r)(h2:w.heap[r]? =some (.deferred (some [])))(h3:Off m r)(h4:∀d∈ds,d.target≠.collected r):
    DsR C B m w env ({target:=.collected r,args:= #[]}::ds):=by
  unfold DsR at *;split
  ·rename_i v e1 e2;rw[e1,e2]at D;obtain⟨d1,d,d2,q1,q2,q3⟩:=D;refine⟨{target:=.collected r,args:= #[]}::d1,d,d2,by rw[q1];rfl,q2,⟨r,rfl,h1,h2,h3,fun d' hd=>h4 d' ?_⟩,q3⟩;rw[q1];have hd:d'∈d1++d2:=hd;rw[List.mem_append]at hd;rw[List.mem_append,List.mem_cons];rcases hd with q|q
   ·exact .inl q
   ·exact .inr (.inr q)
  ·rename_i hn;split at D
   ·rename_i v e1 e2;exact absurd e2 (hn v e1)
   ·exact⟨⟨r,rfl,h1,h2,h3,h4⟩,D⟩
theorem nY{C:Cx}{m:M}{env:T V}{a:Act}(hE:ERel C m env a){d s:Option Nat}(hd:nX C d s=true)(v:V):(cL env v s).get DSL=env.get DSL:=by
  cases s with
  |none=>rfl
  |some t=>
    cases d with
    |none=>cases hd
    |some d=>
      simp only[nX,Bool.and_eq_true]at hd;have:=Nat.eq_of_beq_eq_true hd.1.1;subst this;simp only[cL];rw[T.get_set_ne];intro q;rw[←q,hE.2.2]at hd;simp at hd
theorem m8{P:Program}{C:Cx}{call:ai}(hcall:aL P K C.G call){ops:Array Oper}{Q:Exit→Act→World→Prop}{ro:Option Nat}{B:Nat}(hro:C.df=true→ro=none):
    ∀(os:List Oper)(i:Nat)(steps:List IStep)(σ:Sg)(loc:List V)(env:T V)(h:Heap)(m:M)(a:Act)(w:World)(ex:Ex)(env':T V)(h':Heap),
      ops.toList.drop i=os→cW P C ops os steps σ=true→Glob K C.G m→Inv C.G m loc env a σ→ERel C m env a→HRel m h w→DsR C B m w env a.defers→
      bh call steps loc env h=.ok ex env' h'→
      (∀a' w' m',ex=.norm→ERel C m' env' a'→HRel m' h' w'→Ext m h w m' h' w'→DsR C B m' w' env' a'.defers→Q .normal a' w')→
      wpOpsIn (FR ro) 0 P ops Q (List.range' i os.length) a w:=by
  intro os;induction os with
  |nil=>
    intro i steps σ loc env h m a w ex env' h' hdrop hchk hG hI hE H hD e hQ;cases steps with
    |nil=>
      cases e;exact hQ a w m rfl hE H (Ext.refl _ _ _) hD
    |cons s l=>simp[cW]at hchk
  |cons o os ih=>
    intro i steps σ loc env h m a w ex env' h' hdrop hchk hG hI hE H hD e hQ;have hoi:ops[i]? =some o:=by
      have:(ops.toList.drop i)[0]? =some o:=by rw[hdrop];rfl
      rw[List.getElem?_drop]at this;simpa using this
    have hdrop':ops.toList.drop (i+1)=os:=by
      rw[←List.drop_drop,hdrop];rfl
    simp only[List.length_cons,List.range'_succ];rw[wpOpsIn_cons];unfold wpOpIn;rw[hoi];simp only[];unfold cW at hchk;split at hchk
    ·rename_i p hal;obtain⟨x,hop,hgd,hds,hI',hE'⟩:=oJ hG hI hE hal;have hw:Region.wanted o (yielded ops a.tmps)=true:=by unfold Region.wanted;rw[hgd]
     rw[if_pos hw];refine⟨fun _ _=>trivial,?_⟩;show o.uponIn (FR ro) 0 P a _ Q ((o.semAt ro a.eval).run P w);have hr:(o.semAt ro a.eval).run P w=.ok (.value (a.eval x)) w:=by
       rw[Oper.semAt_eq ro a.eval o (fun c hcc=>by rw[hop]at hcc;cases hcc)];simp[execOp,hop]
     rw[hr];exact ih (i+1) steps (p::σ) loc env h m _ w ex env' h' hdrop' hchk hG hI' hE' H (by rw[dV];exact hD) e hQ
    ·split at hchk
     ·cases hchk
     ·rename_i s rest;simp only[Bool.or_eq_true,Bool.and_eq_true]at hchk;rw[aJ]at e;rcases hchk with⟨⟨⟨hcg,hco⟩,hcd⟩,hrest⟩|⟨hcf,hrest⟩
      ·cases hg:evG loc env s.gd with
       |none=>rw[hg]at e;cases e
       |some b=>
         rw[hg]at e;have hw:=nK hG hI hE hcg hg;cases b
         ·simp only[]at e;rw[if_neg (by rw[hw];simp)];refine⟨fun _ _=>trivial,?_⟩;obtain⟨hI',hE'⟩:=iJ (fun _ _ x=>x) hI hE hcd (v:=.tup []) (x:=undef) ⟨[],rfl,rfl⟩;exact ih (i+1) rest _ _ _ h m _ w ex env' h' hdrop' hrest hG hI' hE' H (by rw[dV];exact hD.congr (nY hE hcd _)) e hQ
         ·simp only[]at e;rw[if_pos hw];cases hop:aq call loc env h s.op with
          |none=>rw[hop]at e;cases e
          |some p=>
            obtain⟨v,h1⟩:=p;rw[hop]at e;simp only[]at e;refine jA hcall hG (fun o y v h1 h2=>cO hG hI hE h1 h2) H hco hop (fun x w' m' r H' E'=>?_);obtain⟨hI',hE'⟩:=iJ E'.le hI hE hcd r;exact ih (i+1) rest _ _ _ h1 m' _ w' ex env' h' hdrop' hrest (hG.ext E') hI' hE' H' (by rw[dV];exact(hD.ext E').congr (nY hE hcd _)) e
              (fun a' w'' m'' h1 h2 h3 h4 h5=>hQ a' w'' m'' h1 h2 h3 (E'.trans h4) h5)
      ·
       unfold wV at hcf;simp only[Bool.and_eq_true]at hcf;obtain⟨⟨⟨⟨hdf,hsd⟩,hod⟩,hgd⟩,hop⟩:=hcf;split at hop
       ·rename_i x xs hsop;split at hop
        ·rename_i y args ts hy;simp only[Bool.and_eq_true]at hop;split at hsd
         ·rename_i d hsd';have:=Nat.eq_of_beq_eq_true hsd;subst this;split at hod
          ·rename_i hod';split at hgd
           ·rename_i g1 g2;have hro':=hro hdf;subst hro';have hw:Region.wanted o (yielded ops a.tmps)=true:=by unfold Region.wanted;rw[g1]
            rw[if_pos hw];rw[g2,hsop]at e;simp only[evG,aq]at e;split at e
            ·rename_i v h1 hev;split at hev
             ·rename_i f first caps hx
              split at hev
              ·rename_i vs hvs;split at hev
               ·cases hev
               ·rename_i hnone;cases hlt:Nat.blt f YB
                ·rw[hlt]at hev;cases hev
                ·rw[hlt]at hev;simp only[cond_true,Option.some.injEq,Prod.mk.injEq]at hev;obtain⟨rfl,rfl⟩:=hev;have hO:sK C m σ loc env a:=fun o y v h1 h2=>cO hG hI hE h1 h2;have hv:=ax hO _ _ _ hop.2 hvs;obtain⟨f',c',hfe,rf,rc⟩:=hO _ _ _ hop.1 hx;refine⟨fun _ _=>trivial,?_⟩;show o.uponIn (FR none) 0 P a _ Q ((o.semAt none a.eval).run P w);have hr:(o.semAt none a.eval).run P w=.ok (.defer {target:=.fn (.func f) (List.toArray c'),args:=List.toArray (f'++args.toList.map a.eval)}) w:=by
                   have q:args.map a.eval=List.toArray (args.toList.map a.eval):=Array.ext' (by simp);rw[Oper.semAt_none];simp only[execOp,hy,resolve,hfe,Deferred.ofValue,Sem.run_bind,Sem.run_pure,Result.andThen_ok];rw[show(List.toArray f'++args.map a.eval)=List.toArray (f'++args.toList.map a.eval) by simp[q]]
                 rw[hr];show wpOpsIn (FR none) 0 P ops Q (List.range' (i+1) os.length) (Act.put _ o.dst undef) w;rw[hod',hsd']at *;have hI':Inv C.G m loc (env.set DSL (.tup (.func (.func f) first caps::vs))) {a with defers:={target:=.fn (.func f) (List.toArray c'),args:=List.toArray (f'++args.toList.map a.eval)}::a.defers} (qI σ):=by
                   intro t s' hs y u hy he;unfold qI at hs;rw[jF]at hs;cases hl:bT σ t with
                   |none=>rw[hl]at hs;cases hs
                   |some s0=>
                     rw[hl]at hs;cases hs;obtain⟨hne,h1,h2⟩:=lN hy he;exact hI t s0 hl y u h1 h2
                 have hE':ERel C m (env.set DSL (.tup (.func (.func f) first caps::vs))) {a with defers:={target:=.fn (.func f) (List.toArray c'),args:=List.toArray (f'++args.toList.map a.eval)}::a.defers}:=by
                   refine⟨hE.1,fun s u hs=>?_,hE.2.2⟩;rw[T.get_set]at hs;by_cases c:s=DSL
                   ·exact .inl c
                   ·rw[if_neg c]at hs;exact hE.2.1 s u hs
                 refine ih (i+1) rest (qI σ) loc _ h m _ w ex env' h' hdrop' hrest hG hI' hE' H ?_ e hQ;unfold DsR at hD⊢;rw[hdf,T.get_set_self];rw[hdf,hnone]at hD;exact⟨[],_,a.defers,rfl,⟨f,first,caps,vs,_,c',rfl,(Nat.blt_eq ..).mp hlt,rfl,VsRel.append rf hv,rc⟩,hD⟩
              ·cases hev
             ·cases hev
            ·cases e
           ·cases hgd
          ·cases hod
         ·cases hsd
        ·cases hop
       ·cases hop
/-- the run in the order of the text: each operation's value, and the heap behind each effect -/
def rB(call:ai)(env:T V):List DS→List V→Heap→List V→List Heap→Prop
  |[],_,_,vs,hp=>vs=[]∧hp=[]
  |s::l,loc,h,vs,hp=>∃v vs' h',vs=v::vs'∧
      (((∃c,s.2=some (v,c)∧a9 loc env s.1.op v c=true)∧h'=h)∨(s.2=none∧evG loc env s.1.gd=some true∧aq call loc env h s.1.op=some (v,h'))∨(s.2=none∧evG loc env s.1.gd=some false∧v=.tup []∧h'=h))∧
      ((cr s=true∧∃hp',hp=h'::hp'∧rB call env l (v::loc) h' vs' hp')∨(cr s=false∧h'=h∧rB call env l (v::loc) h vs' hp))
theorem lM{call:ai}{loc:List V}{env:T V}{h h':Heap}{o:IOp}{v:V}(he:eff o=false)(e:aq call loc env h o=some (v,h')):h'=h:=by
  cases o<;>simp[eff]at he<;>simp only[aq]at e;all_goals
    split at e
    ·split at e
     ·cases e;rfl
     ·cases e
    ·cases e
theorem sa{call:ai}{loc:List V}{env:T V}{h h':Heap}{k:PK}{xs:List Opd}{v:V}(e:aq call loc env h (.p k xs)=some (v,h'))(g:Heap):aq call loc env g (.p k xs)=some (v,g):=by
  simp only[aq]at e⊢;split at e
  ·rename_i vs hvs;split at e
   ·rename_i u hu;cases e;rfl
   ·cases e
  ·cases e
theorem lO(call:ai)(env:T V)(s:DS)(l:List DS)(loc:List V)(hs:List Heap)(h:Heap):dd call env (s::l) loc hs h=match s.2 with
      |some (u,c)=>bif a9 loc env s.1.op u c then dd call env l (u::loc) hs h else none
      |none=>(match evG loc env s.1.gd with
        |some true=>(match aq call loc env h s.1.op with
          |some (v,h')=>fV v fun v=>bif eff s.1.op then dd call env l (v::loc) (h'::hs) h' else dd call env l (v::loc) hs h
          |none=>none)
        |some false=>bif eff s.1.op then dd call env l (.tup []::loc) (h::hs) h else dd call env l (.tup []::loc) hs h
        |none=>none):=rfl
theorem dL{call:ai}{env:T V}:∀(l:List DS)(loc:List V)(hs:List Heap)(h:Heap)(locF:List V)(hsF:List Heap),dd call env l loc hs h=some (locF,hsF)→
    ∃vs hp,rB call env l loc h vs hp∧locF=vs.reverse++loc∧hsF=hp.reverse++hs
  |[],loc,hs,h,locF,hsF,e=>by cases e;exact⟨[],[],⟨rfl,rfl⟩,rfl,rfl⟩
  |(s,some (u,cs))::l,loc,hs,h,locF,hsF,e=>by
    rw[lO]at e;simp only[]at e;cases hl:a9 loc env s.op u cs
    ·rw[hl]at e;cases e
    ·rw[hl]at e;simp only[cond_true]at e;obtain⟨vs,hp,c,rfl,rfl⟩:=dL l _ _ _ _ _ e;exact⟨u::vs,hp,⟨u,vs,h,rfl,.inl ⟨⟨cs,rfl,hl⟩,rfl⟩,.inr ⟨rfl,rfl,c⟩⟩,by simp,rfl⟩
  |(s,none)::l,loc,hs,h,locF,hsF,e=>by
    rw[lO]at e;simp only[]at e;cases hg:evG loc env s.gd with
    |none=>rw[hg]at e;cases e
    |some b=>
      rw[hg]at e;cases b
      ·simp only[]at e;cases he:eff s.op
       ·rw[he]at e;simp only[cond_false]at e;obtain⟨vs,hp,c,rfl,rfl⟩:=dL l _ _ _ _ _ e;exact⟨.tup []::vs,hp,⟨.tup [],vs,h,rfl,.inr (.inr ⟨rfl,hg,rfl,rfl⟩),.inr ⟨he,rfl,c⟩⟩,by simp,rfl⟩
       ·rw[he]at e;simp only[cond_true]at e;obtain⟨vs,hp,c,rfl,rfl⟩:=dL l _ _ _ _ _ e;exact⟨.tup []::vs,h::hp,⟨.tup [],vs,h,rfl,.inr (.inr ⟨rfl,hg,rfl,rfl⟩),.inl ⟨he,hp,rfl,c⟩⟩,by simp,by simp⟩
      ·simp only[]at e;cases ho:aq call loc env h s.op with
       |none=>rw[ho]at e;cases e
       |some p=>
         obtain⟨v,h'⟩:=p;rw[ho]at e;simp only[iv]at e;cases he:eff s.op
         ·rw[he]at e;simp only[cond_false]at e;obtain⟨vs,hp,c,rfl,rfl⟩:=dL l _ _ _ _ _ e;have:=lM he ho;subst this;exact⟨v::vs,hp,⟨v,vs,h',rfl,.inr (.inl ⟨rfl,hg,ho⟩),.inr ⟨he,rfl,c⟩⟩,by simp,rfl⟩
         ·rw[he]at e;simp only[cond_true]at e;obtain⟨vs,hp,c,rfl,rfl⟩:=dL l _ _ _ _ _ e;exact⟨v::vs,h'::hp,⟨v,vs,h',rfl,.inr (.inl ⟨rfl,hg,ho⟩),.inl ⟨he,hp,rfl,c⟩⟩,by simp,by simp⟩
/-- how many effects stand ahead of a place -/
def cT(l:List DS)(i:Nat):Nat:=((l.take i).filter cr).length
theorem j7{call:ai}{env:T V}:∀(l:List DS)(loc:List V)(h:Heap)(vs:List V)(hp:List Heap),rB call env l loc h vs hp→
    vs.length=l.length∧hp.length=cT l l.length∧∀(i:Nat) s,l[i]? =some s→∃v hb ha,vs[i]? =some v∧(h::hp)[cT l i]? =some hb∧
      (((∃c,s.2=some (v,c)∧a9 ((vs.take i).reverse++loc) env s.1.op v c=true)∧ha=hb)∨(s.2=none∧evG ((vs.take i).reverse++loc) env s.1.gd=some true∧aq call ((vs.take i).reverse++loc) env hb s.1.op=some (v,ha))∨(s.2=none∧evG ((vs.take i).reverse++loc) env s.1.gd=some false∧v=.tup []∧ha=hb))∧
      (cr s=true→(h::hp)[cT l i+1]? =some ha)∧(cr s=false→ha=hb)
  |[],loc,h,vs,hp,c=>by
    obtain⟨rfl,rfl⟩:=c;refine⟨rfl,rfl,fun i s hi=>by simp at hi⟩
  |s::l,loc,h,vs,hp,c=>by
    obtain⟨v,vs',h',rfl,hv,hc⟩:=c;rcases hc with⟨he,hp',rfl,c⟩|⟨he,rfl,c⟩
    ·obtain⟨l1,l2,l3⟩:=j7 l (v::loc) h' vs' hp' c;refine⟨by simp[l1],by simp[cT,he]at l2⊢;exact l2,fun i t hi=>?_⟩;cases i with
     |zero=>
       simp at hi;subst hi;refine⟨v,h,h',rfl,by simp[cT],by simpa using hv,fun _=>by simp[cT],fun q=>by rw[he]at q;cases q⟩
     |succ i=>
       obtain⟨u,hb,ha,a1,a2,a3,a4,a5⟩:=l3 i t (by simpa using hi);refine⟨u,hb,ha,by simpa using a1,?_,by simpa using a3,fun q=>?_,a5⟩
       ·simpa[cT,he]using a2
       ·simpa[cT,he]using a4 q
    ·obtain⟨l1,l2,l3⟩:=j7 l (v::loc) h' vs' hp c;refine⟨by simp[l1],by simp[cT,he]at l2⊢;exact l2,fun i t hi=>?_⟩;cases i with
     |zero=>
       simp at hi;subst hi;refine⟨v,h',h',rfl,by simp[cT],by simpa using hv,fun q=>(by rw[he]at q;cases q),fun _=>rfl⟩
     |succ i=>
       obtain⟨u,hb,ha,a1,a2,a3,a4,a5⟩:=l3 i t (by simpa using hi);refine⟨u,hb,ha,by simpa using a1,?_,by simpa using a3,fun q=>?_,a5⟩
       ·simpa[cT,he]using a2
       ·simpa[cT,he]using a4 q
theorem fU{call:ai}{env:T V}{late:List Nat}:∀(l:List IStep)(i:Nat)(loc:List V)(h:Heap)(r:List DS)(h':Heap),lay call env late l i loc h=some (r,h')→r.length=l.length
  |[],i,loc,h,r,h',e=>by simp only[lay,Option.some.injEq,Prod.mk.injEq]at e;obtain⟨rfl,_⟩:=e;rfl
  |s::l,i,loc,h,r,h',e=>by
    simp only[lay]at e;cases hc:late.contains i
    ·rw[hc]at e;simp only[cond_false]at e;split at e
     ·rename_i r' h2 h3;cases e;simp[fU l _ _ _ _ _ h3]
     ·cases e
    ·rw[hc]at e;simp only[cond_true]at e;split at e
     ·split at e
      ·rename_i r' h2 h3;cases e;simp[fU l _ _ _ _ _ h3]
      ·cases e
     ·cases e
theorem rU(id:Nat)(k:Option (Nat×Nat)):lid (dH id k)=id:=by cases k<;>rfl
/-- at each place: the step itself; and of a late one its block -/
theorem pG{call:ai}{env:T V}{late:List Nat}:∀(l:List IStep)(i:Nat)(loc:List V)(h:Heap)(r:List DS)(h':Heap),lay call env late l i loc h=some (r,h')→
    (∀(j:Nat) s,l[j]? =some s→(late.contains (i+j)=false∧r[j]? =some (s,none))∨
      (late.contains (i+j)=true∧∃u c,r[j]? =some (s,some (u,c))∧h.next≤lid u∧lid u<h'.next∧h'.bl.get (lid u)=some (.row c (lid u) 0)))∧
    (∀(j k:Nat) s t u v cu cv,j<k→r[j]? =some (s,some (u,cu))→r[k]? =some (t,some (v,cv))→lid u<lid v)∧(∀(j:Nat) s u cu,r[j]? =some (s,some (u,cu))→h.next≤lid u)∧
    h.next≤h'.next∧(∀p,p<h.next→h'.bl.get p=h.bl.get p)∧∀m w,HRel m h w→HRel m h' w
  |[],i,loc,h,r,h',e=>by
    simp only[lay,Option.some.injEq,Prod.mk.injEq]at e;obtain⟨rfl,rfl⟩:=e;exact⟨fun j s hj=>by simp at hj,fun j k s t u v _ _ _ hj=>by simp at hj,fun j s u _ hj=>by simp at hj,Nat.le_refl _,fun _ _=>rfl,fun _ _ H=>H⟩
  |s::l,i,loc,h,r,h',e=>by
    simp only[lay]at e;cases hc:late.contains i
    ·rw[hc]at e;simp only[cond_false]at e;split at e
     ·rename_i r' h2 h3;cases e;obtain⟨a3,a4,a5,a1,a2,a6⟩:=pG l _ _ _ _ _ h3;refine⟨fun j t hj=>?_,fun j k s' t u v cu cv hjk hj hk=>?_,fun j s' u cu hj=>?_,a1,a2,a6⟩
      ·cases j with
       |zero=>simp at hj;subst hj;exact .inl ⟨by simpa using hc,rfl⟩
       |succ j=>
         rcases a3 j t (by simpa using hj)with⟨b1,b2⟩|⟨b1,u,c,b2,b3⟩
         ·exact .inl ⟨by rw[show i+(j+1)=i+1+j by omega];exact b1,by simpa using b2⟩
         ·exact .inr ⟨by rw[show i+(j+1)=i+1+j by omega];exact b1,u,c,by simpa using b2,b3⟩
      ·cases j with
       |zero=>simp at hj
       |succ j=>cases k with
         |zero=>omega
         |succ k=>exact a4 j k s' t u v cu cv (by omega) (by simpa using hj) (by simpa using hk)
      ·cases j with
       |zero=>simp at hj
       |succ j=>exact a5 j s' u cu (by simpa using hj)
     ·cases e
    ·rw[hc]at e;simp only[cond_true]at e;split at e
     ·rename_i c kk hlc;split at e
      ·rename_i r' h2 h3;cases e;obtain⟨a3,a4,a5,a1,a2,a6⟩:=pG l _ _ _ _ _ h3;have hnx:(halloc h c).next=h.next+1:=rfl;rw[hnx]at a1 a2 a5;have hlid:=rU h.next kk;refine⟨fun j t hj=>?_,fun j k s' t u v cu cv hjk hj hk=>?_,fun j s' u cu hj=>?_,by omega,fun p hp=>?_,fun m w H=>a6 m w ?_⟩
       ·cases j with
        |zero=>
          simp at hj;subst hj;refine .inr ⟨by simpa using hc,dH h.next kk,c,rfl,by omega,by omega,?_⟩;rw[hlid,a2 _ (by omega),halloc,T.get_set_self]
        |succ j=>
          rcases a3 j t (by simpa using hj)with⟨b1,b2⟩|⟨b1,u,c',b2,b5,b6,b7⟩
          ·exact .inl ⟨by rw[show i+(j+1)=i+1+j by omega];exact b1,by simpa using b2⟩
          ·rw[hnx]at b5;exact .inr ⟨by rw[show i+(j+1)=i+1+j by omega];exact b1,u,c',by simpa using b2,by omega,b6,b7⟩
       ·cases j with
        |zero=>
          simp at hj;obtain⟨rfl,rfl,rfl⟩:=hj;cases k with
          |zero=>omega
          |succ k=>have:=a5 k t v cv (by simpa using hk);rw[hlid];omega
        |succ j=>cases k with
          |zero=>omega
          |succ k=>exact a4 j k s' t u v cu cv (by omega) (by simpa using hj) (by simpa using hk)
       ·cases j with
        |zero=>simp at hj;obtain⟨rfl,rfl,rfl⟩:=hj;rw[hlid];exact Nat.le_refl _
        |succ j=>have:=a5 j s' u cu (by simpa using hj);omega
       ·rw[a2 p (by omega),halloc,T.get_set_ne _ _ (by omega)]
       ·have hold:∀p loc,m p=some loc→p≠h.next:=fun p loc hp q=>by subst q;rw[H.unmapped (Nat.le_refl _)]at hp;cases hp
        refine⟨⟨?_,?_⟩,?_,H.inb,?_⟩
        ·intro p cp f k hp;show match h.fams.get f with|none=>f=p|some (_,e)=>k≤e
         rw[halloc,T.get_set]at hp;by_cases q:p=h.next
         ·rw[if_pos q]at hp;cases hp;rw[(H.wf.fresh h.next (Nat.le_refl _)).2];exact q.symm
         ·rw[if_neg q]at hp;exact H.wf.fam _ _ _ _ hp
        ·intro p hp;have hp':h.next+1≤p:=hp;refine⟨?_,(H.wf.fresh p (by omega)).2⟩;rw[halloc,T.get_set_ne _ _ (by omega)];exact(H.wf.fresh p (by omega)).1
        ·intro p loc hp;obtain⟨b,hb,rb⟩:=H.blk p loc hp;exact⟨b,by rw[halloc,T.get_set_ne _ _ (hold p loc hp)];exact hb,rb.mono (fun _ _ x=>x) (fun _ _ _ _ x=>x) rfl⟩
        ·intro p q lp lq hp hq he hne;obtain⟨cp,cq,f,kp,kq,b1,b2,b3⟩:=H.sep p q lp lq hp hq he hne;exact⟨cp,cq,f,kp,kq,by rw[halloc,T.get_set_ne _ _ (hold p lp hp)];exact b1,by rw[halloc,T.get_set_ne _ _ (hold q lq hq)];exact b2,b3⟩
      ·cases e
     ·cases e
/-- the steps, with the late ones marked -/
def gC(late:List Nat):List IStep→Nat→List DS
  |[],_=>[]
  |s::l,i=>(s,bif late.contains i then some (.nilp,[])else none)::gC late l (i+1)
theorem fT{call:ai}{env:T V}{late:List Nat}:∀(l:List IStep)(i:Nat)(loc:List V)(h:Heap)(r:List DS)(h':Heap),lay call env late l i loc h=some (r,h')→(gC late l i).map cr=r.map cr
  |[],i,loc,h,r,h',e=>by simp only[lay,Option.some.injEq,Prod.mk.injEq]at e;obtain⟨rfl,_⟩:=e;rfl
  |s::l,i,loc,h,r,h',e=>by
    simp only[lay]at e;cases hc:late.contains i
    ·rw[hc]at e;simp only[cond_false]at e;split at e
     ·rename_i r' h2 h3;cases e;simp only[gC,hc,cond_false,List.map_cons,fT l _ _ _ _ _ h3]
     ·cases e
    ·rw[hc]at e;simp only[cond_true]at e;split at e
     ·split at e
      ·rename_i r' h2 h3;cases e;simp only[gC,hc,cond_true,List.map_cons,fT l _ _ _ _ _ h3];rfl
      ·cases e
     ·cases e
def bef (B : List Nat) (i j : Nat) : Bool := Nat.testBit (B.getD i 0) j
/-- B tells, of each operation, some of those that come before it in every order -/
def xG (ops : Array Oper) (B : List Nat) : Bool :=
  (List.range ops.size).all fun i => (List.range ops.size).all fun j => !bef B i j ||
    (match ops[i]? with
      | some o => o.after.toList.any fun e => Region.binds .any e && Nat.blt e.on i && (Nat.beq e.on j || bef B e.on j)
      | none => false)
/-- the edges lead back, in each mode by some numbering -/
def gW (md : Region.Mode) (ops : Array Oper) (R : Nat → Nat) : Bool :=
  (List.range ops.size).all fun i => match ops[i]? with
    | some o => o.after.toList.all fun e => !Region.binds md e || (Nat.blt (R e.on) (R i) && Nat.blt e.on ops.size)
    | none => false
def oA (ops : Array Oper) (R : List Nat) : Bool := gW .any ops id && gW .text ops id && gW .gc ops (fun i => R.getD i i)
/-- what the temporaries stand for at the i-th operation -/
def bX (ops : Array Oper) (B : List Nat) (i : Nat) : List Nat → Sg
  | [] => []
  | j :: js => match (ops[j]?).bind (·.dst) with
    | some t => if bef B i j then (t, .l (i - 1 - j)) :: bX ops B i js
                else if i = j ∨ bef B j i = true then bX ops B i js
                else (t, .bad) :: bX ops B i js
    | none => bX ops B i js
def sig (ops : Array Oper) (B : List Nat) (i : Nat) : Sg := bX ops B i (List.range ops.size)
def yz : IOp → Bool
  | .ld _ _ _ => true
  | .lk _ _ _ _ => true
  | .b2s _ => true
  | _ => false
def aU (l : List DS) : List Nat := (List.range l.length).filter fun i => match l[i]? with | some s => cr s | none => false
def s8 (l : List DS) (B : List Nat) (reads : List (Nat × Nat × Nat)) (i : Nat) : Bool :=
  reads.any fun (r : Nat × Nat × Nat) => Nat.beq r.1 i && Nat.ble r.2.1 ((aU l).filter fun e => bef B i e).length && Nat.ble ((aU l).length - ((aU l).filter fun e => bef B e i).length) r.2.2
def ue (C : Cx) (ops : Array Oper) (sets : List (Nat × Nat)) : Bool :=
  ((List.range ops.size).all fun i => match (ops[i]?).bind (·.dst) with
    | some t => Nat.blt t C.N && (!C.vars.contains t || sets.contains (t, i)) && (List.range ops.size).all (fun j => Nat.beq i j || (match (ops[j]?).bind (·.dst) with | some u => !Nat.beq t u | none => true))
    | none => true) &&
  sets.all fun (p : Nat × Nat) => Nat.blt p.2 ops.size && C.vars.contains p.1 && (match (ops[p.2]?).bind (·.dst) with | some t => Nat.beq t p.1 | none => false)
def bOf (ops : Array Oper) : List Nat := ops.toList.foldl (fun B o => B ++ [o.after.toList.foldl (fun b e => bif Region.binds .any e then b ||| (1 <<< e.on) ||| B.getD e.on 0 else b) 0]) []
def xF (P : Program) (C : Cx) (ops : Array Oper) (l : List IStep) (late B R : List Nat) (reads : List (Nat × Nat × Nat)) (sets : List (Nat × Nat)) : Bool :=
  Nat.beq ops.size l.length && oA ops R && xG ops B && ue C ops sets &&
  ((List.range ops.size).all fun i => match ops[i]?, l[i]? with
    | some o, some s => sq C (sig ops B i) ops o.guard s.gd && fE P C (sig ops B i) o s.op && (!yz s.op || s8 (gC late l 0) B reads i) && (!late.contains i || o.guard.isNone)
    | _, _ => false) &&
  ((aU (gC late l 0)).all fun i => (aU (gC late l 0)).all fun j => !Nat.blt i j || bef B j i)
theorem aV {n : Nat} {p : Nat → Bool} (h : (List.range n).all p = true) {i : Nat} (hi : i < n) : p i = true := List.all_eq_true.1 h i (by simpa using hi)
abbrev dn (L : Array Bool) (i : Nat) : Prop := L.getD i false = true
theorem dM {ops : Array Oper} {B : List Nat} (hB : xG ops B = true) {L : Array Bool} (hcl : ∀ i o, ops[i]? = some o → dn L i → ∀ e ∈ o.after, Region.binds .any e = true → dn L e.on) :
    ∀ (i : Nat) o, ops[i]? = some o → (∀ e ∈ o.after, Region.binds .any e = true → dn L e.on) → ∀ j, bef B i j = true → j < ops.size → dn L j := by
  intro i
  induction i using Nat.strongRecOn with
  | _ i ih =>
    intro o ho hed j hb hj
    have hi : i < ops.size := (Array.getElem?_eq_some_iff.1 ho).1
    have h1 := aV (aV hB hi) hj
    simp only [hb, Bool.not_true, Bool.false_or, ho] at h1
    obtain ⟨e, he, h2⟩ := List.any_eq_true.1 h1
    simp only [Bool.and_eq_true, Nat.blt_eq, Bool.or_eq_true] at h2
    have hde := hed e (by simpa using he) h2.1.1
    rcases h2.2 with q | q
    · have := Nat.eq_of_beq_eq_true q; subst this; exact hde
    · have hle : e.on < ops.size := by have := h2.1.2; omega
      exact ih e.on h2.1.2 _ (Array.getElem?_eq_getElem hle) (hcl e.on _ (Array.getElem?_eq_getElem hle) hde) j q hj
theorem eI {ops : Array Oper} {B : List Nat} {i : Nat} : ∀ (js : List Nat) t s, bT (bX ops B i js) t = some s → ∃ j, j ∈ js ∧ (ops[j]?).bind (·.dst) = some t ∧ ((bef B i j = true ∧ s = .l (i - 1 - j)) ∨ s = .bad)
  | [], t, s, h => by simp [bX, bT] at h
  | j :: js, t, s, h => by
    simp only [bX] at h
    split at h
    · rename_i u hu
      split at h
      · rename_i hb
        simp only [bT] at h
        by_cases c : u = t
        · rw [if_pos c] at h; cases h; subst c
          exact ⟨j, by simp, hu, .inl ⟨hb, rfl⟩⟩
        · rw [if_neg c] at h
          obtain ⟨j', h1, h2⟩ := eI js t s h
          exact ⟨j', by simp [h1], h2⟩
      · split at h
        · obtain ⟨j', h1, h2⟩ := eI js t s h
          exact ⟨j', by simp [h1], h2⟩
        · simp only [bT] at h
          by_cases c : u = t
          · rw [if_pos c] at h; cases h; subst c
            exact ⟨j, by simp, hu, .inr rfl⟩
          · rw [if_neg c] at h
            obtain ⟨j', h1, h2⟩ := eI js t s h
            exact ⟨j', by simp [h1], h2⟩
    · obtain ⟨j', h1, h2⟩ := eI js t s h
      exact ⟨j', by simp [h1], h2⟩
theorem ft {ops : Array Oper} {B : List Nat} {i : Nat} : ∀ (js : List Nat) t, bT (bX ops B i js) t = none → ∀ j ∈ js, (ops[j]?).bind (·.dst) = some t → bef B i j = false ∧ (i = j ∨ bef B j i = true)
  | [], t, h, j, hj, _ => by simp at hj
  | k :: js, t, h, j, hj, hd => by
    simp only [bX] at h
    rcases List.mem_cons.1 hj with rfl | hj
    · rw [hd] at h
      simp only [] at h
      cases hb : bef B i j
      · simp only [hb, Bool.false_eq_true, if_false] at h
        by_cases c : i = j ∨ bef B j i = true
        · exact ⟨rfl, c⟩
        · rw [if_neg c] at h; simp [bT] at h
      · simp [hb, bT] at h
    · have : bT (bX ops B i js) t = none := by
        split at h
        · rename_i u hu
          split at h
          · simp only [bT] at h
            by_cases c : u = t
            · rw [if_pos c] at h; cases h
            · rw [if_neg c] at h; exact h
          · split at h
            · exact h
            · simp only [bT] at h
              by_cases c : u = t
              · rw [if_pos c] at h; cases h
              · rw [if_neg c] at h; exact h
        · exact h
      exact ft js t this j hj hd
noncomputable def cnt (l : List DS) (L : Array Bool) : Nat := ((aU l).filter fun e => L.getD e false).length
theorem gY {α : Type} {p q : α → Bool} : ∀ (l : List α), (∀ x ∈ l, p x = true → q x = true) → (l.filter p).length ≤ (l.filter q).length
  | [], _ => by simp
  | x :: l, h => by
    have ih := gY l fun y hy => h y (by simp [hy])
    by_cases hp : p x = true
    · have hq := h x (by simp) hp
      simp [hp, hq]; exact ih
    · by_cases hq : q x = true
      · simp [hp, hq]; omega
      · simp [hp, hq]; exact ih
theorem gF {α : Type} {p q : α → Bool} : ∀ (l : List α), (∀ x ∈ l, p x = true → q x = false) → (l.filter p).length + (l.filter q).length ≤ l.length
  | [], _ => by simp
  | x :: l, h => by
    have ih := gF l fun y hy => h y (by simp [hy])
    by_cases hp : p x = true
    · have hq := h x (by simp) hp
      simp [hp, hq]; omega
    · by_cases hq : q x = true
      · simp [hp, hq]; omega
      · simp [hp, hq]; omega
theorem cP {l : List DS} {i : Nat} : i ∈ aU l ↔ ∃ s, l[i]? = some s ∧ cr s = true := by
  unfold aU
  rw [List.mem_filter]
  constructor
  · rintro ⟨_, h⟩
    split at h
    · rename_i s hs; exact ⟨s, hs, h⟩
    · cases h
  · rintro ⟨s, hs, he⟩
    have := (List.getElem?_eq_some_iff.1 hs).1
    exact ⟨by simpa using this, by rw [hs]; exact he⟩
theorem nV {l : List DS} {a : Nat} (h : (match l[a]? with | some s => cr s | none => false) = true) : a ∈ aU l := by
  rw [cP]
  split at h
  · rename_i s hs; exact ⟨s, hs, h⟩
  · cases h
theorem pP (l : List DS) : ∀ i, i ≤ l.length → cT l i = ((List.range i).filter fun j => match l[j]? with | some s => cr s | none => false).length := by
  intro i
  induction i with
  | zero => intro _; simp [cT]
  | succ i ih =>
    intro hi
    have hlt : i < l.length := by omega
    rw [List.range_succ, List.filter_append, List.length_append, ← ih (by omega)]
    unfold cT
    rw [List.take_succ_eq_append_getElem hlt, List.filter_append, List.length_append]
    congr 1
    simp [List.filter_cons, hlt]
    split <;> simp
/-- all effects ahead of i, and no other, are done -/
theorem pV {l : List DS} {L : Array Bool} {i : Nat} (hi : i ≤ l.length) (h1 : ∀ e ∈ aU l, e < i → dn L e) (h2 : ∀ e ∈ aU l, i ≤ e → ¬ dn L e) : cnt l L = cT l i := by
  rw [pP l i (by omega)]
  unfold cnt aU
  rw [List.filter_filter]
  have : ∀ n, i ≤ n → n ≤ l.length → ((List.range n).filter fun a => L.getD a false && (match l[a]? with | some s => cr s | none => false)).length = ((List.range i).filter fun j => match l[j]? with | some s => cr s | none => false).length := by
    intro n hn
    induction n with
    | zero => intro _; have : i = 0 := by omega
              subst this; rfl
    | succ n ih =>
      intro hnl
      by_cases c : i = n + 1
      · subst c
        congr 1
        apply List.filter_congr
        intro a ha
        have ha' : a < n + 1 := by simpa using ha
        cases hm : (match l[a]? with | some s => cr s | none => false)
        · simp
        · have : dn L a := h1 a (nV hm) ha'
          rw [this]; rfl
      · rw [List.range_succ, List.filter_append, List.length_append, ih (by omega) (by omega)]
        have : ((List.filter (fun a => L.getD a false && (match l[a]? with | some s => cr s | none => false)) [n]).length = 0) := by
          simp only [List.filter_cons, List.filter_nil]
          cases hm : (match l[n]? with | some s => cr s | none => false)
          · simp
          · have : ¬ dn L n := h2 n (nV hm) (by omega)
            have : L.getD n false = false := by simpa [dn] using this
            rw [this]; rfl
        omega
  exact this l.length (by omega) (Nat.le_refl _)
theorem se {l r : List DS} (h : l.map cr = r.map cr) : aU l = aU r := by
  have hl : l.length = r.length := by have := congrArg List.length h; simpa using this
  unfold aU
  rw [hl]
  apply List.filter_congr
  intro i _
  have : (l.map cr)[i]? = (r.map cr)[i]? := by rw [h]
  rw [List.getElem?_map, List.getElem?_map] at this
  cases h1 : l[i]? <;> cases h2 : r[i]? <;> simp_all
end Go.Ev
