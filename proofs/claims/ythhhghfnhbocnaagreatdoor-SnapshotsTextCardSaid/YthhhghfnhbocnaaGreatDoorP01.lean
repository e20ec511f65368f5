/- An evaluator of the program, and contracts over it: EvK to EvMa. -/
import Derived.Laws.Tables
import Derived.Laws.StructEq
import Derived.MapKept
import Derived.Test.YthhhghfnhbocnaaGreatDoorP00
set_option linter.unusedSimpArgs false
set_option linter.unusedVariables false
set_option linter.constructorNameAsVariable false
set_option linter.unnecessarySimpa false
namespace Go.Ev
section
variable {P : Program} {m : M}
theorem VsRel.take{l:List V}{l':List Value}(h:VsRel m l l')(n:Nat):VsRel m (l.take n) (l'.take n):=by
  refine VsRel.of_get (by simp[h.length]) fun i v hi=>?_;rw[List.getElem?_take]at hi⊢;split at hi
  ·rename_i hlt;rw[if_pos hlt];exact h.get i v hi
  ·cases hi
theorem VsRel.drop{l:List V}{l':List Value}(h:VsRel m l l')(n:Nat):VsRel m (l.drop n) (l'.drop n):=by
  refine VsRel.of_get (by simp[h.length]) fun i v hi=>?_;rw[List.getElem?_drop]at hi⊢;exact h.get _ v hi
/-- a part of an aggregate -/
noncomputable def apart(l:List V)(off n:Nat)(isAgg:Bool):Option V:=bif isAgg then(takeL n (dropL l off)).map .agg else nth l off
theorem part_run{l:List V}{l':List Value}{off n:Nat}{ia:Bool}{v:V}{t:TypeId}(h:apart l off n ia=some v)(r:VsRel m l l')(hs:sizeIs P t n=true)(ha:aggIs P t ia=true):
    ∃x,VRel m v x∧∀w,(part t (List.toArray l') off).run P w=.ok x w:=by
  unfold apart at h;cases ia
  ·simp only[cond_false]at h;rw[nth_eq]at h;obtain⟨x,hx,rx⟩:=r.get off v h;refine⟨x,rx,fun w=>?_⟩;simp[part,run_agg ha,hx]
  ·simp only[cond_true]at h;cases ht:takeL n (dropL l off)with
   |none=>rw[ht]at h;cases h
   |some c=>
     rw[ht]at h;cases h;obtain⟨rfl,hn⟩:=takeL_eq ht;rw[dropL_eq];refine⟨.agg (List.toArray ((l'.drop off).take n)),⟨_,rfl,(r.drop off).take n⟩,fun w=>?_⟩;simp only[part,Sem.run_bind,run_agg ha,Result.andThen_ok,if_true,run_size hs,Sem.run_pure];congr 2;apply Array.ext';simp[List.extract_eq_take_drop]
theorem PS_field{o:Oper}{ρ:Operand→Value}{off n:Nat}{ia:Bool}{l:List V}{v:V}(hc:chkP P o.op (.field off n ia)=true)(hv:VsRel m [.agg l] (OV ρ o.op))
    (h:apart l off n ia=some v):PS P m o ρ v:=by
  simp only[chkP]at hc;split at hc
  ·rename_i s x f hy;obtain⟨x',e,r⟩:=one_of hv;rw[hy]at e;simp[Op.operands]at e;obtain⟨l',rfl,rl⟩:=r;unfold fieldIs at hc;split at hc
   ·rename_i fields hu;split at hc
    ·rename_i fd hf;simp only[Bool.and_eq_true]at hc;obtain⟨⟨ho,hs⟩,ha⟩:=hc;have ho':=Nat.eq_of_beq_eq_true ho;obtain⟨x,rx,hx⟩:=part_run h rl hs ha;exact⟨x,rx,fun w=>by simp[execOp,hy,e,Instr.field,run_under hu,hf,asAgg,ho',hx]⟩
    ·cases hc
   ·cases hc
  ·cases hc
theorem aidx_some{v:V}{len n:Nat}(h:aidx v len=some n):∃k,v=.int k (.ofNat n)∧n<len:=by
  unfold aidx at h;split at h
  ·rename_i k n';cases hb:Nat.blt n' len
   ·rw[hb]at h;cases h
   ·rw[hb]at h;cases h;exact⟨k,rfl,by simpa[Nat.blt_eq]using hb⟩
  ·cases h
theorem elem_slice{t:TypeId}{esz:Nat}(h:elemIs P t none esz=true):∃e,P.underlying t=some (.slice e)∧sizeIs P e esz=true:=by
  unfold elemIs at h;split at h<;>simp_all
theorem elem_arr{t:TypeId}{n esz:Nat}(h:elemIs P t (some n) esz=true):∃e,P.underlying t=some (.array n e)∧sizeIs P e esz=true:=by
  unfold elemIs at h;split at h
  ·simp_all
  ·rename_i n0 n' e hu hs;simp only[Option.some.injEq]at hu;subst hu;simp only[Bool.and_eq_true]at h;have:=Nat.eq_of_beq_eq_true h.1;subst this;exact⟨e,hs,h.2⟩
  ·cases h
theorem PS_ixa{o:Oper}{ρ:Operand→Value}{len esz b k n:Nat}{i:V}(hc:chkP P o.op (.ixa len esz)=true)(hv:VsRel m [.ptr b k,i] (OV ρ o.op))
    (h:aidx i len=some n):PS P m o ρ (.ptr b (k+n*esz)):=by
  simp only[chkP]at hc;split at hc
  ·rename_i t x y hy;obtain⟨x',y',e,rx,ry⟩:=two_of hv;rw[hy]at e;change[ρ x,ρ y]=[x',y']at e;simp only[List.cons.injEq,and_true]at e;obtain⟨loc,hm,rfl⟩:=rx;obtain⟨ik,rfl,hlt⟩:=aidx_some h;simp only[VRel]at ry;obtain⟨e',hu,hs⟩:=elem_arr hc;refine⟨_,⟨loc,hm,rfl⟩,fun w=>?_⟩;have h1:(0:Int)≤Int.ofNat n∧Int.ofNat n<(len:Int):=by simp only[Int.ofNat_eq_natCast];omega
   simp only[execOp,hy,e.1,e.2,ry,Instr.indexAt,asIntOf,Instr.sureAddr,Sem.run_bind,Sem.run_pure,run_under hu,Result.andThen_ok];rw[if_pos h1];simp[run_size hs,add_mk,Nat.add_assoc]
  ·cases hc
theorem PS_ixs{o:Oper}{ρ:Operand→Value}{esz b k len n:Nat}{i s:V}{loc:Loc}(hm:m b=some loc)(hc:chkP P o.op (.ixs esz)=true)(hv:VsRel m [s,i] (OV ρ o.op))
    (hs:∀x,VRel m s x→∃c,x=.slice (some ⟨loc.block,loc.base+k,none⟩) len c) (h:aidx i len=some n):PS P m o ρ (.ptr b (k+n*esz)):=by
  simp only[chkP]at hc;split at hc
  ·rename_i t x y hy;obtain⟨x',y',e,rx,ry⟩:=two_of hv;rw[hy]at e;change[ρ x,ρ y]=[x',y']at e;simp only[List.cons.injEq,and_true]at e;obtain⟨c,rfl⟩:=hs _ rx;obtain⟨ik,rfl,hlt⟩:=aidx_some h;simp only[VRel]at ry;obtain⟨e',hu,hs'⟩:=elem_slice hc;refine⟨_,⟨loc,hm,rfl⟩,fun w=>?_⟩;have h1:(0:Int)≤Int.ofNat n∧Int.ofNat n<(len:Int):=by simp only[Int.ofNat_eq_natCast];omega
   simp only[execOp,hy,e.1,e.2,ry,Instr.indexAt,asIntOf,Instr.sureAddr,Sem.run_bind,Sem.run_pure,run_under hu,Result.andThen_ok];rw[if_pos h1];simp[run_size hs',add_mk,Nat.add_assoc]
  ·cases hc
theorem PS_ixarr{o:Oper}{ρ:Operand→Value}{len esz n:Nat}{ia:Bool}{l:List V}{i v:V}(hc:chkP P o.op (.ixarr len esz ia)=true)(hv:VsRel m [.agg l,i] (OV ρ o.op))
    (h:aidx i len=some n) (h2:apart l (n*esz) esz ia=some v):PS P m o ρ v:=by
  simp only[chkP]at hc;split at hc
  ·rename_i t x y hy;obtain⟨x',y',e,rx,ry⟩:=two_of hv;rw[hy]at e;change[ρ x,ρ y]=[x',y']at e;simp only[List.cons.injEq,and_true]at e;obtain⟨l',rfl,rl⟩:=rx;obtain⟨ik,rfl,hlt⟩:=aidx_some h;simp only[VRel]at ry;split at hc
   ·rename_i n' e' hu;simp only[Bool.and_eq_true]at hc;have hn:=Nat.eq_of_beq_eq_true hc.1.1;subst hn;obtain⟨z,rz,hz⟩:=part_run h2 rl hc.1.2 hc.2;refine⟨z,rz,fun w=>?_⟩;have h1:(0:Int)≤Int.ofNat n∧Int.ofNat n<(n':Int):=by simp only[Int.ofNat_eq_natCast];omega
    simp only[execOp,hy,e.1,e.2,ry,Instr.index,asIntOf,Sem.run_bind,Sem.run_pure,run_under hu,Result.andThen_ok];rw[if_pos h1];simp[run_size hc.1.2,hz]
   ·cases hc
  ·cases hc
theorem PS_ext{o:Oper}{ρ:Operand→Value}{i:Nat}{l:List V}{v:V}(hc:chkP P o.op (.ext i)=true)(hv:VsRel m [.tup l] (OV ρ o.op))(h:nth l i=some v):PS P m o ρ v:=by
  simp only[chkP]at hc;split at hc
  ·rename_i x j hy;obtain⟨x',e,r⟩:=one_of hv;rw[hy]at e;simp[Op.operands]at e;obtain⟨l',rfl,rl⟩:=r;have:=Nat.eq_of_beq_eq_true hc;subst this;rw[nth_eq]at h;obtain⟨x,hx,rx⟩:=rl.get i v h;exact⟨x,rx,fun w=>by simp[execOp,hy,e,Instr.extract,hx]⟩
  ·cases hc
theorem PS_mkf{o:Oper}{ρ:Operand→Value}{fn:Fn}{n:Nat}{vs f:List V}(hc:chkP P o.op (.mkf fn n)=true)(hv:VsRel m vs (OV ρ o.op))(h:takeL n vs=some f):PS P m o ρ (.func fn f (dropL vs n)):=by
  simp only[chkP]at hc;split at hc
  ·rename_i fn' first cap hy
   simp only[Bool.and_eq_true,decide_eq_true_eq]at hc;obtain⟨rfl,hn⟩:=hc;have hn':=Nat.eq_of_beq_eq_true hn;obtain⟨rfl,_⟩:=takeL_eq h;rw[dropL_eq];rw[hy]at hv;have ho:OV ρ (.makeFunc fn first cap)=(first.toList.map ρ)++(cap.toList.map ρ):=by simp[OV,Op.operands]
   rw[ho]at hv;have h1:=hv.take n;have h2:=hv.drop n;have hl:(first.toList.map ρ).length=n:=by simp[hn']
   rw[List.take_left' hl]at h1;rw[List.drop_left' hl]at h2;exact⟨.func fn (List.toArray (first.toList.map ρ)) (List.toArray (cap.toList.map ρ)),⟨_,_,rfl,h1,h2⟩,fun w=>by
     have q:∀a:Array Operand,Array.map ρ a=List.toArray (a.toList.map ρ):=fun a=>Array.ext' (by simp);simp[execOp,hy,Instr.makeFunc,q]⟩
  ·cases hc
theorem PS_mki{o:Oper}{ρ:Operand→Value}{t:Nat}{v:V}(hc:chkP P o.op (.mki t)=true)(hv:VsRel m [v] (OV ρ o.op)):PS P m o ρ (.iface t v):=by
  simp only[chkP]at hc;split at hc
  ·rename_i t' x hy;obtain⟨x',e,r⟩:=one_of hv;rw[hy]at e;simp[Op.operands]at e;simp only[Bool.and_eq_true]at hc;have:=Nat.eq_of_beq_eq_true hc.1;subst this;refine⟨.iface t x',⟨x',rfl,r⟩,fun w=>?_⟩;obtain⟨_,hc⟩:=hc;split at hc
   ·cases hc
   ·rename_i d hd hu;simp only[execOp,hy,e,Instr.makeInterface,Sem.run_bind,run_under hu,Result.andThen_ok];cases d<;>first|rfl|exact absurd rfl (hd _)
   ·cases hc
  ·cases hc
theorem one_arg{op:Op}{b:Builtin}{ok:TypeDesc→Bool}(h:oneArg P op b ok=true):∃x ts t d,op=.call {callee:=.builtin b,args:= #[x],argTypes:=ts}∧ts[0]? =some t∧P.underlying t=some d∧ok d=true:=by
  unfold oneArg at h;split at h
  ·rename_i args ts hcl;simp only[Bool.and_eq_true]at h;obtain⟨h1,h2⟩:=h;split at h2
   ·rename_i t ht;split at h2
    ·rename_i d hd;unfold callOf at hcl;split at hcl
     ·rename_i b' args' ts';split at hcl
      ·rename_i hb;subst hb;simp only[Option.some.injEq,Prod.mk.injEq]at hcl;obtain⟨rfl,rfl⟩:=hcl;have hs:=Nat.eq_of_beq_eq_true h1;obtain⟨l⟩:=args';match l,hs with
       |[x],_=>exact⟨x,ts',t,d,rfl,ht,hd,h2⟩
      ·cases hcl
     ·cases hcl
    ·cases h2
   ·cases h2
  ·cases h
theorem PS_lenS{o:Oper}{ρ:Operand→Value}{s:V}{len:Nat}(hc:chkP P o.op .lenS=true)(hv:VsRel m [s] (OV ρ o.op))
    (hs:∀x,VRel m s x→∃a c,x=.slice a len c):PS P m o ρ (.int .i64 len):=by
  obtain⟨x,ts,t,d,hy,ht,hu,hd⟩:=one_arg hc;obtain⟨x',e,r⟩:=one_of hv;rw[hy]at e;simp[Op.operands,Call.operands]at e;obtain⟨a,c,rfl⟩:=hs _ r;refine⟨_,rfl,fun w=>?_⟩;cases d<;>simp at hd;simp[execOp,hy,resolve,invoke,builtin,Builtin.len_,ht,e,run_under hu,goInt]
theorem PS_lenArr{o:Oper}{ρ:Operand→Value}{s:V}{n:Nat}(hc:chkP P o.op (.lenArr n)=true)(hv:VsRel m [s] (OV ρ o.op)):PS P m o ρ (.int .i64 n):=by
  obtain⟨x,ts,t,d,hy,ht,hu,hd⟩:=one_arg hc;refine⟨_,rfl,fun w=>?_⟩;cases d<;>simp at hd;subst hd;simp[execOp,hy,resolve,invoke,builtin,Builtin.len_,ht,run_under hu,goInt]
theorem PS_capS{o:Oper}{ρ:Operand→Value}{s:V}{cap:Nat}(hc:chkP P o.op .capS=true)(hv:VsRel m [s] (OV ρ o.op))
    (hs:∀x,VRel m s x→∃a l,x=.slice a l cap):PS P m o ρ (.int .i64 cap):=by
  obtain⟨x,ts,t,d,hy,ht,hu,hd⟩:=one_arg hc;obtain⟨x',e,r⟩:=one_of hv;rw[hy]at e;simp[Op.operands,Call.operands]at e;obtain⟨a,c,rfl⟩:=hs _ r;refine⟨_,rfl,fun w=>?_⟩;cases d<;>simp at hd;simp[execOp,hy,resolve,invoke,builtin,Builtin.cap_,ht,e,run_under hu,goInt]
theorem PS_capArr{o:Oper}{ρ:Operand→Value}{s:V}{n:Nat}(hc:chkP P o.op (.capArr n)=true)(hv:VsRel m [s] (OV ρ o.op)):PS P m o ρ (.int .i64 n):=by
  obtain⟨x,ts,t,d,hy,ht,hu,hd⟩:=one_arg hc;refine⟨_,rfl,fun w=>?_⟩;cases d<;>simp at hd;subst hd;simp[execOp,hy,resolve,invoke,builtin,Builtin.cap_,ht,run_under hu,goInt]
theorem two_arg{op:Op}{b:Builtin}(h:(match callOf op b with|some (args,_)=>Nat.beq args.size 2|none=>false)=true):∃x y ts,op=.call {callee:=.builtin b,args:= #[x,y],argTypes:=ts}:=by
  split at h
  ·rename_i args ts hcl;unfold callOf at hcl;split at hcl
   ·rename_i b' args' ts';split at hcl
    ·rename_i hb;subst hb;simp only[Option.some.injEq,Prod.mk.injEq]at hcl;obtain⟨rfl,rfl⟩:=hcl;have hs:=Nat.eq_of_beq_eq_true h;obtain⟨l⟩:=args';match l,hs with
     |[x,y],_=>exact⟨x,y,ts',rfl⟩
    ·cases hcl
   ·cases hcl
  ·cases h
theorem PS_mn{o:Oper}{ρ:Operand→Value}{k k':IntKind}{a b:Int}(hc:chkP P o.op .mn=true)(hv:VsRel m [.int k a,.int k' b] (OV ρ o.op)):PS P m o ρ (.int k (bif ilt b a then b else a)):=by
  obtain⟨x,y,ts,hy⟩:=two_arg hc;obtain⟨x',y',e,rx,ry⟩:=two_of hv;rw[hy]at e;change[ρ x,ρ y]=[x',y']at e;simp only[List.cons.injEq,and_true]at e;simp only[VRel]at rx ry;refine⟨.int k (if b<a then b else a),?_,fun w=>?_⟩
  ·rw[ilt_eq];by_cases h:b<a<;>simp[h,VRel]
  ·simp[execOp,hy,resolve,invoke,builtin,Builtin.min_,e.1,e.2,rx,ry,Builtin.min2]
theorem PS_mx{o:Oper}{ρ:Operand→Value}{k k':IntKind}{a b:Int}(hc:chkP P o.op .mx=true)(hv:VsRel m [.int k a,.int k' b] (OV ρ o.op)):PS P m o ρ (.int k (bif ilt a b then b else a)):=by
  obtain⟨x,y,ts,hy⟩:=two_arg hc;obtain⟨x',y',e,rx,ry⟩:=two_of hv;rw[hy]at e;change[ρ x,ρ y]=[x',y']at e;simp only[List.cons.injEq,and_true]at e;simp only[VRel]at rx ry;refine⟨.int k (if b>a then b else a),?_,fun w=>?_⟩
  ·rw[ilt_eq];by_cases h:a<b<;>simp[h,VRel]
  ·simp[execOp,hy,resolve,invoke,builtin,Builtin.max_,e.1,e.2,rx,ry,Builtin.max2]
theorem PS_conv{o:Oper}{ρ:Operand→Value}{k k':IntKind}{n:Int}(hc:chkP P o.op (.conv k)=true)(hv:VsRel m [.int k' n] (OV ρ o.op)):PS P m o ρ (.int k (fwrap k n)):=by
  simp only[chkP]at hc;split at hc
  ·rename_i s d x hy;obtain⟨x',e,r⟩:=one_of hv;rw[hy]at e;simp[Op.operands]at e;simp only[VRel]at r;simp only[Bool.and_eq_true,hasDesc,isInt]at hc;obtain⟨h1,h2⟩:=hc;obtain⟨ds,hds⟩:=Option.isSome_iff_exists.1 h1;split at h2
   ·rename_i k2 hd;have:=kbeq_eq h2;subst this;refine⟨.int k (k.wrap n),by rw[fwrap_eq];rfl,fun w=>?_⟩;simp only[execOp,hy,e,r,convert,Sem.run_bind,run_under hds,run_under hd,Result.andThen_ok];cases ds<;>rfl
   ·cases h2
  ·cases hc
end
section
variable {P : Program} {m : M}
theorem foldSet(off:Nat):∀(l:List Value)(k:Nat)(cs:Array Value),
    ((l.zipIdx k).foldl (fun(cs:Array Value)(p:Value×Nat)=>cs.setIfInBounds (off+p.2) p.1) cs).size=cs.size∧
    ∀j:Nat,j<cs.size→((l.zipIdx k).foldl (fun(cs:Array Value)(p:Value×Nat)=>cs.setIfInBounds (off+p.2) p.1) cs)[j]? =if off+k≤j∧j<off+k+l.length then l[j-(off+k)]? else cs[j]? :=by
  intro l;induction l with
  |nil=>intro k cs;refine⟨rfl,fun j _=>?_⟩;rw[if_neg (by simp)];rfl
  |cons x l ih=>
    intro k cs;simp only[List.zipIdx_cons,List.foldl_cons];obtain⟨h1,h2⟩:=ih (k+1) (cs.setIfInBounds (off+k) x);refine⟨by rw[h1];simp,fun j hj=>?_⟩;rw[h2 j (by simpa using hj)];simp only[List.length_cons];by_cases e:j=off+k
    ·subst e;rw[if_neg (by omega),if_pos (by omega)];simp[hj]
    ·by_cases c:off+(k+1)≤j∧j<off+(k+1)+l.length
     ·rw[if_pos c,if_pos (by omega),show j-(off+k)=(j-(off+(k+1)))+1 by omega];simp
     ·rw[if_neg c,if_neg (by omega),Array.getElem?_setIfInBounds_ne (by omega)]
theorem fill_rel(place:Nat→Option (Nat×Nat)):∀(qs:List (Nat×Nat))(vs:List V)(ps:List (Nat×Value))(c:List V)(c':List Value)(r:List V),
    afill c qs vs=some r→VsRel m c c'→VsRel m vs (ps.map (·.2))→ps.map (fun p=>place p.1)=qs.map some→
    ∃r',Instr.fill place (List.toArray c') ps=some (List.toArray r')∧VsRel m r r':=by
  intro qs;induction qs with
  |nil=>
    intro vs ps c c' r h hc hv hp;cases vs with
    |nil=>
      cases ps with
      |nil=>simp only[afill,Option.some.injEq]at h;subst h;exact⟨c',rfl,hc⟩
      |cons p ps=>simp at hp
    |cons v vs=>simp[afill]at h
  |cons q qs ih=>
    intro vs ps c c' r h hc hv hp;obtain⟨off,size⟩:=q;cases vs with
    |nil=>simp[afill]at h
    |cons v vs=>
      cases ps with
      |nil=>simp at hp
      |cons p ps=>
        obtain⟨i,x⟩:=p;simp only[List.map_cons,List.cons.injEq]at hp;obtain⟨x',xs',e,rx,rxs⟩:=hv;simp only[List.map_cons,List.cons.injEq]at e;obtain⟨rfl,rfl⟩:=e;simp only[afill]at h;cases hb:(Nat.beq v.cells.length size&&Nat.blt 0 size)
        ·rw[hb]at h;cases h
        ·rw[hb]at h;simp only[cond_true]at h;simp only[Bool.and_eq_true,Nat.blt_eq]at hb;have hsz:=Nat.eq_of_beq_eq_true hb.1;have hn:v.cells≠[]:=by intro q;rw[q]at hsz;simp at hsz;omega
         have rc:=rx.cells;have hxl:=rc.length;cases hu:updO c off v.cells with
         |none=>rw[hu]at h;cases h
         |some c1=>
           rw[hu]at h;simp only[]at h;obtain⟨u1,u2,u3⟩:=updO_spec _ _ _ _ hu;have hcl:=hc.length
           -- the model's step
           obtain⟨f1,f2⟩:=foldSet off x.cells.toList 0 (List.toArray c');let F:=(x.cells.toList.zipIdx 0).foldl (fun(cs:Array Value)(p:Value×Nat)=>cs.setIfInBounds (off+p.2) p.1) (List.toArray c');have hrel:VsRel m c1 F.toList:=by
             refine VsRel.of_get ?_ fun j u hj=>?_
             ·show F.toList.length=_;rw[Array.length_toList,u1];exact f1.trans (by simp[hcl])
             ·have hjl:j<c.length:=by
                rcases Nat.lt_or_ge j c.length with q|q
                ·exact q
                ·rw[List.getElem?_eq_none (by omega)]at hj;cases hj
              rw[u3 j]at hj;have:=f2 j (by simp;omega);simp only[Nat.add_zero]at this;have e:F.toList[j]? =F[j]? :=by simp
              rw[e,show F[j]? =_ from this,hxl];split at hj
              ·rename_i hc';rw[if_pos hc'];exact rc.get _ _ hj
              ·rename_i hc';rw[if_neg hc'];obtain⟨y,hy,ry⟩:=hc.get _ _ hj;exact⟨y,by simpa using hy,ry⟩
           obtain⟨r',hr1,hr2⟩:=ih vs ps c1 F.toList r h hrel rxs hp.2;refine⟨r',?_,hr2⟩;simp only[Instr.fill,hp.1];rw[if_neg]
           ·have e:(x.cells.zipIdx.foldl (fun(cs:Array Value)(p:Value×Nat)=>cs.setIfInBounds (off+p.2) p.1) (List.toArray c'))=F:=by
              rw[←Array.foldl_toList];simp[F]
            rw[show(x.cells.zipIdx.foldl (fun cs (c,j)=>cs.setIfInBounds (off+j) c) (List.toArray c'))=F from e];simpa using hr1
           ·simp only[Array.length_toList]at hxl;have:=u2 hn;simp;constructor<;>omega
theorem mapM_tot{α β:Type}{f:α→Option β}(d:β):∀{l:List α},(∀x∈l,∃y,f x=some y)→l.mapM f=some (l.map fun x=>(f x).getD d)
  |[],_=>rfl
  |x::l,h=>by
    obtain⟨y,hy⟩:=h x (by simp);simp[List.mapM_cons,hy,mapM_tot d (l:=l) fun z hz=>h z (by simp[hz])]
theorem built_rel{t:TypeId}{zero:List V}{places:List (Nat×Nat)}{parts:List (Nat×Operand)}{ρ:Operand→Value}{vs c:List V}
    (hz:zeroIs P t zero=true) (hp:placesOK P t parts places=true) (hs:sizesOK P t=true) (hv:VsRel m vs (parts.map fun p=>ρ p.2)) (h:afill zero places vs=some c):
    ∃c',P.built t (parts.map fun p=>(p.1,ρ p.2))=some (List.toArray c')∧VsRel m c c':=by
  unfold zeroIs at hz;split at hz
  ·rename_i it hit;split at hz
   ·rename_i z hzz;have hzr:VsRel m zero z.cells.toList:=vsis_rel m _ _ hz;have hv':VsRel m vs ((parts.map fun p=>(p.1,ρ p.2)).map (·.2)):=by simpa[Function.comp_def]using hv
    unfold sizesOK at hs;split at hs
    ·rename_i fields hu;have hall:∀f∈fields.toList,∃y,(P.info? f.type).map (fun i=>(f.offset,i.size))=some y:=by
       intro f hf;have:=List.all_eq_true.1 hs f hf;obtain⟨i,hi⟩:=Option.isSome_iff_exists.1 this;exact⟨_,by rw[hi];rfl⟩
     have hmm:=mapM_tot (f:=fun f:Field=>(P.info? f.type).map fun i=>(f.offset,i.size)) ((0:Nat),(0:Nat)) hall;have hpl:∀(qs:List (Nat×Nat))(ps:List (Nat×Operand)),placesOK P t ps qs=true→
         (ps.map fun p=>(p.1,ρ p.2)).map (fun p=>(List.toArray (fields.toList.map fun x=>((P.info? x.type).map fun i=>(x.offset,i.size)).getD (0,0)))[p.1]?)=qs.map some:=by
       intro qs;induction qs with
       |nil=>intro ps hps;cases ps with
         |nil=>rfl
         |cons p ps=>simp[placesOK]at hps
       |cons q qs ih=>intro ps hps;cases ps with
         |nil=>simp[placesOK]at hps
         |cons p ps=>
           obtain⟨i,x⟩:=p;obtain⟨off,n⟩:=q;simp only[placesOK,hu,Bool.and_eq_true]at hps;obtain⟨h1,h2⟩:=hps;split at h1
           ·rename_i fd hfd;simp only[Bool.and_eq_true]at h1;have hoff:=Nat.eq_of_beq_eq_true h1.1;have hsi:=h1.2;unfold sizeIs at hsi;split at hsi
            ·rename_i i' hi';have hn:=Nat.eq_of_beq_eq_true hsi;simp only[List.map_cons,List.cons.injEq];refine⟨?_,ih ps h2⟩;have:fields.toList[i]? =some fd:=by simpa using hfd
             simp[this,hi',hoff,hn]
            ·cases hsi
           ·cases h1
     obtain⟨r',h1,h2⟩:=fill_rel _ places vs _ zero z.cells.toList c h hzr hv' (hpl places parts hp);refine⟨r',?_,h2⟩;unfold Program.built;simp only[hit,hu,hzz,hmm];exact(by simpa using h1:Instr.fill _ z.cells _=_)
    ·rename_i n e hu;obtain⟨ie,hie⟩:=Option.isSome_iff_exists.1 hs;have hpl:∀(qs:List (Nat×Nat))(ps:List (Nat×Operand)),placesOK P t ps qs=true→
         (ps.map fun p=>(p.1,ρ p.2)).map (fun p=>some (p.1*ie.size,ie.size))=qs.map some:=by
       intro qs;induction qs with
       |nil=>intro ps hps;cases ps with
         |nil=>rfl
         |cons p ps=>simp[placesOK]at hps
       |cons q qs ih=>intro ps hps;cases ps with
         |nil=>simp[placesOK]at hps
         |cons p ps=>
           obtain⟨i,x⟩:=p;obtain⟨off,n⟩:=q;simp only[placesOK,hu,Bool.and_eq_true]at hps;obtain⟨⟨h1,h3⟩,h2⟩:=hps;have hoff:=Nat.eq_of_beq_eq_true h1;unfold sizeIs at h3;rw[hie]at h3;have hn:=Nat.eq_of_beq_eq_true h3;simp only[List.map_cons,List.cons.injEq];refine⟨?_,ih ps h2⟩;simp[hoff,←hn]
     obtain⟨r',h1,h2⟩:=fill_rel (fun i=>some (i*ie.size,ie.size)) places vs _ zero z.cells.toList c h hzr hv' (hpl places parts hp);refine⟨r',?_,h2⟩;unfold Program.built;simp only[hit,hu,hzz,hie];simpa using h1
    ·cases hs
   ·cases hz
  ·cases hz
theorem PS_build{o:Oper}{ρ:Operand→Value}{zero:List V}{places:List (Nat×Nat)}{vs c:List V}(hc:chkP P o.op (.build zero places)=true)(hv:VsRel m vs (OV ρ o.op))
    (h:afill zero places vs=some c):PS P m o ρ (.agg c):=by
  simp only[chkP]at hc;split at hc
  ·rename_i t parts hy;simp only[Bool.and_eq_true]at hc;obtain⟨⟨h1,h2⟩,h3⟩:=hc;rw[hy]at hv;have hv':VsRel m vs (parts.toList.map fun p=>ρ p.2):=by simpa[OV,Op.operands,Function.comp_def]using hv
   obtain⟨c',hb,rc⟩:=built_rel h1 h2 h3 hv' h;refine⟨.agg (List.toArray c'),⟨c',rfl,rc⟩,fun w=>?_⟩;have:=run_build (P:=P) w t (parts.map fun(i,x)=>(i,ρ x)) (List.toArray c') (by simpa using hb);simp[execOp,hy,this]
  ·cases hc
end
section
variable {P : Program} {m : M}
theorem abound_some{v:V}{y n:Nat}(h:abound v y=some n):∃k,v=.int k (.ofNat n)∧n≤y:=by
  unfold abound at h;split at h
  ·rename_i k n';cases hb:Nat.ble n' y
   ·rw[hb]at h;cases h
   ·rw[hb]at h;cases h;exact⟨k,rfl,Nat.le_of_ble_eq_true hb⟩
  ·cases h
theorem abound_run{v:V}{y n cap:Nat}{x:Value}(h:abound v y=some n)(r:VRel m v x)(hy:y≤cap)(c:BoundsCode)(w:World):(Instr.sliceBound x cap c).run P w=.ok n w:=by
  obtain⟨k,rfl,hn⟩:=abound_some h;simp only[VRel]at r;subst r;have h1:(0:Int)≤Int.ofNat n∧Int.ofNat n≤(cap:Int):=by simp only[Int.ofNat_eq_natCast];omega
  simp only[Instr.sliceBound,asIntOf,Sem.run_bind,Sem.run_pure,Result.andThen_ok];rw[if_pos h1];rfl
theorem abounds_run{len y cap:Nat}{lo hi mx isS:Bool}{bs:List V}{l h:Nat}{mo:Option Nat}(hh:abounds len y lo hi mx bs=some (l,h,mo))(hy:y≤cap)(hl:len≤y)
    {a b c:Option Value} (e1:a.isSome=lo) (e2:b.isSome=hi) (e3:c.isSome=mx) (r:VsRel m bs (a.toList++b.toList++c.toList)) (w:World):
    (Instr.sliceBounds isS len cap a b c).run P w=.ok (l,h,mo.getD cap) w∧l≤h∧h≤mo.getD y∧mo.getD y≤y:=by
  unfold abounds at hh;split at hh
  ·cases a<;>cases b<;>cases c<;>simp at e1 e2 e3;cases hh;refine⟨by simp[Instr.sliceBounds],by omega,by simpa using hl,by simp⟩
  ·rename_i v;cases a<;>cases b<;>cases c<;>simp at e1 e2 e3;rename_i x;obtain⟨x',e,rx⟩:=one_of r;simp at e;subst e;cases hb:abound v len with
   |none=>rw[hb]at hh;cases hh
   |some n=>
     rw[hb]at hh;cases hh;obtain⟨_,_,hle⟩:=abound_some hb;refine⟨?_,hle,by simpa using hl,by simp⟩;simp[Instr.sliceBounds,abound_run hb rx (Nat.le_refl len)]
  ·rename_i v;cases a<;>cases b<;>cases c<;>simp at e1 e2 e3;rename_i x;obtain⟨x',e,rx⟩:=one_of r;simp at e;subst e;cases hb:abound v y with
   |none=>rw[hb]at hh;cases hh
   |some n=>
     rw[hb]at hh;cases hh;obtain⟨_,_,hle⟩:=abound_some hb;refine⟨?_,by omega,by simpa using hle,by simp⟩;simp[Instr.sliceBounds,abound_run hb rx hy]
  ·rename_i u v;cases a<;>cases b<;>cases c<;>simp at e1 e2 e3;rename_i x z;obtain⟨x',z',e,rx,rz⟩:=two_of r;simp at e;obtain⟨rfl,rfl⟩:=e;cases hb:abound v y with
   |none=>rw[hb]at hh;cases hh
   |some n=>
     rw[hb]at hh;simp only[Option.bind_some]at hh;cases hc:abound u n with
     |none=>rw[hc]at hh;cases hh
     |some k=>
       rw[hc]at hh;cases hh;obtain⟨_,_,hle⟩:=abound_some hb;obtain⟨_,_,hle2⟩:=abound_some hc;refine⟨?_,hle2,by simpa using hle,by simp⟩;simp[Instr.sliceBounds,abound_run hb rz hy,abound_run hc rx (Nat.le_refl h)]
  ·rename_i u v;cases a<;>cases b<;>cases c<;>simp at e1 e2 e3;rename_i x z;obtain⟨x',z',e,rx,rz⟩:=two_of r;simp at e;obtain⟨rfl,rfl⟩:=e;cases hb:abound v y with
   |none=>rw[hb]at hh;cases hh
   |some n=>
     rw[hb]at hh;simp only[Option.bind_some]at hh;cases hc:abound u n with
     |none=>rw[hc]at hh;cases hh
     |some k=>
       rw[hc]at hh;cases hh;obtain⟨_,_,hle⟩:=abound_some hb;obtain⟨_,_,hle2⟩:=abound_some hc;refine⟨?_,by omega,by simpa using hle2,by simpa using hle⟩;simp[Instr.sliceBounds,abound_run hb rz hy,abound_run hc rx (Nat.le_refl n)]
  ·rename_i t u v;cases a<;>cases b<;>cases c<;>simp at e1 e2 e3;rename_i p x z;obtain⟨p',x',z',e,rp,rx,rz⟩:=three_of r;simp at e;obtain⟨rfl,rfl,rfl⟩:=e;cases hb:abound v y with
   |none=>rw[hb]at hh;cases hh
   |some n=>
     rw[hb]at hh;simp only[Option.bind_some]at hh;cases hc:abound u n with
     |none=>rw[hc]at hh;cases hh
     |some k=>
       rw[hc]at hh;simp only[Option.bind_some]at hh;cases hd:abound t k with
       |none=>rw[hd]at hh;cases hh
       |some j=>
         rw[hd]at hh;cases hh;obtain⟨_,_,hle⟩:=abound_some hb;obtain⟨_,_,hle2⟩:=abound_some hc;obtain⟨_,_,hle3⟩:=abound_some hd;refine⟨?_,hle3,by simpa using hle2,by simpa using hle⟩;simp[Instr.sliceBounds,abound_run hb rz hy,abound_run hc rx (Nat.le_refl n),abound_run hd rp (Nat.le_refl h)]
  ·cases hh
theorem off_eq(blk base o l esz mm:Nat):(if mm=l then(⟨blk,base+o,none⟩:Addr)else Addr.add ⟨blk,base+o,none⟩ (l*esz))=⟨blk,base+(bif Nat.beq mm l then o else o+l*esz),none⟩:=by
  by_cases h:mm=l
  ·rw[if_pos h,h,Nat.beq_refl];rfl
  ·rw[if_neg h,add_mk];have:Nat.beq mm l=false:=by
     cases hb:Nat.beq mm l
     ·rfl
     ·exact absurd (Nat.eq_of_beq_eq_true hb) h
   rw[this];simp[Nat.add_assoc]
theorem sl_parts{t:TypeId}{x:Operand}{l h mxo:Option Operand}(ρ:Operand→Value):OV ρ (.slice t x l h mxo)=ρ x::((l.map ρ).toList++(h.map ρ).toList++(mxo.map ρ).toList):=by
  cases l<;>cases h<;>cases mxo<;>simp[OV,Op.operands]
theorem PS_slarr{o:Oper}{ρ:Operand→Value}{n esz:Nat}{lo hi mx:Bool}{v r:V}{bs:List V}(hc:chkP P o.op (.sl (some n) esz lo hi mx)=true)(hv:VsRel m (v::bs) (OV ρ o.op))
    (h:aslarr n v esz lo hi mx bs=some r):PS P m o ρ r:=by
  simp only[chkP]at hc;split at hc
  ·rename_i t x l hh mxo hy;simp only[Bool.and_eq_true,beq_iff_eq]at hc;obtain⟨⟨⟨he,h1⟩,h2⟩,h3⟩:=hc;obtain⟨e,hu,hs⟩:=elem_arr he;rw[hy,sl_parts]at hv;obtain⟨x',xs',e',rv,rb⟩:=hv;simp only[List.cons.injEq]at e';obtain⟨rfl,rfl⟩:=e';unfold aslarr at h;split at h
   ·rename_i b k;obtain⟨loc,hm,hx⟩:=rv;cases ha:abounds n n lo hi mx bs with
    |none=>rw[ha]at h;cases h
    |some q=>
      obtain⟨l',h',m'⟩:=q;rw[ha]at h;simp only[Option.map_some,Option.some.injEq]at h;subst h;have hr:=fun w=>(abounds_run (P:=P) (isS:=false) ha (Nat.le_refl n) (Nat.le_refl n) (by simpa using h1) (by simpa using h2) (by simpa using h3) rb w).1;have hbd:=(abounds_run (P:=P) (isS:=false) ha (Nat.le_refl n) (Nat.le_refl n) (by simpa using h1) (by simpa using h2) (by simpa using h3) rb default).2;refine⟨_,⟨loc,hm,by omega,rfl⟩,fun w=>?_⟩;simp only[execOp,hy,Instr.sliceAt,hx,Instr.sureAddr,Sem.run_bind,Sem.run_pure,run_under hu,Result.andThen_ok,hr w,run_size hs,off_eq]
   ·cases h
  ·cases hc
theorem PS_sl{o:Oper}{ρ:Operand→Value}{esz:Nat}{lo hi mx:Bool}{v r:V}{bs:List V}(hc:chkP P o.op (.sl none esz lo hi mx)=true)(hv:VsRel m (v::bs) (OV ρ o.op))
    (h:aslice v esz lo hi mx bs=some r):PS P m o ρ r:=by
  simp only[chkP]at hc;split at hc
  ·rename_i t x l hh mxo hy;simp only[Bool.and_eq_true,beq_iff_eq]at hc;obtain⟨⟨⟨he,h1⟩,h2⟩,h3⟩:=hc;obtain⟨e,hu,hs⟩:=elem_slice he;rw[hy,sl_parts]at hv;obtain⟨x',xs',e',rv,rb⟩:=hv;simp only[List.cons.injEq]at e';obtain⟨rfl,rfl⟩:=e';unfold aslice at h;split at h
   ·simp only[VRel]at rv;cases ha:abounds 0 0 lo hi mx bs with
    |none=>rw[ha]at h;cases h
    |some q=>
      obtain⟨l',h',m'⟩:=q;rw[ha]at h;simp only[Option.map_some,Option.some.injEq]at h;subst h;have hr:=fun w=>abounds_run (P:=P) (isS:=true) ha (Nat.le_refl 0) (Nat.le_refl 0) (by simpa using h1) (by simpa using h2) (by simpa using h3) rb w;have hb:=(hr default).2;have hm0:m'.getD 0=0:=by omega
      have hl0:l'=0:=by omega
      have hh0:h'=0:=by omega
      refine⟨_,rfl,fun w=>?_⟩;simp only[execOp,hy,Instr.sliceAt,Instr.slice,rv,Sem.run_bind,Sem.run_pure,run_under hu,Result.andThen_ok,(hr w).1,run_size hs,hm0,hl0,hh0];simp
   ·rename_i b k len cap;obtain⟨loc,hm,hcl,hx⟩:=rv;cases ha:abounds len cap lo hi mx bs with
    |none=>rw[ha]at h;cases h
    |some q=>
      obtain⟨l',h',m'⟩:=q;rw[ha]at h;simp only[Option.map_some,Option.some.injEq]at h;subst h;have hr:=fun w=>(abounds_run (P:=P) (isS:=true) ha (Nat.le_refl cap) hcl (by simpa using h1) (by simpa using h2) (by simpa using h3) rb w).1;have hbd:=(abounds_run (P:=P) (isS:=true) ha (Nat.le_refl cap) hcl (by simpa using h1) (by simpa using h2) (by simpa using h3) rb default).2;refine⟨_,⟨loc,hm,by omega,rfl⟩,fun w=>?_⟩;simp only[execOp,hy,Instr.sliceAt,Instr.slice,hx,Sem.run_bind,Sem.run_pure,run_under hu,Result.andThen_ok,hr w,run_size hs];have:=off_eq loc.block loc.base k l' esz (m'.getD cap);by_cases q:m'.getD cap=l'
      ·rw[if_pos q]at this⊢;rw[this]
      ·rw[if_neg q]at this⊢;simp only[Option.map_some];rw[this]
   ·rename_i b k len e0;cases hb:(Nat.beq e0 esz&&Nat.blt 0 e0)
    ·rw[hb]at h;cases h
    ·rw[hb]at h;simp only[cond_true]at h;simp only[Bool.and_eq_true,Nat.blt_eq]at hb;obtain⟨hb1,hb2⟩:=hb;have he0:=Nat.eq_of_beq_eq_true hb1;subst he0;obtain⟨loc,hm,hlc,hx⟩:=rv;cases ha:abounds len len lo hi mx bs with
     |none=>rw[ha]at h;cases h
     |some q=>
       obtain⟨l',h',m'⟩:=q;rw[ha]at h;simp only[Option.bind_some]at h;have hr:=fun w=>abounds_run (P:=P) (isS:=true) ha hlc (Nat.le_refl len) (by simpa using h1) (by simpa using h2) (by simpa using h3) rb w;have hbd:=(hr default).2;have run:∀w,(execOp ρ o).run P w=.ok (.value (.slice (if m'.getD ((loc.room-k)/e0)=l' then some ⟨loc.block,loc.base+k,none⟩else(some (Addr.add ⟨loc.block,loc.base+k,none⟩ (l'*e0)))) (h'-l') (m'.getD ((loc.room-k)/e0)-l'))) w:=by
         intro w;simp only[execOp,hy,Instr.sliceAt,Instr.slice,hx,Sem.run_bind,Sem.run_pure,run_under hu,Result.andThen_ok,(hr w).1,run_size hs];rfl
       cases m' with
       |some mm=>
         simp only[Option.some.injEq]at h;subst h;simp only[Option.getD_some]at run hbd;refine⟨_,⟨loc,hm,by omega,rfl⟩,fun w=>?_⟩;rw[run w];have:=off_eq loc.block loc.base k l' e0 mm;by_cases q:mm=l'
         ·rw[if_pos q]at this⊢;rw[this]
         ·rw[if_neg q]at this⊢;rw[this]
       |none=>
         simp only[Option.getD_none]at run hbd;simp only[]at h;cases hlt:Nat.blt l' len
         ·rw[hlt]at h;simp only[cond_false]at h;have hge:¬l'<len:=by intro q;rw[←Nat.blt_eq]at q;rw[q]at hlt;cases hlt
          cases hz:Nat.beq l' 0
          ·rw[hz]at h;simp only[cond_false,Option.some.injEq]at h;subst h;have hhl:h'-l'=0:=by omega
           refine⟨.slice (if(loc.room-k)/e0=l' then some ⟨loc.block,loc.base+k,none⟩else(some (Addr.add ⟨loc.block,loc.base+k,none⟩ (l'*e0)))) (h'-l') ((loc.room-k)/e0-l'),?_,run⟩;rw[hhl];by_cases q:(loc.room-k)/e0=l'
           ·rw[if_pos q];exact⟨_,_,rfl⟩
           ·rw[if_neg q];exact⟨_,_,rfl⟩
          ·rw[hz]at h;simp only[cond_true,Option.some.injEq]at h;subst h;have hl0:=Nat.eq_of_beq_eq_true hz;subst hl0;refine⟨_,⟨loc,hm,by omega,rfl⟩,fun w=>?_⟩;rw[run w];simp only[Nat.zero_mul,add_mk,Nat.add_zero,ite_self,Nat.sub_zero]
         ·rw[hlt]at h;simp only[cond_true,Option.some.injEq]at h;subst h;have hlt':l'<len:=by simpa[Nat.blt_eq]using hlt
          have hd:(loc.room-(k+l'*e0))/e0=(loc.room-k)/e0-l':=by
            rw[←Nat.sub_sub,Nat.mul_comm,Nat.sub_mul_div]
          refine⟨_,⟨loc,hm,by omega,rfl⟩,fun w=>?_⟩;rw[run w,if_neg (by omega),add_mk];rw[hd,Nat.add_assoc]
   ·cases h
  ·cases hc
theorem ba_toList(s:List UInt8):(⟨s.toArray⟩:ByteArray).toList=s:=by rw[ByteArray.toList_eq]
theorem leaf_run{t:TypeId}{k:Nat}(h:leafIs P t k=true):aggIs P t false=true:=by
  unfold leafIs at h;unfold aggIs;split at h
  ·rename_i hu;rw[hu];rfl
  ·rename_i hu;rw[hu];rfl
  ·rename_i hu;rw[hu];rfl
  ·cases h
theorem cmpL_run(d:Nat){w:World}:∀(ks:List Nat)(fs:List Field)(j:Nat)(xs ys:List Value)(l l':List V)(r:Bool),flatOK P j fs ks=true→
    VsRel m l (xs.drop j)→VsRel m l' (ys.drop j)→cmpL ks l l'=some r→(Op.eqFields (d+1) (List.toArray xs) (List.toArray ys) fs).run P w=.ok r w
  |[],[],j,xs,ys,l,l',r,hf,hl,hl',hc=>by simp only[cmpL,Option.some.injEq]at hc;subst hc;rfl
  |[],_::_,_,_,_,_,_,_,hf,_,_,_=>by simp[flatOK]at hf
  |_::_,[],_,_,_,_,_,_,hf,_,_,_=>by simp[flatOK]at hf
  |k::ks,f::fs,j,xs,ys,l,l',r,hf,hl,hl',hc=>by
    simp only[flatOK,Bool.and_eq_true,Bool.not_eq_true',beq_eq_false_iff_ne]at hf;obtain⟨⟨⟨hname,hoff⟩,hleaf⟩,hrest⟩:=hf;have hoff:=Nat.eq_of_beq_eq_true hoff;have hagg:=leaf_run hleaf;have dropS:∀(zs:List Value)(u:V)(us:List V),VsRel m (u::us) (zs.drop j)→∃x,zs[j]? =some x∧VRel m u x∧VsRel m us (zs.drop (j+1)):=by
      rintro zs u us ⟨x,xs',e,r1,r2⟩;have h0:(zs.drop j)[0]? =some x:=by rw[e];rfl
      rw[List.getElem?_drop]at h0;refine⟨x,by simpa using h0,r1,?_⟩;have:zs.drop (j+1)=xs':=by rw[←List.drop_drop,e];rfl
      rw[this];exact r2
    have partR:∀(zs:List Value) x,zs[j]? =some x→(part f.type (List.toArray zs) f.offset).run P w=.ok x w:=by
      intro zs x hx;simp[part,run_agg hagg,hoff,hx]
    cases l with
    |nil=>cases k with
      |zero=>simp[cmpL]at hc
      |succ k=>cases k with
        |zero=>simp[cmpL]at hc
        |succ k=>cases k<;>simp[cmpL]at hc
    |cons u us=>
      cases l' with
      |nil=>cases k with
        |zero=>cases u<;>simp[cmpL]at hc
        |succ k=>cases k with
          |zero=>cases u<;>simp[cmpL]at hc
          |succ k=>cases k<;>cases u<;>simp[cmpL]at hc
      |cons v vs=>
        obtain⟨x,hx,rx,rus⟩:=dropS xs u us hl;obtain⟨y,hy,ry,rvs⟩:=dropS ys v vs hl';have step:∀(b:Bool),(Op.equalIn (d+1) f.type x y).run P w=.ok b w→(b=true→cmpL ks us vs=some r)→(b=false→r=false)→
            (Op.eqFields (d+1) (List.toArray xs) (List.toArray ys) (f::fs)).run P w=.ok r w:=by
          intro b hb h1 h2;simp only[Op.eqFields];rw[if_pos hname];simp only[Sem.run_bind,partR xs x hx,partR ys y hy,Result.andThen_ok,hb];cases b
          ·have:=h2 rfl;subst this;rfl
          ·simp only[Bool.not_true,Bool.false_eq_true,if_false];exact cmpL_run d ks fs (j+1) xs ys us vs r hrest rus rvs (h1 rfl)
        unfold leafIs at hleaf;split at hleaf
        ·rename_i k0 hu;cases u<;>cases v<;>simp only[cmpL]at hc<;>first|(cases hc;done)|skip
         rename_i t a t' b;simp only[VRel]at rx ry;subst rx;subst ry;cases hk:kbeq t t'
         ·rw[hk]at hc;cases hc
         ·rw[hk]at hc;simp only[cond_true]at hc;have:=kbeq_eq hk;subst this;refine step (a==b) (run_equalIn_int w d f.type t k0 a b hu) (fun q=>?_) (fun q=>?_)
          ·rw[ieq_eq,q]at hc;exact hc
          ·rw[ieq_eq,q]at hc;simpa using hc.symm
        ·rename_i hu;cases u<;>cases v<;>simp only[cmpL]at hc<;>first|(cases hc;done)|skip
         rename_i a b;simp only[VRel]at rx ry;subst rx;subst ry;refine step (a==b) (equal_bool hu a b d) (fun q=>?_) (fun q=>?_)
         ·cases a<;>cases b<;>simp_all
         ·cases a<;>cases b<;>simp_all
        ·rename_i hu;cases u<;>cases v<;>simp only[cmpL]at hc<;>first|(cases hc;done)|skip
         rename_i a b;simp only[VRel]at rx ry;subst rx;subst ry;refine step (a==b) (by rw[run_equalIn_string w d f.type _ _ hu,ba_toList,ba_toList]) (fun q=>?_) (fun q=>?_)
         ·rw[q]at hc;exact hc
         ·rw[q]at hc;simpa using hc.symm
        ·cases hleaf
theorem PS_seq{o:Oper}{ρ:Operand→Value}{ne:Bool}{ks:List Nat}{l l':List V}{r:Bool}(hc:chkP P o.op (.seq ne ks)=true)(hv:VsRel m [.agg l,.agg l'] (OV ρ o.op))(h:cmpL ks l l'=some r):
    PS P m o ρ (.bool (bif ne then !r else r)):=by
  simp only[chkP]at hc;split at hc
  ·rename_i b' t x y yt hy;simp only[Bool.and_eq_true,decide_eq_true_eq]at hc;obtain⟨hb,hs⟩:=hc;unfold seqIs at hs;split at hs
   ·rename_i fields hu;simp only[Bool.and_eq_true,Bool.not_eq_true']at hs;obtain⟨⟨h1,h2⟩,h3⟩:=hs;obtain⟨x',y',e,rx,ry⟩:=two_of hv;rw[hy]at e;change[ρ x,ρ y]=[x',y']at e;simp only[List.cons.injEq,and_true]at e;obtain⟨xs,rfl,rxs⟩:=rx;obtain⟨ys,rfl,rys⟩:=ry;have hfo:P.fieldsOf t=fields:=by unfold Program.fieldsOf;rw[hu]
    have heq:∀w,(Op.equalIn (9999+1) t (.agg (List.toArray xs)) (.agg (List.toArray ys))).run P w=.ok r w:=by
      intro w;rw[run_equalIn_struct w 9999 t _ _ (by rw[hfo];exact hu) h1,hfo];exact cmpL_run 9998 ks fields.toList 0 xs ys l l' r h3 (by simpa using rxs) (by simpa using rys) h
    refine⟨_,rfl,fun w=>?_⟩;subst hb;cases ne
    ·simp only[cond_false]at hy⊢;simp only[execOp,hy,e.1,e.2,Sem.run_bind,run_eqGuard_agg w .eql t x y _ _ h2,Result.andThen_ok,run_eql_struct w t,heq w];rfl
    ·simp only[cond_true]at hy⊢;simp only[execOp,hy,e.1,e.2,Sem.run_bind,run_eqGuard_agg w .neq t x y _ _ h2,Result.andThen_ok,run_neq_struct w t,heq w];rfl
   ·cases hs
  ·cases hc
theorem strBin_run{op:BinOp}{a b:List UInt8}{v:V}(h:strBin op a b=some v)(w:World)(t:TypeId):∃x,(binOp op t (.string ⟨a.toArray⟩) (.string ⟨b.toArray⟩)).run P w=.ok x w∧VRel m v x:=by
  have e:binOp op t (.string ⟨a.toArray⟩) (.string ⟨b.toArray⟩)=Op.stringOp op ⟨a.toArray⟩ ⟨b.toArray⟩:=by cases op<;>rfl
  rw[e];cases op<;>simp only[strBin]at h;case add=>
    cases hb:Nat.blt (a.length+b.length) 9223372036854775808
    ·rw[hb]at h;cases h
    ·rw[hb]at h;simp only[cond_true]at h;cases h;have hlt:a.length+b.length<9223372036854775808:=by simpa[Nat.blt_eq]using hb
     have hs:¬(((⟨a.toArray⟩:ByteArray).size+(⟨b.toArray⟩:ByteArray).size:Nat):Int)>IntKind.i64.max:=by
       have h1:(⟨a.toArray⟩:ByteArray).size=a.length:=by simp[ByteArray.size]
       have h2:(⟨b.toArray⟩:ByteArray).size=b.length:=by simp[ByteArray.size]
       rw[h1,h2];simp[IntKind.max,IntKind.signed,IntKind.bits];omega
     refine⟨.string (⟨a.toArray⟩++⟨b.toArray⟩),?_,?_⟩
     ·simp only[Op.stringOp];rw[if_neg hs];rfl
     ·simp only[VRel];congr 1
  all_goals first
    |(cases h;done)
    |(cases h;exact⟨_,rfl,by simp only[VRel,ba_toList]⟩)
theorem PS_sb{o:Oper}{ρ:Operand→Value}{op:BinOp}{a b:List UInt8}{v:V}(hc:chkP P o.op (.sb op)=true)(hv:VsRel m [.str a,.str b] (OV ρ o.op))(h:strBin op a b=some v):PS P m o ρ v:=by
  simp only[chkP]at hc;split at hc
  ·rename_i b' t x y yt hy;have hb:op=b':=by simpa using hc
   subst hb;obtain⟨x',y',e,rx,ry⟩:=two_of hv;rw[hy]at e;change[ρ x,ρ y]=[x',y']at e;simp only[List.cons.injEq,and_true]at e;simp only[VRel]at rx ry;have hg:∀w,(eqGuard op t x y (.string ⟨a.toArray⟩) (.string ⟨b.toArray⟩)).run P w=.ok () w:=fun w=>by cases op<;>rfl
   obtain⟨z,_,rz⟩:=strBin_run (P:=P) (m:=m) h default t;refine⟨z,rz,fun w=>?_⟩;obtain⟨z',hz,rz'⟩:=strBin_run (P:=P) (m:=m) h w t;have:z'=z:=by
     cases v with
     |str s=>simp only[VRel]at rz rz';rw[rz,rz']
     |bool s=>simp only[VRel]at rz rz';rw[rz,rz']
     |_=>cases op<;>simp only[strBin]at h<;>first|(cases h;done)|(cases hq:Nat.blt (a.length+b.length) 9223372036854775808<;>rw[hq]at h<;>cases h)
   rw[←this];simp only[execOp,hy,e.1,e.2,rx,ry,Sem.run_bind,hg w,Result.andThen_ok,hz];rfl
  ·cases hc
theorem PS_lenStr{o:Oper}{ρ:Operand→Value}{a:List UInt8}(hc:chkP P o.op .lenStr=true)(hv:VsRel m [.str a] (OV ρ o.op)):PS P m o ρ (.int .i64 (a.length:Nat)):=by
  obtain⟨x,ts,t,d,hy,ht,hu,hd⟩:=one_arg hc;obtain⟨x',e,r⟩:=one_of hv;rw[hy]at e;simp[Op.operands,Call.operands]at e;simp only[VRel]at r;refine⟨_,rfl,fun w=>?_⟩;cases d<;>simp at hd;have hsz:(⟨a.toArray⟩:ByteArray).size=a.length:=by simp[ByteArray.size]
  simp[execOp,hy,resolve,invoke,builtin,Builtin.len_,ht,e,r,run_under hu,goInt,hsz]
theorem isStr_some{t:TypeId}(h:isStr P t=true):P.underlying t=some .string:=by unfold isStr at h;split at h<;>simp_all
theorem PS_ixstr{o:Oper}{ρ:Operand→Value}{a:List UInt8}{k:IntKind}{i:Nat}{c:UInt8}(hc:chkP P o.op .ixstr=true)(hv:VsRel m [.str a,.int k (.ofNat i)] (OV ρ o.op))(h:a[i]? =some c):PS P m o ρ (.int .u8 (c.toNat:Nat)):=by
  simp only[chkP]at hc;split at hc
  ·rename_i t x y hy;obtain⟨x',y',e,rx,ry⟩:=two_of hv;rw[hy]at e;change[ρ x,ρ y]=[x',y']at e;simp only[List.cons.injEq,and_true]at e;simp only[VRel]at rx ry;have hu:=isStr_some hc;refine⟨_,rfl,fun w=>?_⟩;have hg:(⟨a.toArray⟩:ByteArray)[i]? =some c:=by
     have hlt:i<a.length:=(List.getElem?_eq_some_iff.1 h).1;have hs:i<(⟨a.toArray⟩:ByteArray).size:=by simpa[ByteArray.size]using hlt
     rw[getElem?_pos _ i hs];rw[List.getElem?_eq_getElem hlt]at h;exact h
   simp only[execOp,hy,e.1,e.2,rx,ry,Instr.index,asIntOf,Sem.run_bind,Sem.run_pure,run_under hu,Result.andThen_ok];have h0:(0:Int)≤Int.ofNat i:=by simp
   rw[if_pos h0];simp[hg]
  ·cases hc
theorem PS_slstr{o:Oper}{ρ:Operand→Value}{lo hi:Bool}{a:List UInt8}{bs:List V}{l h:Nat}{mo:Option Nat}(hc:chkP P o.op (.slstr lo hi)=true)(hv:VsRel m (.str a::bs) (OV ρ o.op))
    (hb:abounds a.length a.length lo hi false bs=some (l,h,mo)):PS P m o ρ (.str ((a.drop l).take (h-l))):=by
  simp only[chkP]at hc;split at hc
  ·rename_i t x lw hh mxo hy;simp only[Bool.and_eq_true,beq_iff_eq]at hc;obtain⟨⟨⟨hs,h1⟩,h2⟩,h3⟩:=hc;have hu:=isStr_some hs;cases mxo with
   |some q=>simp at h3
   |none=>
     rw[hy,sl_parts]at hv;obtain⟨x',xs',e',rv,rb⟩:=hv;simp only[List.cons.injEq]at e';obtain⟨rfl,rfl⟩:=e';simp only[VRel]at rv;have hsz:(⟨a.toArray⟩:ByteArray).size=a.length:=by simp[ByteArray.size]
     have hr:=fun w=>(abounds_run (P:=P) (isS:=false) hb (Nat.le_refl _) (Nat.le_refl _) (a:=lw.map ρ) (b:=hh.map ρ) (c:=none) (by simpa using h1) (by simpa using h2) rfl (by simpa using rb) w).1;refine⟨.string ((⟨a.toArray⟩:ByteArray).extract l h),?_,fun w=>?_⟩
     ·simp only[VRel];congr 1;apply ByteArray.ext;simp[ByteArray.data_extract,List.extract_eq_take_drop]
     ·simp only[execOp,hy,Instr.sliceAt,Instr.slice,rv,Sem.run_bind,Sem.run_pure,run_under hu,Result.andThen_ok,Option.map_none,Option.isSome_none,Bool.false_eq_true,if_false,hsz,hr w]
  ·cases hc
end
section
variable {P : Program} {m : M}
theorem aP_sound{o:Oper}{ρ:Operand→Value}{k:PK}{vs:List V}{v:V}(hc:chkP P o.op k=true)(hv:VsRel m vs (OV ρ o.op))(h:aP k vs=some v):PS P m o ρ v:=by
  unfold aP at h;split at h
  ·exact PS_mv hc hv h
  ·cases h;exact PS_pick hc hv
  ·cases h;exact PS_nilck hc hv
  ·cases h;exact PS_nilckf hc hv
  ·exact PS_ib hc hv h
  ·exact PS_sh hc hv h
  ·cases h;exact PS_not hc hv
  ·cases h;exact PS_neg hc hv
  ·exact PS_cmpl hc hv h
  ·cases h;exact PS_bb hc hv
  ·rename_i kd ne a b;cases hn:nilEq kd a b with
   |none=>rw[hn]at h;cases h
   |some r=>rw[hn]at h;cases h;exact PS_nil hc hv hn
  ·cases h;exact PS_faddr hc hv
  ·exact PS_field hc hv h
  ·rename_i len esz b o' i;cases hn:aidx i len with
   |none=>rw[hn]at h;cases h
   |some r=>rw[hn]at h;cases h;exact PS_ixa hc hv hn
  ·rename_i esz b o' len cap i;cases hn:aidx i len with
   |none=>rw[hn]at h;cases h
   |some r=>
     rw[hn]at h;cases h;obtain⟨x,y,e,rx,ry⟩:=two_of hv;obtain⟨loc,hm,_⟩:=rx;exact PS_ixs hm hc hv (fun x hx=>by obtain⟨l2,h2,_,rfl⟩:=hx;rw[hm]at h2;cases h2;exact⟨_,rfl⟩) hn
  ·rename_i esz b o' len e0 i;cases hn:aidx i len with
   |none=>rw[hn]at h;cases h
   |some r=>
     rw[hn]at h;cases h;obtain⟨x,y,e,rx,ry⟩:=two_of hv;obtain⟨loc,hm,_⟩:=rx;exact PS_ixs hm hc hv (fun x hx=>by obtain⟨l2,h2,_,rfl⟩:=hx;rw[hm]at h2;cases h2;exact⟨_,rfl⟩) hn
  ·rename_i len esz ia l i;cases hn:aidx i len with
   |none=>rw[hn]at h;cases h
   |some r=>rw[hn]at h;exact PS_ixarr hc hv hn h
  ·exact PS_ext hc hv h
  ·rename_i fn n;cases hn:takeL n vs with
   |none=>rw[hn]at h;cases h
   |some r=>rw[hn]at h;cases h;exact PS_mkf hc hv hn
  ·cases h;exact PS_mki hc hv
  ·rename_i zero places;cases hn:afill zero places vs with
   |none=>rw[hn]at h;cases h
   |some r=>rw[hn]at h;cases h;exact PS_build hc hv hn
  ·exact PS_sl hc hv h
  ·exact PS_slarr hc hv h
  ·cases h;exact PS_lenS (len:=0) hc hv (fun x hx=>⟨_,_,hx⟩)
  ·cases h;exact PS_lenS hc hv (fun x hx=>by obtain⟨_,_,_,rfl⟩:=hx;exact⟨_,_,rfl⟩)
  ·cases h;exact PS_lenS hc hv (fun x hx=>by obtain⟨_,_,_,rfl⟩:=hx;exact⟨_,_,rfl⟩)
  ·cases h;exact PS_lenS (len:=0) hc hv (fun x hx=>by obtain⟨_,_,rfl⟩:=hx;exact⟨_,_,rfl⟩)
  ·cases h;exact PS_lenS (len:=0) hc hv (fun x hx=>⟨_,_,hx⟩)
  ·cases h;exact PS_lenArr hc hv
  ·cases h;exact PS_capS (cap:=0) hc hv (fun x hx=>⟨_,_,hx⟩)
  ·cases h;exact PS_capS hc hv (fun x hx=>by obtain⟨_,_,_,rfl⟩:=hx;exact⟨_,_,rfl⟩)
  ·cases h;exact PS_capArr hc hv
  ·cases h;exact PS_mn hc hv
  ·cases h;exact PS_mx hc hv
  ·cases h;exact PS_conv hc hv
  ·rename_i ne ks l l';cases hn:cmpL ks l l' with
   |none=>rw[hn]at h;cases h
   |some r=>rw[hn]at h;cases h;exact PS_seq hc hv hn
  ·exact PS_sb hc hv h
  ·cases h;exact PS_lenStr hc hv
  ·rename_i a k i;cases hn:a[i]? with
   |none=>rw[hn]at h;cases h
   |some r=>rw[hn]at h;cases h;exact PS_ixstr hc hv hn
  ·rename_i lo hi a bs;cases hn:abounds a.length a.length lo hi false bs with
   |none=>rw[hn]at h;cases h
   |some r=>obtain⟨l,h',mo⟩:=r;rw[hn]at h;cases h;exact PS_slstr hc hv hn
  ·cases h
end
/-- what an operation gives: a value, or nothing (and then the undefined one) -/
def Gives(r:Result Next)(x:Value)(w':World):Prop:=r=.ok (.value x) w'∨(r=.ok .skip w'∧x=undef)
/-- an operation that does in the model what it does in the evaluator -/
def MS(P:Program)(m:M)(h:Heap)(w:World)(o:Oper)(ρ:Operand→Value)(v:V)(h':Heap):Prop:=
  ∃x w' m',Gives ((execOp ρ o).run P w) x w'∧VRel m' v x∧HRel m' h' w'∧Ext m h w m' h' w'
theorem MS_of_PS{P:Program}{m:M}{h:Heap}{w:World}{o:Oper}{ρ:Operand→Value}{v:V}(H:HRel m h w)(p:PS P m o ρ v):MS P m h w o ρ v h:=by
  obtain⟨x,r,e⟩:=p;exact⟨x,w,m,.inl (e w),r,H,Ext.refl _ _ _⟩
section
variable {P : Program} {m : M} {h : Heap} {w : World}
noncomputable def aload(h:Heap)(n:Nat)(ia:Bool)(v:V):Option V:=
  match v with
  |.ptr b o=>bif ia then(hload h b o n).map .agg else hload1 h b o
  |_=>none
def chkLoad(P:Program)(op:Op)(n:Nat)(ia:Bool):Bool:=match op with
  |.load t _=>sizeIs P t n&&aggIs P t ia
  |_=>false
theorem aload_sound(H:HRel m h w){o:Oper}{ρ:Operand→Value}{n:Nat}{ia:Bool}{v r:V}(hc:chkLoad P o.op n ia=true)(hv:VsRel m [v] (OV ρ o.op))(hl:aload h n ia v=some r):
    ∃x,VRel m r x∧(execOp ρ o).run P w=.ok (.value x) w:=by
  unfold chkLoad at hc;split at hc
  ·rename_i t a hy;simp only[Bool.and_eq_true]at hc;obtain⟨x,e,rx⟩:=one_of hv;rw[hy]at e;simp[Op.operands]at e;unfold aload at hl;split at hl
   ·rename_i b k;obtain⟨loc,hm,rfl⟩:=rx;cases ia
    ·simp only[cond_false]at hl;obtain⟨x,hx,rx⟩:=H.load1 hm hl;refine⟨x,rx,?_⟩;simp[execOp,hy,e,Instr.loadAt,Instr.sureAddr,loadVar,run_agg hc.2,run_load,hx]
    ·simp only[cond_true]at hl;cases hh:hload h b k n with
     |none=>rw[hh]at hl;cases hl
     |some vs=>
       rw[hh]at hl;cases hl;obtain⟨xs,hx,rx,_⟩:=H.load P hm hh;refine⟨.agg (List.toArray xs),⟨xs,rfl,rx⟩,?_⟩;simp[execOp,hy,e,Instr.loadAt,Instr.sureAddr,loadVar,run_agg hc.2,run_size hc.1,hx]
   ·cases hl
  ·cases hc
noncomputable def astore(h:Heap)(n:Nat)(p v:V):Option Heap:=
  match p with
  |.ptr b o=>bif Nat.beq v.cells.length n then hstore h b o v.cells else none
  |_=>none
def chkStore(P:Program)(op:Op)(n:Nat):Bool:=match op with
  |.store t _ _=>sizeIs P t n
  |_=>false
theorem astore_sound(H:HRel m h w){o:Oper}{ρ:Operand→Value}{n:Nat}{p v:V}{h':Heap}(hc:chkStore P o.op n=true)(hv:VsRel m [p,v] (OV ρ o.op))(hs:astore h n p v=some h'):
    MS P m h w o ρ (.tup []) h':=by
  unfold chkStore at hc;split at hc
  ·rename_i t a x hy;obtain⟨x',y',e,rx,ry⟩:=two_of hv;rw[hy]at e;change[ρ a,ρ x]=[x',y']at e;simp only[List.cons.injEq,and_true]at e;unfold astore at hs;split at hs
   ·rename_i b k;obtain⟨loc,hm,rfl⟩:=rx;cases hb:Nat.beq v.cells.length n
    ·rw[hb]at hs;cases hs
    ·rw[hb]at hs;simp only[cond_true]at hs;have hn:=Nat.eq_of_beq_eq_true hb;have rc:=ry.cells;obtain⟨w',hrun,H',E'⟩:=H.store P hm hs rc;have hsz:¬y'.cells.size≠n:=by have:=rc.length;simp at this⊢;omega
     refine⟨undef,w',m,.inr ⟨?_,rfl⟩,⟨[],rfl,rfl⟩,H',E'⟩;simp only[execOp,hy,e.1,e.2,Instr.storeAt,Instr.sureAddr,storeVar,Sem.run_bind,Sem.run_pure,Result.andThen_ok,run_size hc];rw[if_neg hsz];simp[hrun]
   ·cases hs
  ·cases hc
/-- a new block with these cells: the address -/
theorem newRow_run(X:Array Value)(elem:TypeId):(newRow elem X).run P w=.ok ⟨w.heap.size,0,none⟩ (w.alloc (.cells X elem)):=by
  simp[newRow]
theorem HRel.alloc_list(H:HRel m h w){c:List V}{xs:List Value}(elem:TypeId)(r:VsRel m c xs):
    HRel (mset m h.next ⟨w.heap.size,0,c.length,none⟩) (halloc h c) (w.alloc (.cells (List.toArray xs) elem))∧
    Ext m h w (mset m h.next ⟨w.heap.size,0,c.length,none⟩) (halloc h c) (w.alloc (.cells (List.toArray xs) elem)):=by
  have:=H.alloc c (List.toArray xs) elem (by simp[r.length]) (fun i v hi=>by obtain⟨x,hx,rx⟩:=r.get i v hi;exact⟨x,by simpa using hx,rx⟩);simpa[r.length]using this
def chkAlloc(P:Program)(op:Op)(zero:List V):Bool:=match op with
  |.alloc t=>zeroIs P t zero
  |_=>false
theorem aalloc_sound(H:HRel m h w){o:Oper}{ρ:Operand→Value}{zero:List V}(hc:chkAlloc P o.op zero=true):MS P m h w o ρ (.ptr h.next 0) (halloc h zero):=by
  unfold chkAlloc at hc;split at hc
  ·rename_i t hy;obtain⟨z,hz,hv⟩:=run_zero (w:=w) hc;obtain⟨H',E'⟩:=H.alloc_list t (vsis_rel m _ _ hv);refine⟨_,_,_,.inl ?_,⟨_,mset_self _ _ _,rfl⟩,H',E'⟩;have hnr:=newRow_run (P:=P) (w:=w) z.cells t;simp[execOp,hy,Instr.alloc,hz,newVar,hnr]
  ·cases hc
def chkBox(op:Op):Bool:=match op with
  |.box _ _=>true
  |_=>false
theorem abox_sound(H:HRel m h w){o:Oper}{ρ:Operand→Value}{v:V}(hc:chkBox o.op=true)(hv:VsRel m [v] (OV ρ o.op)):MS P m h w o ρ (.ptr h.next 0) (halloc h v.cells):=by
  unfold chkBox at hc;split at hc
  ·rename_i t a hy;obtain⟨x,e,rx⟩:=one_of hv;rw[hy]at e;simp[Op.operands]at e;obtain⟨H',E'⟩:=H.alloc_list t rx.cells;refine⟨_,_,_,.inl ?_,⟨_,mset_self _ _ _,rfl⟩,H',E'⟩;have hnr:=newRow_run (P:=P) (w:=w) x.cells t;simp[execOp,hy,e,Instr.box,newVar,hnr]
  ·cases hc
end
section
variable {P : Program} {m : M} {h : Heap} {w : World}
/-- n times the cells -/
noncomputable def repL(zero:List V)(n:Nat):List V:=Nat.rec (motive:=fun _=>List V) [] (fun _ ih=>zero++ih) n
theorem repL_length(zero:List V)(n:Nat):(repL zero n).length=n*zero.length:=by
  induction n with
  |zero=>show([]:List V).length=_;simp
  |succ n ih=>show(zero++repL zero n).length=_;simp[ih,Nat.succ_mul,Nat.add_comm]
theorem repL_get(zero:List V)(n i:Nat)(hi:i<n*zero.length):(repL zero n)[i]? =zero[i%zero.length]? :=by
  induction n generalizing i with
  |zero=>simp at hi
  |succ n ih=>
    show(zero++repL zero n)[i]? =_;by_cases c:i<zero.length
    ·rw[List.getElem?_append_left c,Nat.mod_eq_of_lt c]
    ·rw[List.getElem?_append_right (by omega),ih (i-zero.length) (by rw[Nat.succ_mul]at hi;omega),←Nat.mod_eq_sub_mod (by omega)]
/-- the zero cells of a slice that is made -/
theorem zeros_rel{zero:List V}{z:List Value}(r:VsRel m zero z)(n:Nat):VsRel m (repL zero n) ((Array.range (n*z.length)).map fun i=>z.toArray[i%z.toArray.size]!).toList:=by
  have hl:=r.length;refine VsRel.of_get (by simp[repL_length,hl]) fun i v hi=>?_;have hlt:i<n*zero.length:=by
    rcases Nat.lt_or_ge i (n*zero.length)with q|q
    ·exact q
    ·rw[List.getElem?_eq_none (by rw[repL_length];exact q)]at hi;cases hi
  rw[repL_get _ _ _ hlt]at hi;obtain⟨x,hx,rx⟩:=r.get _ _ hi;refine⟨x,?_,rx⟩;have hz:0<z.length:=by
    rcases Nat.eq_zero_or_pos z.length with q|q
    ·rw[←hl,q]at hlt;simp at hlt
    ·exact q
  have hm:i%z.length<z.length:=Nat.mod_lt _ hz;rw[←hl]at hx;simp[hl,hlt];rw[←hl];rw[List.getElem?_eq_getElem hm]at hx;cases hx;simp[hm]
/-- the cells of the values that a slice or a string gives -/
noncomputable def srcCells(h:Heap)(esz:Nat)(v:V)(n:Nat):Option (List V):=
  match v with
  |.slice b o _ _=>hload h b o (n*esz)
  |.sliceU b o _ _=>hload h b o (n*esz)
  |.nils=>bif Nat.beq n 0 then some []else none
  |.sliceE=>bif Nat.beq n 0 then some []else none
  |.sliceZ _ _=>bif Nat.beq n 0 then some []else none
  |.str s=>bif Nat.beq esz 1&&Nat.beq n s.length then some (s.map fun b=>.int .u8 (Int.ofNat b.toNat))else none
  |_=>none
def srcLen(v:V):Option Nat:=
  match v with
  |.slice _ _ n _=>some n
  |.sliceU _ _ n _=>some n
  |.nils=>some 0
  |.sliceE=>some 0
  |.sliceZ _ _=>some 0
  |.str s=>some s.length
  |_=>none
/-- of a slice alone -/
def dstLen(v:V):Option Nat:=
  match v with
  |.str _=>none
  |v=>srcLen v
theorem srcLen_run{v:V}{n:Nat}{x:Value}(hl:srcLen v=some n)(r:VRel m v x)(w:World):(Builtin.lenOf x).run P w=.ok n w:=by
  unfold srcLen at hl;split at hl
  ·cases hl;obtain⟨_,_,_,rfl⟩:=r;rfl
  ·cases hl;obtain⟨_,_,_,rfl⟩:=r;rfl
  ·cases hl;simp only[VRel]at r;subst r;rfl
  ·cases hl;obtain⟨_,_,rfl⟩:=r;rfl
  ·cases hl;simp only[VRel]at r;subst r;rfl
  ·cases hl;simp only[VRel]at r;subst r;simp[Builtin.lenOf,ByteArray.size]
  ·cases hl
theorem bytes_rel(m:M):∀(s:List UInt8),VsRel m (s.map fun b=>V.int .u8 (Int.ofNat b.toNat)) (s.map fun b=>Value.int .u8 b.toNat)
  |[]=>rfl
  |b::s=>⟨_,_,rfl,rfl,bytes_rel m s⟩
theorem srcCells_run(H:HRel m h w){esz n:Nat}{v:V}{x:Value}{vs:List V}(hl:srcCells h esz v n=some vs)(r:VRel m v x):
    ∃xs,(Builtin.firstCells esz n x).run P w=.ok (List.toArray xs) w∧VsRel m vs xs∧vs.length=n*esz:=by
  unfold srcCells at hl;split at hl
  ·obtain⟨loc,hm,_,rfl⟩:=r;exact H.load P hm hl
  ·obtain⟨loc,hm,_,rfl⟩:=r;exact H.load P hm hl
  ·cases hb:Nat.beq n 0
   ·rw[hb]at hl;cases hl
   ·rw[hb]at hl;cases hl;have:=Nat.eq_of_beq_eq_true hb;subst this;simp only[VRel]at r;subst r;exact⟨[],rfl,rfl,by simp⟩
  ·cases hb:Nat.beq n 0
   ·rw[hb]at hl;cases hl
   ·rw[hb]at hl;cases hl;have:=Nat.eq_of_beq_eq_true hb;subst this;obtain⟨a,c,rfl⟩:=r;refine⟨[],?_,rfl,by simp⟩;simp[Builtin.firstCells,loadCells,loadCellsFrom]
  ·cases hb:Nat.beq n 0
   ·rw[hb]at hl;cases hl
   ·rw[hb]at hl;cases hl;have:=Nat.eq_of_beq_eq_true hb;subst this;simp only[VRel]at r;subst r;refine⟨[],?_,rfl,by simp⟩;simp[Builtin.firstCells,loadCells,loadCellsFrom]
  ·rename_i s;cases hb:(Nat.beq esz 1&&Nat.beq n s.length)
   ·rw[hb]at hl;cases hl
   ·rw[hb]at hl;simp only[cond_true,Option.some.injEq]at hl;simp only[Bool.and_eq_true]at hb;have h1:=Nat.eq_of_beq_eq_true hb.1;have h2:=Nat.eq_of_beq_eq_true hb.2;subst h1;subst h2;subst hl;simp only[VRel]at r;subst r;refine⟨s.map fun b=>Value.int .u8 b.toNat,?_,bytes_rel m s,by simp⟩;have:((⟨s.toArray⟩:ByteArray).extract 0 s.length).data=s.toArray:=by
      rw[ByteArray.data_extract];simp
    simp only[Builtin.firstCells,this,Sem.run_pure];simp
  ·cases hl
noncomputable def amake(h:Heap)(zero:List V)(bytes:Nat)(l c:V):Option (V×Heap):=
  match l,c with
  |.int _ (.ofNat l),.int _ (.ofNat c)=>
    bif Nat.ble l c&&Nat.blt c 9223372036854775808&&Nat.ble (bytes*c) 281474976710656 then some (.slice h.next 0 l c,halloc h (repL zero c))else none
  |_,_=>none
def chkMake(P:Program)(op:Op)(zero:List V)(bytes:Nat):Bool:=match op with
  |.makeSlice t _ _=>match P.underlying t with
    |some (.slice e)=>zeroIs P e zero&&sizeIs P e zero.length&&Nat.blt 0 zero.length&&(match P.info? e with|some i=>Nat.beq i.bytes bytes|none=>false)
    |_=>false
  |_=>false
theorem wrap_small{n:Nat}(hn:n<9223372036854775808):IntKind.i64.wrap (Int.ofNat n)=(n:Int):=by
  rw[←fwrap_eq];show(bif Nat.blt n 9223372036854775808 then _ else _)=_;have:Nat.blt n 9223372036854775808=true:=by rw[Nat.blt_eq];exact hn
  rw[this];rfl
theorem amake_sound(H:HRel m h w){o:Oper}{ρ:Operand→Value}{zero:List V}{bytes:Nat}{l c v:V}{h':Heap}(hc:chkMake P o.op zero bytes=true)(hv:VsRel m [l,c] (OV ρ o.op))
    (hs:amake h zero bytes l c=some (v,h')):MS P m h w o ρ v h':=by
  unfold chkMake at hc;split at hc
  ·rename_i t a b hy;split at hc
   ·rename_i e hu;simp only[Bool.and_eq_true,Nat.blt_eq]at hc;obtain⟨⟨⟨hz,hsz⟩,hpos⟩,hi⟩:=hc;split at hi
    ·rename_i i hinf;have hby:=Nat.eq_of_beq_eq_true hi;obtain⟨x',y',e',rx,ry⟩:=two_of hv;rw[hy]at e';change[ρ a,ρ b]=[x',y']at e';simp only[List.cons.injEq,and_true]at e';unfold amake at hs;split at hs
     ·rename_i k1 l k2 c;cases hb:(Nat.ble l c&&Nat.blt c 9223372036854775808&&Nat.ble (bytes*c) 281474976710656)
      ·rw[hb]at hs;cases hs
      ·rw[hb]at hs;simp only[cond_true,Option.some.injEq,Prod.mk.injEq]at hs;obtain⟨rfl,rfl⟩:=hs;simp only[Bool.and_eq_true,Nat.blt_eq]at hb;obtain⟨⟨h1,h2⟩,h3⟩:=hb;have h1:=Nat.le_of_ble_eq_true h1;have h3:=Nat.le_of_ble_eq_true h3;simp only[VRel]at rx ry;obtain⟨z,hzz,hvz⟩:=run_zero (w:=w) hz;have rz:VsRel m zero z.cells.toList:=vsis_rel m _ _ hvz;have hzl:=rz.length;have rel:=zeros_rel rz c;obtain⟨H',E'⟩:=H.alloc_list e rel;refine⟨_,_,_,.inl ?_,⟨_,mset_self _ _ _,h1,rfl⟩,H',E'⟩;have w1:IntKind.i64.wrap (Int.ofNat l)=(l:Int):=wrap_small (by omega);have w2:IntKind.i64.wrap (Int.ofNat c)=(c:Int):=wrap_small h2;have hcond:¬((decide ((c:Int)<0)||decide ((i.bytes:Int) *(c:Int)>2^48)||decide ((l:Int)<0)||decide ((l:Int)>(c:Int)))=true):=by
         simp only[Bool.or_eq_true,decide_eq_true_eq,not_or];refine⟨⟨⟨by omega,?_⟩,by omega⟩,by omega⟩;rw[hby,←Int.natCast_mul];omega
       have hnr:=fun X=>newRow_run (P:=P) (w:=w) X e;simp only[execOp,hy,e'.1,e'.2,rx,ry,Instr.makeSlice,asInt,asIntOf,Sem.run_bind,Sem.run_pure,Result.andThen_ok,run_under hu,run_info hinf,w1,w2];rw[if_neg (by simpa[Bool.or_assoc]using hcond)];simp only[Sem.run_bind,run_askRoom,Result.andThen_ok,run_size hsz,Int.toNat_natCast,Sem.run_pure];by_cases hc0:c*zero.length=0
       ·rw[if_pos hc0];simp only[Sem.run_bind,Result.andThen_ok,Sem.run_pure,hnr];have e1:∀zz:Array Value,(Array.range (c*zero.length)).map (fun i=>zz[i%zz.size]!)= #[]:=fun zz=>by rw[hc0];simp
        have e2:∀zz:Array Value,(Array.range (c*z.cells.toList.length)).map (fun i=>zz[i%zz.size]!)= #[]:=fun zz=>by rw[hzl];exact e1 zz
        rw[e1,e2]
       ·rw[if_neg hc0];simp only[Sem.run_bind,hzz,Result.andThen_ok,Sem.run_pure,hnr];rw[hzl]
     ·cases hs
    ·cases hi
   ·cases hc
  ·cases hc
/-- length and capacity, if they will do -/
def mkN(bytes:Nat)(l c:V):Option (Nat×Nat):=
  match l,c with
  |.int _ (.ofNat l),.int _ (.ofNat c)=>bif Nat.ble l c&&Nat.blt c 9223372036854775808&&Nat.ble (bytes*c) 281474976710656 then some (l,c)else none
  |_,_=>none
theorem amake_run{o:Oper}{ρ:Operand→Value}{zero:List V}{bytes:Nat}{l c:V}{n k:Nat}(hc:chkMake P o.op zero bytes=true)(hv:VsRel m [l,c] (OV ρ o.op))
    (hs:mkN bytes l c=some (n,k)):∃X elem,(execOp ρ o).run P w=.ok (.value (.slice (some ⟨w.heap.size,0,none⟩) n k)) (w.alloc (.cells X elem))∧VsRel m (repL zero k) X.toList∧n≤k:=by
  unfold chkMake at hc;split at hc
  ·rename_i t a b hy;split at hc
   ·rename_i e hu;simp only[Bool.and_eq_true,Nat.blt_eq]at hc;obtain⟨⟨⟨hz,hsz⟩,hpos⟩,hi⟩:=hc;split at hi
    ·rename_i i hinf;have hby:=Nat.eq_of_beq_eq_true hi;obtain⟨x',y',e',rx,ry⟩:=two_of hv;rw[hy]at e';change[ρ a,ρ b]=[x',y']at e';simp only[List.cons.injEq,and_true]at e';unfold mkN at hs;split at hs
     ·rename_i k1 l k2 c;cases hb:(Nat.ble l c&&Nat.blt c 9223372036854775808&&Nat.ble (bytes*c) 281474976710656)
      ·rw[hb]at hs;cases hs
      ·rw[hb]at hs;simp only[cond_true,Option.some.injEq,Prod.mk.injEq]at hs;obtain⟨rfl,rfl⟩:=hs;simp only[Bool.and_eq_true,Nat.blt_eq]at hb;obtain⟨⟨h1,h2⟩,h3⟩:=hb;have h1:=Nat.le_of_ble_eq_true h1;have h3:=Nat.le_of_ble_eq_true h3;simp only[VRel]at rx ry;obtain⟨z,hzz,hvz⟩:=run_zero (w:=w) hz;have rz:VsRel m zero z.cells.toList:=vsis_rel m _ _ hvz;have hzl:=rz.length;have rel:=zeros_rel rz c;refine⟨_,e,?_,rel,h1⟩;have w1:IntKind.i64.wrap (Int.ofNat l)=(l:Int):=wrap_small (by omega);have w2:IntKind.i64.wrap (Int.ofNat c)=(c:Int):=wrap_small h2;have hcond:¬((decide ((c:Int)<0)||decide ((i.bytes:Int) *(c:Int)>2^48)||decide ((l:Int)<0)||decide ((l:Int)>(c:Int)))=true):=by
         simp only[Bool.or_eq_true,decide_eq_true_eq,not_or];refine⟨⟨⟨by omega,?_⟩,by omega⟩,by omega⟩;rw[hby,←Int.natCast_mul];omega
       have hnr:=fun X=>newRow_run (P:=P) (w:=w) X e;simp only[execOp,hy,e'.1,e'.2,rx,ry,Instr.makeSlice,asInt,asIntOf,Sem.run_bind,Sem.run_pure,Result.andThen_ok,run_under hu,run_info hinf,w1,w2];rw[if_neg (by simpa[Bool.or_assoc]using hcond)];simp only[Sem.run_bind,run_askRoom,Result.andThen_ok,run_size hsz,Int.toNat_natCast,Sem.run_pure];by_cases hc0:c*zero.length=0
       ·rw[if_pos hc0];simp only[Sem.run_bind,Result.andThen_ok,Sem.run_pure,hnr];have e1:∀zz:Array Value,(Array.range (c*zero.length)).map (fun i=>zz[i%zz.size]!)= #[]:=fun zz=>by rw[hc0];simp
        have e2:∀zz:Array Value,(Array.range (c*z.cells.toList.length)).map (fun i=>zz[i%zz.size]!)= #[]:=fun zz=>by rw[hzl];exact e1 zz
        rw[e1,e2]
       ·rw[if_neg hc0];simp only[Sem.run_bind,hzz,Result.andThen_ok,Sem.run_pure,hnr];rw[hzl]
     ·cases hs
    ·cases hi
   ·cases hc
  ·cases hc
end
section
variable {P : Program} {m : M} {h : Heap} {w : World}
def placesSl(esz:Nat):List (Nat×Operand)→List (Nat×Nat)→Bool
  |[],[]=>true
  |(i,_)::ps,(off,n)::qs=>Nat.beq off (i*esz)&&Nat.beq n esz&&placesSl esz ps qs
  |_,_=>false
theorem placesSl_map{esz:Nat}{ρ:Operand→Value}:∀(qs:List (Nat×Nat))(ps:List (Nat×Operand)),placesSl esz ps qs=true→
    (ps.map fun p=>(p.1,ρ p.2)).map (fun p=>some (p.1*esz,esz))=qs.map some
  |[],[],_=>rfl
  |[],_::_,h=>by simp[placesSl]at h
  |_::_,[],h=>by simp[placesSl]at h
  |(off,n)::qs,(i,x)::ps,h=>by
    simp only[placesSl,Bool.and_eq_true]at h;have h1:=Nat.eq_of_beq_eq_true h.1.1;have h2:=Nat.eq_of_beq_eq_true h.1.2;simp only[List.map_cons,placesSl_map qs ps h.2,h1,h2]
noncomputable def abslice(h:Heap)(zero:List V)(places:List (Nat×Nat))(len:Nat)(vs:List V):Option (V×Heap):=
  match afill (repL zero len) places vs with
  |some c=>some (.slice h.next 0 len len,halloc h c)
  |none=>none
def chkBslice(P:Program)(op:Op)(zero:List V)(places:List (Nat×Nat))(len:Nat):Bool:=match op with
  |.buildSlice t len' parts=>match P.underlying t with
    |some (.slice e)=>Nat.beq len len'&&zeroIs P e zero&&sizeIs P e zero.length&&Nat.blt 0 zero.length&&Nat.ble (len*zero.length) 16777216&&placesSl zero.length parts.toList places
    |_=>false
  |_=>false
theorem abslice_run{o:Oper}{ρ:Operand→Value}{zero:List V}{places:List (Nat×Nat)}{len:Nat}{vs c:List V}(hc:chkBslice P o.op zero places len=true)
    (hv:VsRel m vs (OV ρ o.op)) (hf:afill (repL zero len) places vs=some c):
    ∃X elem,(execOp ρ o).run P w=.ok (.value (.slice (some ⟨w.heap.size,0,none⟩) len len)) (w.alloc (.cells X elem))∧VsRel m c X.toList:=by
  unfold chkBslice at hc;split at hc
  ·rename_i t len' parts hy;split at hc
   ·rename_i e hu;simp only[Bool.and_eq_true,Nat.blt_eq]at hc;obtain⟨⟨⟨⟨⟨hl,hz⟩,hsz⟩,hpos⟩,hlim⟩,hpl⟩:=hc;have hl:=Nat.eq_of_beq_eq_true hl;have hlim:=Nat.le_of_ble_eq_true hlim;subst hl;obtain⟨z,hzz,hvz⟩:=run_zero (w:=w) hz;have rz:VsRel m zero z.cells.toList:=vsis_rel m _ _ hvz;have hzl:=rz.length;have rel:=zeros_rel rz len;rw[hy]at hv;have hv':VsRel m vs ((parts.toList.map fun p=>(p.1,ρ p.2)).map (·.2)):=by simpa[OV,Op.operands,Function.comp_def]using hv
    obtain⟨r',h1,h2⟩:=fill_rel (fun i=>some (i*zero.length,zero.length)) places vs _ (repL zero len) _ c hf rel hv' (placesSl_map places parts.toList hpl);refine⟨List.toArray r',e,?_,by simpa using h2⟩;have hnr:=fun X=>newRow_run (P:=P) (w:=w) X e;have hparts:(parts.map fun(p:Nat×Operand)=>(p.1,ρ p.2)).toList=parts.toList.map fun p=>(p.1,ρ p.2):=by simp
    have hlt:¬len*zero.length>2^24:=by omega
    have hcells:(Array.range (len*zero.length)).map (fun i=>z.cells[i%z.cells.size]!)=List.toArray ((Array.range (len*z.cells.toList.length)).map fun i=>z.cells.toList.toArray[i%z.cells.toList.toArray.size]!).toList:=by
      rw[hzl]
    simp only[execOp,hy,Instr.buildSlice,Sem.run_bind,run_under hu,Result.andThen_ok,run_size hsz];rw[if_neg hlt];by_cases hc0:len*zero.length=0
    ·simp only[hc0,if_true,Sem.run_bind,Sem.run_pure,Result.andThen_ok];have e1:(Array.range 0).map (fun i=>(#[]:Array Value)[i%(#[]:Array Value).size]!)=List.toArray ((Array.range (len*z.cells.toList.length)).map fun i=>z.cells.toList.toArray[i%z.cells.toList.toArray.size]!).toList:=by
       rw[hzl,hc0];simp
     rw[e1,hparts,h1];simp[hnr]
    ·rw[if_neg hc0];simp only[Sem.run_bind,hzz,Result.andThen_ok,Sem.run_pure];rw[hcells,hparts,h1];simp[hnr]
   ·cases hc
  ·cases hc
theorem abslice_sound(H:HRel m h w){o:Oper}{ρ:Operand→Value}{zero:List V}{places:List (Nat×Nat)}{len:Nat}{vs:List V}{v:V}{h':Heap}(hc:chkBslice P o.op zero places len=true)
    (hv:VsRel m vs (OV ρ o.op)) (hs:abslice h zero places len vs=some (v,h')):MS P m h w o ρ v h':=by
  unfold abslice at hs;split at hs
  ·rename_i c hf;simp only[Option.some.injEq,Prod.mk.injEq]at hs;obtain⟨rfl,rfl⟩:=hs;obtain⟨X,e,hrun,rX⟩:=abslice_run (P:=P) (w:=w) hc hv hf;obtain⟨H',E'⟩:=H.alloc_list e rX;refine⟨_,_,_,.inl ?_,⟨_,mset_self _ _ _,Nat.le_refl _,rfl⟩,H',E'⟩;simpa using hrun
  ·cases hs
noncomputable def acopy(h:Heap)(esz:Nat)(d s:V):Option (V×Heap):=
  match dstLen d,srcLen s with
  |some dl,some sl=>
    let n:=Nat.min sl dl
    bif Nat.beq n 0 then some (.int .i64 0,h)else
      match srcCells h esz s n with
      |some vs=>
        match d with
        |.slice b o _ _=>(hstore h b o vs).map fun h'=>(.int .i64 n,h')
        |.sliceU b o _ _=>(hstore h b o vs).map fun h'=>(.int .i64 n,h')
        |_=>none
      |none=>none
  |_,_=>none
def chkCopy(P:Program)(op:Op)(esz:Nat):Bool:=match callOf op .copy with
  |some (args,ts)=>Nat.beq args.size 2&&(match ts[0]? with|some t=>elemIs P t none esz|none=>false)
  |none=>false
theorem two_arg'{op:Op}{b:Builtin}{args:Array Operand}{ts:Array TypeId}(hcl:callOf op b=some (args,ts))(h:args.size=2):∃x y,op=.call {callee:=.builtin b,args:= #[x,y],argTypes:=ts}:=by
  unfold callOf at hcl;split at hcl
  ·rename_i b' args' ts';split at hcl
   ·rename_i hb;subst hb;simp only[Option.some.injEq,Prod.mk.injEq]at hcl;obtain⟨rfl,rfl⟩:=hcl;obtain⟨l⟩:=args';match l,h with
    |[x,y],_=>exact⟨x,y,rfl⟩
   ·cases hcl
  ·cases hcl
theorem VRel.nonnil{v:V}{x:Value}{n:Nat}(r:VRel m v x)(hl:dstLen v=some n):∃a c,x=.slice a n c:=by
  unfold dstLen at hl;split at hl
  ·cases hl
  rename_i hns;unfold srcLen at hl;split at hl
  ·cases hl;obtain⟨_,_,_,rfl⟩:=r;exact⟨_,_,rfl⟩
  ·cases hl;obtain⟨_,_,_,rfl⟩:=r;exact⟨_,_,rfl⟩
  ·cases hl;exact⟨_,_,r⟩
  ·cases hl;obtain⟨_,_,rfl⟩:=r;exact⟨_,_,rfl⟩
  ·cases hl;exact⟨_,_,r⟩
  ·exact absurd rfl (hns _)
  ·cases hl
theorem first0{v:V}{x:Value}{n:Nat}(r:VRel m v x)(hl:srcLen v=some n)(esz:Nat)(w:World):(Builtin.firstCells esz 0 x).run P w=.ok #[] w:=by
  unfold srcLen at hl;split at hl
  ·obtain⟨_,_,_,rfl⟩:=r;simp[Builtin.firstCells,loadCells,loadCellsFrom]
  ·obtain⟨_,_,_,rfl⟩:=r;simp[Builtin.firstCells,loadCells,loadCellsFrom]
  ·simp only[VRel]at r;subst r;simp[Builtin.firstCells]
  ·obtain⟨_,_,rfl⟩:=r;simp[Builtin.firstCells,loadCells,loadCellsFrom]
  ·simp only[VRel]at r;subst r;simp[Builtin.firstCells,loadCells,loadCellsFrom]
  ·simp only[VRel]at r;subst r;simp[Builtin.firstCells,ByteArray.data_extract]
  ·cases hl
theorem acopy_sound(H:HRel m h w){o:Oper}{ρ:Operand→Value}{esz:Nat}{d s v:V}{h':Heap}(hc:chkCopy P o.op esz=true)(hv:VsRel m [d,s] (OV ρ o.op))
    (hs:acopy h esz d s=some (v,h')):MS P m h w o ρ v h':=by
  unfold chkCopy at hc;split at hc
  ·rename_i args ts hcl;simp only[Bool.and_eq_true]at hc;obtain⟨hsz,ht⟩:=hc;split at ht
   ·rename_i t hts;obtain⟨e,hu,hes⟩:=elem_slice ht;obtain⟨x,y,hy⟩:=two_arg' hcl (Nat.eq_of_beq_eq_true hsz);obtain⟨x',y',e',rx,ry⟩:=two_of hv;rw[hy]at e';change[ρ x,ρ y]=[x',y']at e';simp only[List.cons.injEq,and_true]at e';unfold acopy at hs;split at hs
    ·rename_i dl sl hdl hsl;obtain⟨da,dc,hdx⟩:=rx.nonnil hdl;have hlen:=fun w=>srcLen_run (P:=P) hsl ry w;have base:∀w1,(execOp ρ o).run P w1=((Builtin.firstCells esz (Nat.min sl dl) y').run P w1).andThen fun cells w2=>
         ((match da with|some a=>storeCells a cells.toList|none=>pure ()).run P w2).andThen fun _ w3=>.ok (.value (goInt (Nat.min sl dl))) w3:=by
       intro w1;simp only[execOp,hy,resolve,invoke,builtin,Builtin.copy_,Sem.run_bind,Sem.run_pure,Result.andThen_ok];simp only[List.map_toArray,List.map_cons,List.map_nil,e'.1,e'.2,hts,hdx,run_under hu,hlen,run_size hes,Sem.run_bind,Sem.run_pure,Result.andThen_ok,
         List.getElem?_toArray,List.getElem?_cons_zero,List.getElem?_cons_succ]
       cases(Builtin.firstCells esz (Nat.min sl dl) y').run P w1 with
       |halt x y=>rfl
       |ok cells w2=>
         simp only[Result.andThen_ok];cases da with
         |none=>rfl
         |some a=>simp only[Sem.run_bind,Sem.run_pure];cases(storeCells a cells.toList).run P w2<;>rfl
     cases hb:Nat.beq (Nat.min sl dl) 0
     ·simp only[hb,cond_false]at hs;split at hs
      ·rename_i vs hvs;obtain⟨xs,hxs,rxs,hvl⟩:=srcCells_run (P:=P) H hvs ry;have fin:∀b k loc,m b=some loc→da=some ⟨loc.block,loc.base+k,none⟩→(hstore h b k vs).map (fun h'=>(V.int .i64 (Nat.min sl dl:Nat),h'))=some (v,h')→MS P m h w o ρ v h':=by
         intro b k loc hm hda hst;cases hst':hstore h b k vs with
         |none=>rw[hst']at hst;cases hst
         |some h2=>
           rw[hst']at hst;simp only[Option.map_some,Option.some.injEq,Prod.mk.injEq]at hst;obtain⟨rfl,rfl⟩:=hst;obtain⟨w',hrun,H',E'⟩:=H.store P hm hst' rxs;refine⟨_,w',m,.inl ?_,rfl,H',E'⟩;rw[base w,hxs,hda];simp[hrun,goInt]
       split at hs
       ·rename_i b k q1 q2;obtain⟨loc,hm,_,hx⟩:=rx;rw[hx]at hdx;simp only[Value.slice.injEq]at hdx;exact fin b k loc hm hdx.1.symm hs
       ·rename_i b k q1 q2;obtain⟨loc,hm,_,hx⟩:=rx;rw[hx]at hdx;simp only[Value.slice.injEq]at hdx;exact fin b k loc hm hdx.1.symm hs
       ·cases hs
      ·cases hs
     ·simp only[hb,cond_true,Option.some.injEq,Prod.mk.injEq]at hs;obtain⟨rfl,rfl⟩:=hs;have hn0:Nat.min sl dl=0:=Nat.eq_of_beq_eq_true hb;refine⟨_,w,m,.inl ?_,rfl,H,Ext.refl _ _ _⟩;rw[base w,hn0];rw[first0 ry hsl esz w];cases da<;>simp[storeCells,goInt]
    ·cases hs
   ·cases ht
  ·cases hc
end
section
variable {P : Program} {m : M} {h : Heap} {w : World}
theorem growBy_le(newLen:Nat):∀r c,c<newLen→Builtin.growBy newLen r c≤2*newLen+1024
  |0,c,hc=>by simp only[Builtin.growBy];omega
  |r+1,c,hc=>by
    simp only[Builtin.growBy];rw[if_neg (by omega)];by_cases hn:c+(c+768)/4<newLen
    ·exact growBy_le newLen r _ hn
    ·cases r with
     |zero=>simp only[Builtin.growBy];omega
     |succ r=>simp only[Builtin.growBy];rw[if_pos (by omega)];omega
theorem nextcap_le{need cap:Nat}(hc:cap<need):Builtin.nextslicecap need cap≤2*need+1024:=by
  unfold Builtin.nextslicecap;split
  ·omega
  ·split
   ·omega
   ·exact growBy_le need 4 cap hc
def chkApp(P:Program)(op:Op)(esz bytes:Nat):Bool:=match callOf op .append with
  |some (args,ts)=>Nat.beq args.size 2&&(match ts[0]?,ts[1]? with
    |some t,some tx=>(match P.underlying t,P.underlying tx with
      |some (.slice e),some dx=>(match dx with|.slice _=>true|.string=>true|_=>false)&&(match P.info? e with
        |some i=>Nat.beq i.size esz&&Nat.beq i.bytes bytes&&(match i.zero with|some z=>Nat.beq z.cells.size esz|none=>false)
        |none=>false)
      |_,_=>false)
    |_,_=>false)&&Nat.blt 0 esz&&Nat.blt 0 bytes
  |none=>false
structure AppFacts(P:Program)(o:Oper)(esz bytes:Nat)(x y:Operand)(elem:TypeId)(z:Value):Prop where
  pos:0<esz
  zsz:z.cells.size=esz
  fits:∀(ρ:Operand→Value)(w:World)(base:Option Addr)(sLen sCap n:Nat),ρ x=.slice base sLen sCap→(Builtin.lenOf (ρ y)).run P w=.ok n w→sLen+n≤sCap→
    (execOp ρ o).run P w=((Builtin.firstCells esz n (ρ y)).run P w).andThen fun new w1=>
      ((match base with|some a=>storeCells (a.add (sLen*esz)) new.toList|none=>pure ()).run P w1).andThen fun _ w2=>.ok (.value (.slice base (sLen+n) sCap)) w2
  grows:∀(ρ:Operand→Value)(w:World)(base:Option Addr)(sLen sCap n:Nat),ρ x=.slice base sLen sCap→(Builtin.lenOf (ρ y)).run P w=.ok n w→¬sLen+n≤sCap→
    (2*(sLen+n)+1024) *bytes≤281474976710656→∃newCap,sLen+n≤newCap∧
    (execOp ρ o).run P w=((Builtin.firstCells esz sLen (ρ x)).run P w.drew).andThen fun old w1=>((Builtin.firstCells esz n (ρ y)).run P w1).andThen fun new w2=>
      ((newRow elem (old++new++Builtin.zeroCells z.cells (newCap-(sLen+n)))).run P w2).andThen fun a w3=>.ok (.value (.slice (some a) (sLen+n) newCap)) w3
theorem app_facts{o:Oper}{esz bytes:Nat}(hc:chkApp P o.op esz bytes=true):∃x y ts elem z,o.op=.call {callee:=.builtin .append,args:= #[x,y],argTypes:=ts}∧AppFacts P o esz bytes x y elem z∧∃t,ts[0]? =some t∧P.underlying t=some (.slice elem):=by
  unfold chkApp at hc;split at hc
  ·rename_i args ts hcl;simp only[Bool.and_eq_true,Nat.blt_eq]at hc;obtain⟨⟨⟨hsz,ht⟩,hesz⟩,hby⟩:=hc;obtain⟨x,y,hy⟩:=two_arg' hcl (Nat.eq_of_beq_eq_true hsz);split at ht
   ·rename_i t tx ht0 ht1;split at ht
    ·rename_i e dx hu hux;simp only[Bool.and_eq_true]at ht;obtain⟨hdx,ht⟩:=ht;have hcase:(∃e2,dx=.slice e2)∨dx=.string:=by
       cases dx<;>first|exact .inl ⟨_,rfl⟩|exact .inr rfl|cases hdx
     rcases hcase with⟨e2,rfl⟩|rfl;all_goals
       split at ht
       ·rename_i i hi;simp only[Bool.and_eq_true]at ht;obtain⟨⟨h1,h2⟩,h3⟩:=ht;split at h3
        ·rename_i z hz;have h1:=Nat.eq_of_beq_eq_true h1;have h2:=Nat.eq_of_beq_eq_true h2;have h3:=Nat.eq_of_beq_eq_true h3;refine⟨x,y,ts,e,z,hy,⟨hesz,h3,?_,?_⟩,t,ht0,hu⟩
         ·intro ρ w base sLen sCap n hx hl hle;simp only[execOp,hy,resolve,invoke,builtin,Builtin.append_,Sem.run_bind,Sem.run_pure,Result.andThen_ok];simp only[List.map_toArray,List.map_cons,List.map_nil,hx,ht0,ht1,run_under hu,run_under hux,hl,sizeOf,run_info hi,h1,Sem.run_bind,Sem.run_pure,Result.andThen_ok,
            List.getElem?_toArray,List.getElem?_cons_zero,List.getElem?_cons_succ,Bool.false_eq_true,if_false,if_pos hle,Bool.not_false,if_true]
          cases(Builtin.firstCells esz n (ρ y)).run P w with
          |halt a b=>rfl
          |ok new w1=>
            simp only[Result.andThen_ok];cases base with
            |none=>rfl
            |some a=>simp only[Sem.run_bind,Sem.run_pure];cases(storeCells (a.add (sLen*esz)) new.toList).run P w1<;>rfl
         ·intro ρ w base sLen sCap n hx hl hle hlim;refine⟨(Question.appendCap (sLen+n) sCap e).cut (w.tape w.drawn (.appendCap (sLen+n) sCap e)),by simp only[Question.cut];omega,?_⟩;have hnc:Builtin.nextslicecap (sLen+n) sCap≤2*(sLen+n)+1024:=nextcap_le (by omega);have hb1:¬(((sLen+n:Nat):Int)>IntKind.i64.max∧(false=true∨i.bytes=0)):=by
            intro⟨_,q⟩;rcases q with q|q
            ·cases q
            ·omega
          have hb2:¬Builtin.nextslicecap (sLen+n) sCap*i.bytes>2^48:=by
            rw[h2];have:=Nat.mul_le_mul_right bytes hnc;omega
          have hzz:∀w,(zeroValue e).run P w=.ok z w:=fun w=>by simp[zeroValue,run_info hi,hz]
          simp only[execOp,hy,resolve,invoke,builtin,Builtin.append_,Sem.run_bind,Sem.run_pure,Result.andThen_ok];simp only[List.map_toArray,List.map_cons,List.map_nil,hx,ht0,ht1,run_under hu,run_under hux,hl,sizeOf,run_info hi,h1,Sem.run_bind,Sem.run_pure,Result.andThen_ok,
            List.getElem?_toArray,List.getElem?_cons_zero,List.getElem?_cons_succ,Bool.false_eq_true,if_false,if_neg hle,Bool.not_false,if_true]
          rw[if_neg (by simpa using hb1)];simp only[Sem.run_bind,run_info hi,Result.andThen_ok,Sem.run_pure];rw[if_neg hb2];simp only[Sem.run_bind,run_choose,Question.forced,Bool.false_eq_true,if_false,Result.andThen_ok,run_info hi,run_askRoom,Sem.run_pure,World.drew_eq];cases(Builtin.firstCells esz sLen (.slice base sLen sCap)).run P w.drew with
          |halt a b=>rfl
          |ok old w1=>
            simp only[Result.andThen_ok];cases(Builtin.firstCells esz n (ρ y)).run P w1 with
            |halt a b=>rfl
            |ok new w2=>
              simp only[Result.andThen_ok,hzz,Sem.run_bind,Sem.run_pure];cases(newRow e (old++new++Builtin.zeroCells z.cells ((Question.appendCap (sLen+n) sCap e).cut (w.tape w.drawn (.appendCap (sLen+n) sCap e))-(sLen+n)))).run P w2<;>rfl
        ·cases h3
       ·cases ht
    ·cases ht
   ·cases ht
  ·cases hc
end
noncomputable def agrow(h:Heap)(esz bytes need:Nat)(c:List V):Option (V×Heap):=
  bif Nat.ble ((2*need+1024) *bytes) 281474976710656 then some (.sliceU h.next 0 need esz,halloc h c)else none
noncomputable def aapp(h:Heap)(esz bytes:Nat)(s x:V):Option (V×Heap):=
  match srcLen x with
  |none=>none
  |some n=>
    bif Nat.beq n 0 then
      match dstLen s with
      |some _=>some (s,h)
      |none=>none
    else
      match srcCells h esz x n with
      |none=>none
      |some xs=>
        match s with
        |.nils=>agrow h esz bytes n xs
        |.slice b o len cap=>
          bif Nat.ble (len+n) cap then(hstore h b (o+len*esz) xs).map fun h'=>(.slice b o (len+n) cap,h')
          else match hload h b o (len*esz)with
            |some old=>agrow h esz bytes (len+n) (old++xs)
            |none=>none
        |.sliceU b o len e=>
          bif Nat.beq e esz&&Nat.ble ((2*(len+n)+1024) *bytes) 281474976710656 then
            match cellsAt h b with
            |some c=>
              bif Nat.ble (o+(len+n) *esz) c.length then(hstore h b (o+len*esz) xs).map fun h'=>(.sliceU b o (len+n) e,h')
              else bif Nat.ble (o+len*esz) c.length&&onesB xs then
                match takeL (len*esz) (dropL c o)with
                |some old=>(hsuper h b (o+len*esz) (old++xs)).map fun h'=>(.sliceU h.next 0 (len+n) e,h')
                |none=>none
              else none
            |none=>none
          else none
        |_=>none
section
variable {P : Program} {m : M} {h : Heap} {w : World}
theorem zeroCells_size(z:Array Value)(n:Nat):(Builtin.zeroCells z n).size=n*z.size:=by simp[Builtin.zeroCells]
theorem HRel.drew(H:HRel m h w):HRel m h w.drew:=H.congr rfl
theorem hstore_next{h':Heap}{b o:Nat}{vs:List V}(x:hstore h b o vs=some h'):h'.next=h.next:=by
  obtain⟨_,_,_,_,_,_,_,_,q,_⟩:=hstore_some x;exact q
/-- as MS; and of which type a row is that was made -/
def MS2(P:Program)(m:M)(h:Heap)(w:World)(o:Oper)(ρ:Operand→Value)(v:V)(h':Heap)(elem:TypeId)(s:V):Prop:=
  ∃x w' m',Gives ((execOp ρ o).run P w) x w'∧VRel m' v x∧HRel m' h' w'∧Ext m h w m' h' w'∧
    (h'.next=h.next∨∃loc C fz t,m' h.next=some loc∧w'.heap[loc.block]? =some (.cells C t fz)∧
      ((loc.base=0∧t=elem)∨∃b k n e lb D fz',s=.sliceU b k n e∧m b=some lb∧loc.base=lb.base+k∧w.heap[lb.block]? =some (.cells D t fz')))
/-- a slice that has to be made anew -/
theorem agrow_sound(H:HRel m h w){o:Oper}{ρ:Operand→Value}{esz bytes:Nat}{x y:Operand}{elem:TypeId}{z:Value}(F:AppFacts P o esz bytes x y elem z)
    {base:Option Addr} {len cap n:Nat} {old xs:List V} {v:V} {h':Heap} (hx:ρ x=.slice base len cap) (hn:∀w,(Builtin.lenOf (ρ y)).run P w=.ok n w) (hle:¬len+n≤cap)
    (hold:∃ys,(Builtin.firstCells esz len (ρ x)).run P w.drew=.ok (List.toArray ys) w.drew∧VsRel m old ys∧old.length=len*esz)
    (hnew:∃ys,(Builtin.firstCells esz n (ρ y)).run P w.drew=.ok (List.toArray ys) w.drew∧VsRel m xs ys∧xs.length=n*esz)
    (hs:agrow h esz bytes (len+n) (old++xs)=some (v,h')) {s:V}:MS2 P m h w o ρ v h' elem s:=by
  unfold agrow at hs;cases hb:Nat.ble ((2*(len+n)+1024) *bytes) 281474976710656
  ·rw[hb]at hs;cases hs
  ·rw[hb]at hs;simp only[cond_true,Option.some.injEq,Prod.mk.injEq]at hs;obtain⟨rfl,rfl⟩:=hs;obtain⟨nc,hnc,hrun⟩:=F.grows ρ w base len cap n hx (hn w) hle (Nat.le_of_ble_eq_true hb);obtain⟨ys,h1,r1,l1⟩:=hold;obtain⟨zs,h2,r2,l2⟩:=hnew;rw[h1]at hrun;simp only[Result.andThen_ok]at hrun;rw[h2]at hrun;simp only[Result.andThen_ok,newRow_run]at hrun;have rr:=VsRel.append r1 r2;have hl1:=r1.length;have hl2:=r2.length;have hXs:(List.toArray ys++List.toArray zs++Builtin.zeroCells z.cells (nc-(len+n))).size=nc*esz:=by
     simp[zeroCells_size,F.zsz,hl1,hl2,l1,l2,←Nat.add_mul];congr 1;omega
   have:=H.drew.alloc (old++xs) (List.toArray ys++List.toArray zs++Builtin.zeroCells z.cells (nc-(len+n))) elem
     (by rw[hXs];simp[l1,l2,←Nat.add_mul];exact Nat.mul_le_mul_right _ hnc)
     (fun i v hi=>by
       obtain⟨q,hq,rq⟩:=rr.get i v hi;refine⟨q,?_,rq⟩;have hil:i<(ys++zs).length:=(List.getElem?_eq_some_iff.1 hq).1;rw[Array.getElem?_append_left (by simpa using hil)];simpa using hq)
   obtain⟨H',E'⟩:=this;refine⟨_,_,_,.inl hrun,⟨_,mset_self _ _ _,?_,?_⟩,H',(Ext.drew m h w).trans E',.inr ⟨_,_,_,_,mset_self _ _ _,heap_alloc_new w.drew _,.inl ⟨rfl,rfl⟩⟩⟩
   ·simp only[hXs,Nat.sub_zero];rw[Nat.mul_div_cancel _ F.pos];exact hnc
   ·simp only[hXs,Nat.sub_zero];rw[Nat.mul_div_cancel _ F.pos]
theorem aapp_sound2(H:HRel m h w){o:Oper}{ρ:Operand→Value}{esz bytes:Nat}{s x v:V}{h':Heap}(hc:chkApp P o.op esz bytes=true)(hv:VsRel m [s,x] (OV ρ o.op))
    (hs:aapp h esz bytes s x=some (v,h')):∃elem,(∃args ts t,callOf o.op .append=some (args,ts)∧ts[0]? =some t∧P.underlying t=some (.slice elem))∧MS2 P m h w o ρ v h' elem s:=by
  obtain⟨ox,oy,ts,elem,z,hy,F,t0,ht0,hu0⟩:=app_facts hc;refine⟨elem,⟨#[ox,oy],ts,t0,by rw[hy];simp[callOf],ht0,hu0⟩,?_⟩;obtain⟨x',y',e',rx,ry⟩:=two_of hv;rw[hy]at e';change[ρ ox,ρ oy]=[x',y']at e';simp only[List.cons.injEq,and_true]at e';unfold aapp at hs;split at hs
  ·cases hs
  ·rename_i n hn;have hlen:∀w,(Builtin.lenOf (ρ oy)).run P w=.ok n w:=fun w=>by rw[e'.2];exact srcLen_run hn ry w
   cases hb:Nat.beq n 0
   ·simp only[hb,cond_false]at hs;split at hs
    ·cases hs
    ·rename_i xs hxs;have hnew:∃ys,(Builtin.firstCells esz n (ρ oy)).run P w.drew=.ok (List.toArray ys) w.drew∧VsRel m xs ys∧xs.length=n*esz:=by
       rw[e'.2];exact srcCells_run (P:=P) H.drew hxs ry
     have hnew0:∃ys,(Builtin.firstCells esz n (ρ oy)).run P w=.ok (List.toArray ys) w∧VsRel m xs ys∧xs.length=n*esz:=by
       rw[e'.2];exact srcCells_run (P:=P) H hxs ry
     have hn0:n≠0:=by intro q;subst q;simp at hb
     split at hs
     ·
      simp only[VRel]at rx;have hxx:ρ ox=.slice none 0 0:=e'.1.trans rx;refine agrow_sound (old:=[]) (len:=0) H F hxx hlen (by omega) ⟨[],?_,rfl,by simp⟩ hnew (by simpa using hs);rw[hxx];rfl
     ·
      rename_i b k len cap;obtain⟨loc,hm,hlc,hxx⟩:=rx;have hxx:=e'.1.trans hxx;cases hle:Nat.ble (len+n) cap
      ·simp only[hle,cond_false]at hs;split at hs
       ·rename_i old hold;refine agrow_sound H F hxx hlen (by intro q;rw[Nat.ble_eq_true_of_le q]at hle;cases hle) ?_ hnew hs;rw[hxx];exact H.drew.load P hm hold
       ·cases hs
      ·simp only[hle,cond_true]at hs;have hle:=Nat.le_of_ble_eq_true hle;cases hst:hstore h b (k+len*esz) xs with
       |none=>rw[hst]at hs;cases hs
       |some h2=>
         rw[hst]at hs;simp only[Option.map_some,Option.some.injEq,Prod.mk.injEq]at hs;obtain⟨rfl,rfl⟩:=hs;obtain⟨ys,h1,r1,l1⟩:=hnew0;obtain⟨w',hrun,H',E'⟩:=H.store P hm hst r1;refine⟨_,w',m,.inl ?_,⟨loc,hm,hle,rfl⟩,H',E',.inl (hstore_next hst)⟩;rw[F.fits ρ w _ len cap n hxx (hlen w) hle,h1];simp only[Result.andThen_ok,add_mk,Nat.add_assoc,hrun]
     ·
      rename_i b k len e;obtain⟨loc,hm,hlc,hxx⟩:=rx;have hxx:=e'.1.trans hxx;cases hbe:(Nat.beq e esz&&Nat.ble ((2*(len+n)+1024) *bytes) 281474976710656)
      ·rw[hbe]at hs;cases hs
      ·rw[hbe]at hs;simp only[cond_true]at hs;simp only[Bool.and_eq_true]at hbe;have he:=Nat.eq_of_beq_eq_true hbe.1;subst he;have hlim:=Nat.le_of_ble_eq_true hbe.2;split at hs
       ·rename_i c hcells;obtain⟨f,mk,hg,hrd⟩:=cellsAt_some hcells;obtain⟨bk,hbk,rel⟩:=H.blk b loc hm;rw[hg]at hbk;cases hbk;obtain⟨C,el,fz,hC,hroom,hcl,hcell,hfz⟩:=rel hrd;cases hle:Nat.ble (k+(len+n) *e) c.length
        ·simp only[hle,cond_false]at hs;have hle':¬k+(len+n) *e≤c.length:=by intro q;rw[Nat.ble_eq_true_of_le q]at hle;cases hle
         cases hco:(Nat.ble (k+len*e) c.length&&onesB xs)
         ·rw[hco]at hs;cases hs
         rw[hco]at hs;simp only[cond_true]at hs;simp only[Bool.and_eq_true]at hco;have hon:=Nat.le_of_ble_eq_true hco.1;have hones:=hco.2;split at hs
         ·rename_i old hold;obtain⟨hold',hol⟩:=takeL_eq hold;rw[dropL_eq]at hold' hol;cases hsu:hsuper h b (k+len*e) (old++xs)with
          |none=>rw[hsu]at hs;cases hs
          |some h2=>
            rw[hsu]at hs;simp only[Option.map_some,Option.some.injEq,Prod.mk.injEq]at hs;obtain⟨rfl,rfl⟩:=hs;obtain⟨ys,hy1,r1,l1⟩:=hnew0;have hyl:=r1.length;have holen:old.length=len*e:=by rw[hold'];simp at hol⊢;omega
            have holdget:∀i:Nat,i<len*e→old[i]? =c[k+i]? :=by
              intro i hi;rw[hold',List.getElem?_take,if_pos hi,List.getElem?_drop]
            have hadd:(len+n) *e=len*e+n*e:=Nat.add_mul _ _ _;have hpos:=F.pos;have hne:0<n*e:=Nat.mul_pos (by omega) hpos;by_cases hfit:len+n≤(loc.room-k)/e
            ·
             have hmul:(len+n) *e≤loc.room-k:=by
               have:=Nat.mul_le_mul_right e hfit;exact Nat.le_trans this (Nat.div_mul_le_self _ _)
             obtain⟨w',hrun,hst⟩:=run_storeCells P loc.block (loc.base+(k+len*e)) el fz ys 0 C w hC (by omega)
               (fun j hj=>by have:=hfz (k+len*e+j) (by omega);rwa[show loc.base+(k+len*e+j)=loc.base+(k+len*e)+0+j by omega]at this)
               (onesB_mem hones r1)
             obtain⟨C',hC',hsz',hget'⟩:=hst.row C el fz hC;have hsup:=H.super (loc':=⟨loc.block,loc.base+k,loc.room-k,none⟩) (news:=xs) (w':=w') hm hg hsu (by simp[holen]) hon (by omega)
               ⟨Nat.le_refl _,by simp[holen,l1];omega⟩
               ⟨C',el,fz,hC',by simp only[];omega,fun i u hi=>by
                   simp only[];rw[hget' (loc.base+k+i)];by_cases hil:i<len*e
                   ·rw[List.getElem?_append_left (by omega),holdget i hil]at hi;rw[if_neg (by omega),Nat.add_assoc];exact hcell _ u hi
                   ·rw[List.getElem?_append_right (by omega)]at hi;obtain⟨q,hq,rq⟩:=r1.get _ _ hi;have hqi:=(List.getElem?_eq_some_iff.1 hq).1;refine⟨q,?_,rq⟩;rw[if_pos (by omega),if_pos (by omega),←hq];congr 1;omega,
                 fun i hi=>by simp only[]at hi⊢;have:=hfz (k+i) (by omega);rwa[←Nat.add_assoc]at this⟩
               (.inr ⟨rfl,rfl,hst.other,fun C0 el0 fz0 hC0=>by
                   rw[hC]at hC0;cases hC0;exact⟨C',hC',hsz',fun j hj=>by rw[hget' j,if_neg (by omega)]⟩⟩)
               (fun _=>⟨by simp only[];omega,fun C0 el0 fz0 C1 hC0 hC1 j hj=>by
                   rw[hC]at hC0;cases hC0;rw[hC']at hC1;cases hC1;rw[hget' j,if_neg (by omega)]⟩)
               (by rw[hst.size];exact Nat.le_refl _) (by rw[hst.size];exact H.inb b loc hm) hst.os hst.tape hst.output
             obtain⟨H',E'⟩:=hsup;refine⟨_,w',_,.inl ?_,⟨_,mset_self _ _ _,hfit,rfl⟩,H',E',.inr ⟨_,C',fz,el,mset_self _ _ _,hC',.inr ⟨b,k,len,e,loc,C,fz,rfl,hm,rfl,hC⟩⟩⟩;rw[F.fits ρ w _ len _ n hxx (hlen w) hfit,hy1];simp only[Result.andThen_ok,add_mk,Nat.add_assoc,hrun];simp
            ·
             obtain⟨nc,hnc,hrun⟩:=F.grows ρ w _ len _ n hxx (hlen w) hfit hlim;obtain⟨zs,h2',r2,l2⟩:=hnew;have holdrun:∃ys,(Builtin.firstCells e len (ρ ox)).run P w.drew=.ok (List.toArray ys) w.drew∧VsRel m old ys∧old.length=len*e:=by
               rw[hxx];refine H.drew.load P hm ?_;unfold hload;rw[hcells];exact hold
             obtain⟨os,h1,ro,lo⟩:=holdrun;rw[h1]at hrun;simp only[Result.andThen_ok]at hrun;rw[h2']at hrun;simp only[Result.andThen_ok,newRow_run]at hrun;have rr:=VsRel.append ro r2;have hl1:=ro.length;have hl2:=r2.length;have hXs:(List.toArray os++List.toArray zs++Builtin.zeroCells z.cells (nc-(len+n))).size=nc*e:=by
               simp[zeroCells_size,F.zsz,hl1,hl2,lo,l2,←Nat.add_mul];congr 1;omega
             have hncm:(len+n) *e≤nc*e:=Nat.mul_le_mul_right e hnc;have hsup:=H.super (loc':=⟨w.heap.size,0,nc*e,none⟩) (news:=xs) (w':=w.drew.alloc (.cells (List.toArray os++List.toArray zs++Builtin.zeroCells z.cells (nc-(len+n))) elem)) hm hg hsu (by simp[holen]) hon (by omega)
               ⟨Nat.le_refl _,by simp[holen,l1];omega⟩
               ⟨_,elem,(0,0),heap_alloc_new w.drew _,by simp only[hXs];omega,fun i u hi=>by
                   obtain⟨q,hq,rq⟩:=rr.get i u hi;refine⟨q,?_,rq⟩;have hil:i<(os++zs).length:=(List.getElem?_eq_some_iff.1 hq).1;simp only[Nat.zero_add];rw[Array.getElem?_append_left (by simpa using hil)];simpa using hq,fun i hi=>by simp⟩
               (.inl ⟨rfl,fun i hi=>heap_alloc_old w.drew _ _ hi⟩) (fun q=>by have:=H.inb b loc hm;simp only[]at q;omega) (by simp) (by simp) rfl rfl rfl
             obtain⟨H',E'⟩:=hsup;refine⟨_,_,_,.inl hrun,⟨_,mset_self _ _ _,?_,?_⟩,H',E',.inr ⟨_,_,_,_,mset_self _ _ _,heap_alloc_new w.drew _,.inl ⟨rfl,rfl⟩⟩⟩
             ·simp only[Nat.sub_zero];rw[Nat.mul_div_cancel _ hpos];exact hnc
             ·simp only[Nat.sub_zero];rw[Nat.mul_div_cancel _ hpos];rfl
         ·cases hs
        ·simp only[hle,cond_true]at hs;have hle:=Nat.le_of_ble_eq_true hle;cases hst:hstore h b (k+len*e) xs with
         |none=>rw[hst]at hs;cases hs
         |some h2=>
           rw[hst]at hs;simp only[Option.map_some,Option.some.injEq,Prod.mk.injEq]at hs;obtain⟨rfl,rfl⟩:=hs;obtain⟨ys,h1,r1,l1⟩:=hnew0;obtain⟨w',hrun,H',E'⟩:=H.store P hm hst r1;have hfit:len+n≤(loc.room-k)/e:=by
             rw[Nat.le_div_iff_mul_le F.pos];omega
           refine⟨_,w',m,.inl ?_,⟨loc,hm,hfit,rfl⟩,H',E',.inl (hstore_next hst)⟩;rw[F.fits ρ w _ len _ n hxx (hlen w) hfit,h1];simp only[Result.andThen_ok,add_mk,Nat.add_assoc,hrun]
       ·cases hs
     ·cases hs
   ·simp only[hb,cond_true]at hs;have hn0:=Nat.eq_of_beq_eq_true hb;subst hn0;split at hs
    ·rename_i sl hsl;simp only[Option.some.injEq,Prod.mk.injEq]at hs;obtain⟨rfl,rfl⟩:=hs;obtain⟨a,c,hxx⟩:=rx.nonnil hsl;have hcap:sl+0≤c:=by
       unfold dstLen at hsl;split at hsl
       ·cases hsl
       rename_i hns;unfold srcLen at hsl;split at hsl
       ·cases hsl;obtain⟨_,_,q,e⟩:=rx;rw[hxx]at e;cases e;exact q
       ·cases hsl;obtain⟨_,_,q,e⟩:=rx;rw[hxx]at e;cases e;exact q
       ·cases hsl;simp only[VRel]at rx;rw[hxx]at rx;cases rx;omega
       ·cases hsl;omega
       ·cases hsl;omega
       ·exact absurd rfl (hns _)
       ·cases hsl
     refine⟨x',w,m,.inl ?_,rx,H,Ext.refl _ _ _,.inl rfl⟩;rw[F.fits ρ w a sl c 0 (e'.1.trans hxx) (hlen w) hcap,e'.2];rw[first0 ry hn esz w,hxx];cases a<;>simp[storeCells]
    ·cases hs
theorem aapp_sound(H:HRel m h w){o:Oper}{ρ:Operand→Value}{esz bytes:Nat}{s x v:V}{h':Heap}(hc:chkApp P o.op esz bytes=true)(hv:VsRel m [s,x] (OV ρ o.op))
    (hs:aapp h esz bytes s x=some (v,h')):MS P m h w o ρ v h':=by
  obtain⟨_,_,x',w',m',a,b,c,d,_⟩:=aapp_sound2 H hc hv hs;exact⟨x',w',m',a,b,c,d⟩
end
section
variable {P : Program} {m : M} {h : Heap} {w : World}
/-- are two keys the same? (none: whole numbers; some ks: flat structs) -/
def keyEq(ks:Option (List Nat))(a b:V):Option Bool:=
  match ks,a,b with
  |none,.int k a,.int k' b=>bif kbeq k k' then some (ieq a b)else none
  |some ks,.agg l,.agg l'=>cmpL ks l l'
  |_,_,_=>none
def keyIs(P:Program)(t:TypeId):Option (List Nat)→Bool
  |none=>leafIs P t 0
  |some ks=>seqIs P t ks
/-- is the value one of a key? -/
def keyFits:Option (List Nat)→V→Bool
  |none,.int _ _=>true
  |some ks,.agg l=>Nat.beq l.length ks.length
  |_,_=>false
def mfind(ks:Option (List Nat))(key:V):List (V×V×Nat)→Nat→Option (Option (Nat×V))
  |[],_=>some none
  |(k,v,_)::es,i=>match keyEq ks key k with
    |some true=>some (some (i,v))
    |some false=>mfind ks key es (i+1)
    |none=>none
/-- entries -/
def EsRel(m:M):List (V×V×Nat)→List MapEntry→Prop
  |[],es'=>es'=[]
  |(k,v,n)::es,es'=>∃e r,es'=e::r∧VRel m k e.key∧VRel m v e.val∧e.born=n∧EsRel m es r
def RO(m:M):Option (Nat×V)→Option (Nat×Value)→Prop
  |none,r=>r=none
  |some (i,v),r=>∃x,r=some (i,x)∧VRel m v x
theorem EsRel.of_get:∀(es:List (V×V×Nat))(es':List MapEntry),es'.length=es.length→(∀(i:Nat) k v n,es[i]? =some (k,v,n)→∃e:MapEntry,es'[i]? =some e∧VRel m k e.key∧VRel m v e.val∧e.born=n)→EsRel m es es'
  |[],es',hl,_=>by cases es'<;>simp_all [EsRel]
  |(k,v,n)::es,[],hl,_=>by simp at hl
  |(k,v,n)::es,e::r,hl,hg=>by
    obtain⟨e',h1,h2⟩:=hg 0 k v n rfl;simp at h1;subst h1;exact⟨e,r,rfl,h2.1,h2.2.1,h2.2.2,EsRel.of_get es r (by simpa using hl) (fun i k v n hi=>by simpa using hg (i+1) k v n (by simpa using hi))⟩
theorem EsRel.length:∀{es:List (V×V×Nat)}{es':List MapEntry},EsRel m es es'→es'.length=es.length
  |[],_,h=>by simp only[EsRel]at h;subst h;rfl
  |(_,_,_)::_,_,⟨_,_,rfl,_,_,_,t⟩=>by simp[EsRel.length t]
theorem EsRel.get:∀{es:List (V×V×Nat)}{es':List MapEntry},EsRel m es es'→∀(i:Nat) k v n,es[i]? =some (k,v,n)→∃e:MapEntry,es'[i]? =some e∧VRel m k e.key∧VRel m v e.val∧e.born=n
  |[],_,_,i,_,_,_,hi=>by simp at hi
  |(_,_,_)::_,_,⟨e,_,rfl,h1,h2,h3,t⟩,0,k,v,n,hi=>by
    simp at hi;obtain⟨rfl,rfl,rfl⟩:=hi;exact⟨e,rfl,h1,h2,h3⟩
  |(_,_,_)::_,_,⟨_,_,rfl,_,_,_,t⟩,i+1,k,v,n,hi=>by simpa using EsRel.get t i k v n (by simpa using hi)
theorem find_int{kk:IntKind}{key:V}{x:Value}(rx:VRel m key x):∀(es:List (V×V×Nat))(es':List MapEntry)(i:Nat)(r:Option (Nat×V)),EsRel m es es'→
    mfind none key es i=some r→∃r',Instr.findNow (.int kk) x es' i=some r'∧RO m r r'
  |[],es',i,r,he,hf=>by
    simp only[EsRel]at he;subst he;simp only[mfind,Option.some.injEq]at hf;subst hf;exact⟨none,rfl,rfl⟩
  |(k,v,n)::es,es',i,r,he,hf=>by
    obtain⟨e,t,rfl,h1,h2,h3,ht⟩:=he;simp only[mfind]at hf;cases hk:keyEq none key k with
    |none=>rw[hk]at hf;cases hf
    |some b=>
      rw[hk]at hf;have key1:Instr.sameNow (.int kk) x e.key=some b:=by
        cases key<;>cases k<;>simp only[keyEq]at hk<;>first|(cases hk;done)|skip
        rename_i t1 a t2 b';cases hkb:kbeq t1 t2
        ·rw[hkb]at hk;cases hk
        ·rw[hkb]at hk;simp only[cond_true,Option.some.injEq]at hk;have:=kbeq_eq hkb;subst this;simp only[VRel]at rx h1;rw[rx,h1,←hk,ieq_eq];simp[Instr.sameNow]
      cases b
      ·simp only[]at hf;obtain⟨r',f1,f2⟩:=find_int rx es t (i+1) r ht hf;exact⟨r',by simp only[Instr.findNow,key1];exact f1,f2⟩
      ·simp only[Option.some.injEq]at hf;subst hf;exact⟨some (i,e.val),by simp only[Instr.findNow,key1],_,rfl,h2⟩
theorem equal_struct{t:TypeId}{ks:List Nat}(hs:seqIs P t ks=true){l l':List V}{x y:Value}{r:Bool}(rx:VRel m (.agg l) x)(ry:VRel m (.agg l') y)(hc:cmpL ks l l'=some r)(w:World):
    (Op.equal t x y).run P w=.ok r w:=by
  unfold seqIs at hs;split at hs
  ·rename_i fields hu;simp only[Bool.and_eq_true,Bool.not_eq_true']at hs;obtain⟨⟨h1,h2⟩,h3⟩:=hs;obtain⟨xs,rfl,rxs⟩:=rx;obtain⟨ys,rfl,rys⟩:=ry;have hfo:P.fieldsOf t=fields:=by unfold Program.fieldsOf;rw[hu]
   show(Op.equalIn (9999+1) t (.agg (List.toArray xs)) (.agg (List.toArray ys))).run P w=.ok r w;rw[run_equalIn_struct w 9999 t _ _ (by rw[hfo];exact hu) h1,hfo];exact cmpL_run 9998 ks fields.toList 0 xs ys l l' r h3 (by simpa using rxs) (by simpa using rys) hc
  ·cases hs
theorem find_struct{t:TypeId}{ks:List Nat}(hs:seqIs P t ks=true){key:V}{x:Value}(rx:VRel m key x)(w:World):∀(es:List (V×V×Nat))(es':List MapEntry)(i:Nat)(r:Option (Nat×V)),EsRel m es es'→
    mfind (some ks) key es i=some r→∃r',(Instr.findAsking t x es' i).run P w=.ok r' w∧RO m r r'
  |[],es',i,r,he,hf=>by
    simp only[EsRel]at he;subst he;simp only[mfind,Option.some.injEq]at hf;subst hf;exact⟨none,rfl,rfl⟩
  |(k,v,n)::es,es',i,r,he,hf=>by
    obtain⟨e,u,rfl,h1,h2,h3,ht⟩:=he;simp only[mfind]at hf;cases hk:keyEq (some ks) key k with
    |none=>rw[hk]at hf;cases hf
    |some b=>
      rw[hk]at hf;have key1:(Op.equal t x e.key).run P w=.ok b w:=by
        cases key<;>cases k<;>simp only[keyEq]at hk<;>first|(cases hk;done)|skip
        exact equal_struct hs rx h1 hk w
      cases b
      ·simp only[]at hf;obtain⟨r',f1,f2⟩:=find_struct hs rx w es u (i+1) r ht hf;exact⟨r',by simp[Instr.findAsking,key1,f1],f2⟩
      ·simp only[Option.some.injEq]at hf;subst hf;exact⟨some (i,e.val),by simp[Instr.findAsking,key1],_,rfl,h2⟩
theorem findKey_run{t:TypeId}{ks:Option (List Nat)}(hs:keyIs P t ks=true){key:V}{x:Value}(rx:VRel m key x)(w:World){es:List (V×V×Nat)}{es':List MapEntry}{r:Option (Nat×V)}(he:EsRel m es es')
    (hf:mfind ks key es 0=some r):∃r',(Instr.findKey t x es').run P w=.ok r' w∧RO m r r':=by
  cases ks with
  |none=>
    simp only[keyIs,leafIs]at hs;split at hs;all_goals first|(cases hs;done)|skip
    ·rename_i kk _ hu;obtain⟨r',f1,f2⟩:=find_int (kk:=kk) rx es es' 0 r he hf;refine⟨r',?_,f2⟩;simp only[Instr.findKey,Sem.run_bind,run_under hu,Result.andThen_ok,f1,Sem.run_pure]
    all_goals (rename_i h0 _;cases h0)
  |some ks=>
    simp only[keyIs]at hs;obtain⟨r',f1,f2⟩:=find_struct hs rx w es es' 0 r he hf;have hu:∃fields,P.underlying t=some (.struct fields):=by
      unfold seqIs at hs;split at hs
      ·exact⟨_,by assumption⟩
      ·cases hs
    obtain⟨fields,hu⟩:=hu;cases es' with
    |nil=>
      refine⟨r',?_,f2⟩;have:r'=none:=by simp[Instr.findAsking]at f1;exact f1.symm
      subst this;simp only[Instr.findKey,Sem.run_bind,run_under hu,Result.andThen_ok,Instr.findNow,Sem.run_pure]
    |cons e u=>
      refine⟨r',?_,f2⟩;have hn:Instr.findNow (.struct fields) x (e::u) 0=none:=by
        simp only[Instr.findNow,Instr.sameNow]
      simp only[Instr.findKey,Sem.run_bind,run_under hu,Result.andThen_ok,hn,f1]
theorem checkKey_leaf{t:TypeId}{k:Nat}(hl:leafIs P t k=true)(e:Bool)(n:Nat)(x:Value)(w:World):(Instr.checkKey e (n+1) t x).run P w=.ok () w:=by
  unfold leafIs at hl;split at hl;all_goals first|(cases hl;done)|skip
  all_goals
    rename_i hu;simp only[Instr.checkKey,Sem.run_bind,run_under hu,Result.andThen_ok];cases x<;>rfl
theorem checkFields{cs:List Value}(e:Bool)(n:Nat)(w:World):∀(ks:List Nat)(fs:List Field)(j:Nat),flatOK P j fs ks=true→j+ks.length≤cs.length→
    (forIn (m:=Sem) fs PUnit.unit (fun f _=>do
      if f.name≠ "_" then Instr.checkKey e (n+1) f.type (←part f.type (List.toArray cs) f.offset)
      pure (ForInStep.yield PUnit.unit))).run P w=.ok PUnit.unit w
  |[],[],j,_,_=>by simp
  |[],_::_,_,hf,_=>by simp[flatOK]at hf
  |_::_,[],_,hf,_=>by simp[flatOK]at hf
  |k::ks,f::fs,j,hf,hl=>by
    simp only[flatOK,Bool.and_eq_true,Bool.not_eq_true',beq_eq_false_iff_ne]at hf;obtain⟨⟨⟨hname,hoff⟩,hleaf⟩,hrest⟩:=hf;have hoff:=Nat.eq_of_beq_eq_true hoff;have hagg:=leaf_run hleaf;simp only[List.length_cons]at hl;have hj:j<cs.length:=by omega
    have hp:(part f.type (List.toArray cs) f.offset).run P w=.ok cs[j] w:=by
      simp[part,run_agg hagg,hoff,hj]
    have ih:=checkFields (cs:=cs) e n w ks fs (j+1) hrest (by omega);simp only[List.forIn_cons,Sem.run_bind,hname,ne_eq,not_false_eq_true,if_true,Result.andThen_ok,hp,checkKey_leaf hleaf,Sem.run_pure];exact ih
theorem checkKey_run{t:TypeId}{ks:Option (List Nat)}(hs:keyIs P t ks=true){key:V}{x:Value}(rx:VRel m key x)(hf:keyFits ks key=true)(e:Bool)(w:World):(Instr.checkKey e 10000 t x).run P w=.ok () w:=by
  cases ks with
  |none=>exact checkKey_leaf hs e 9999 x w
  |some ks=>
    cases key<;>simp only[keyFits]at hf<;>first|(cases hf;done)|skip
    rename_i l;have hf:=Nat.eq_of_beq_eq_true hf;obtain⟨xs,rfl,rxs⟩:=rx;simp only[keyIs,seqIs]at hs;split at hs
    ·rename_i fields hu;simp only[Bool.and_eq_true,Bool.not_eq_true']at hs;have hx:=rxs.length;show(Instr.checkKey e (9998+1+1) t _).run P w=_;rw[Instr.checkKey];simp only[Sem.run_bind,run_under hu,Result.andThen_ok];rw[←Array.forIn_toList];have:=checkFields (P:=P) (cs:=xs) e 9998 w ks fields.toList 0 hs.2 (by omega);simp only[ne_eq,Nat.reduceAdd]at this⊢;rw[this];rfl
    ·cases hs
end
end Go.Ev
