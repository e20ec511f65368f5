/- An evaluator of the program, and contracts over it: EvMb to EvLp. -/
import Derived.Laws.StructEq
import Derived.Laws.BytesString
import Derived.Lib.OthersKept
import Derived.Laws.LoneSync
import Derived.Laws.AppendOwn
import Derived.Lib.ConvBytes
import Derived.Lib.UnsafeStr
import Derived.Lib.Builder
import Derived.KernelRfl
import Derived.RangeFuncRecord
import Derived.OrdersIn
import Derived.Test.YthhhghfnhbocnaaGreatDoorP01
set_option linter.unusedSimpArgs false
set_option linter.unusedVariables false
set_option linter.constructorNameAsVariable false
set_option linter.unnecessarySimpa false
namespace Go.Ev
mutual
def vEq:V→V→Bool
  |.bool a,.bool b=> !(xor a b)
  |.int k n,.int k' n'=>kbeq k k'&&ieq n n'
  |.str s,.str t=>s==t
  |.nilp,.nilp=>true
  |.ptr b o,.ptr b' o'=>Nat.beq b b'&&Nat.beq o o'
  |.nils,.nils=>true
  |.slice b o l c,.slice b' o' l' c'=>Nat.beq b b'&&Nat.beq o o'&&Nat.beq l l'&&Nat.beq c c'
  |.sliceU b o l c,.sliceU b' o' l' c'=>Nat.beq b b'&&Nat.beq o o'&&Nat.beq l l'&&Nat.beq c c'
  |.sliceE,.sliceE=>true
  |.nilm,.nilm=>true
  |.map b,.map b'=>Nat.beq b b'
  |.nilf,.nilf=>true
  |.func f a c,.func f' a' c'=>decide (f=f')&&vsEq a a'&&vsEq c c'
  |.nili,.nili=>true
  |.iface t v,.iface t' v'=>Nat.beq t t'&&vEq v v'
  |.agg l,.agg l'=>vsEq l l'
  |.tup l,.tup l'=>vsEq l l'
  |.yld b,.yld b'=>Nat.beq b b'
  |.sliceZ a c,.sliceZ a' c'=>decide (a=a')&&Nat.beq c c'
  |_,_=>false
def vsEq:List V→List V→Bool
  |[],[]=>true
  |v::vs,u::us=>vEq v u&&vsEq vs us
  |_,_=>false
end
mutual
theorem vEq_eq:∀(a b:V),vEq a b=true→a=b
  |.bool a,b,h=>by cases b<;>simp[vEq]at h;rename_i b;cases a<;>cases b<;>simp_all
  |.int k n,b,h=>by
    cases b<;>simp[vEq]at h;rename_i k' n';have:=kbeq_eq h.1;subst this;have h2:=h.2;rw[ieq_eq]at h2;simp at h2;subst h2;rfl
  |.str s,b,h=>by cases b<;>simp[vEq]at h;subst h;rfl
  |.nilp,b,h=>by cases b<;>simp[vEq]at h;rfl
  |.ptr p o,b,h=>by cases b<;>simp[vEq]at h;obtain⟨rfl,rfl⟩:=h;rfl
  |.nils,b,h=>by cases b<;>simp[vEq]at h;rfl
  |.slice p o l c,b,h=>by cases b<;>simp[vEq]at h;obtain⟨⟨⟨rfl,rfl⟩,rfl⟩,rfl⟩:=h;rfl
  |.sliceU p o l c,b,h=>by cases b<;>simp[vEq]at h;obtain⟨⟨⟨rfl,rfl⟩,rfl⟩,rfl⟩:=h;rfl
  |.sliceE,b,h=>by cases b<;>simp[vEq]at h;rfl
  |.nilm,b,h=>by cases b<;>simp[vEq]at h;rfl
  |.map p,b,h=>by cases b<;>simp[vEq]at h;subst h;rfl
  |.nilf,b,h=>by cases b<;>simp[vEq]at h;rfl
  |.func f x y,b,h=>by
    cases b<;>simp only[vEq,Bool.false_eq_true]at h;simp only[Bool.and_eq_true,decide_eq_true_eq]at h;obtain⟨⟨rfl,h1⟩,h2⟩:=h;rw[vsEq_eq _ _ h1,vsEq_eq _ _ h2]
  |.nili,b,h=>by cases b<;>simp[vEq]at h;rfl
  |.iface t v,b,h=>by
    cases b<;>simp only[vEq,Bool.false_eq_true]at h;simp only[Bool.and_eq_true]at h;rw[Nat.eq_of_beq_eq_true h.1,vEq_eq _ _ h.2]
  |.agg l,b,h=>by cases b<;>simp only[vEq,Bool.false_eq_true]at h;rw[vsEq_eq _ _ h]
  |.tup l,b,h=>by cases b<;>simp only[vEq,Bool.false_eq_true]at h;rw[vsEq_eq _ _ h]
  |.yld p,b,h=>by cases b<;>simp[vEq]at h;subst h;rfl
  |.sliceZ a c,b,h=>by cases b<;>simp[vEq]at h;obtain⟨rfl,rfl⟩:=h;rfl
theorem vsEq_eq:∀(a b:List V),vsEq a b=true→a=b
  |[],[],_=>rfl
  |[],_::_,h=>by simp[vsEq]at h
  |_::_,[],h=>by simp[vsEq]at h
  |v::vs,u::us,h=>by
    simp only[vsEq,Bool.and_eq_true]at h;rw[vEq_eq v u h.1,vsEq_eq vs us h.2]
end
section
variable {P : Program} {m : M} {h : Heap} {w : World}
def scal:V→Bool
  |.int _ _=>true
  |.bool _=>true
  |.str _=>true
  |_=>false
def keyOK:Option (List Nat)→V→Bool
  |some ks,.agg l=>Nat.beq l.length ks.length&&l.all scal
  |ks,v=>keyFits ks v
theorem keyOK_fits{ks:Option (List Nat)}{v:V}(h:keyOK ks v=true):keyFits ks v=true:=by
  unfold keyOK at h;split at h
  ·simp only[Bool.and_eq_true]at h;exact h.1
  ·exact h
theorem scal_same{v:V}{x y:Value}(hs:scal v=true)(rx:VRel m v x)(ry:VRel m v y)(n:Nat):x=y∧Instr.sameBits n x y=true:=by
  cases v<;>simp only[scal]at hs<;>first|(cases hs;done)|skip
  all_goals
    simp only[VRel]at rx ry;subst rx;subst ry;refine⟨rfl,?_⟩;cases n<;>simp[Instr.sameBits,beq_toListBytes]
theorem scals_same(n:Nat):∀(l:List V)(xs ys:List Value),l.all scal=true→VsRel m l xs→VsRel m l ys→xs=ys∧((xs.zip ys).all fun p=>Instr.sameBits n p.1 p.2)=true
  |[],xs,ys,_,hx,hy=>by simp only[VsRel]at hx hy;subst hx;subst hy;exact⟨rfl,rfl⟩
  |v::l,xs,ys,hs,⟨x,xs',e1,r1,t1⟩,⟨y,ys',e2,r2,t2⟩=>by
    subst e1;subst e2;simp only[List.all_cons,Bool.and_eq_true]at hs;obtain⟨a,b⟩:=scal_same hs.1 r1 r2 n;obtain⟨c,d⟩:=scals_same n l xs' ys' hs.2 t1 t2;exact⟨by rw[a,c],by simp only[List.zip_cons_cons,List.all_cons,b,d];rfl⟩
theorem key_same{ks:Option (List Nat)}{v:V}{x y:Value}(hk:keyOK ks v=true)(rx:VRel m v x)(ry:VRel m v y):Instr.sameBits 10000 x y=true:=by
  unfold keyOK at hk;split at hk
  ·rename_i ks l;simp only[Bool.and_eq_true]at hk;obtain⟨xs,rfl,rxs⟩:=rx;obtain⟨ys,rfl,rys⟩:=ry;obtain⟨a,b⟩:=scals_same 9999 l xs ys hk.2 rxs rys;subst a;show Instr.sameBits (9999+1) _ _=true;simp only[Instr.sameBits,Bool.and_eq_true];exact⟨by simp,by simpa using b⟩
  ·rename_i hnot;unfold keyFits at hk;split at hk
   ·exact(scal_same rfl rx ry 10000).2
   ·rename_i ks l;exact absurd rfl (hnot ks l rfl)
   ·cases hk
noncomputable def hmap(h:Heap):Heap:=⟨h.bl.set h.next (.mp [] 0),h.next+1,h.fams,h.tys⟩
theorem HRel.allocM(H:HRel m h w):HRel (mset m h.next ⟨w.heap.size,0,0,none⟩) (hmap h) (w.alloc (.map #[] 0))∧Ext m h w (mset m h.next ⟨w.heap.size,0,0,none⟩) (hmap h) (w.alloc (.map #[] 0)):=by
  have hle:=H.le_mset ⟨w.heap.size,0,0,none⟩;refine H.up rfl ⟨⟨⟨?_,?_⟩,?_,?_,?_⟩,⟨hle,?_,Nat.le_succ _,?_,by simp,?_,rfl,rfl,rfl,Cov.new m _ _ rfl,fun b hb=>Kept.of_eq (heap_alloc_old w _ _ hb),lps_mset rfl⟩⟩
  ·intro p cp f k hp;show match h.fams.get f with|none=>f=p|some (_,e)=>k≤e
   rw[hmap,T.get_set]at hp;by_cases e:p=h.next
   ·rw[if_pos e]at hp;cases hp
   ·rw[if_neg e]at hp;exact H.wf.fam _ _ _ _ hp
  ·intro p hp;have hp':h.next+1≤p:=hp;refine⟨?_,(H.wf.fresh p (by omega)).2⟩;rw[hmap,T.get_set_ne _ _ (by omega)];exact(H.wf.fresh p (by omega)).1
  ·intro p loc hp;by_cases e:p=h.next
   ·subst e;rw[mset_self]at hp;cases hp;exact⟨.mp [] 0,by rw[hmap,T.get_set_self],[],heap_alloc_new w _,rfl,fun i k v n hi=>by simp at hi⟩
   ·rw[mset_ne _ _ e]at hp;obtain⟨b,hb,r⟩:=H.blk p loc hp;refine⟨b,by rw[hmap,T.get_set_ne _ _ e];exact hb,r.mono hle (fun _ _ _ _ x=>x) (heap_alloc_old w _ _ (H.inb p loc hp))⟩
  ·intro p loc hp;by_cases e:p=h.next
   ·subst e;rw[mset_self]at hp;cases hp;simp
   ·rw[mset_ne _ _ e]at hp;have:=H.inb p loc hp;simp;omega
  ·intro p q lp lq hp hq he hne;by_cases e:p=h.next
   ·subst e;rw[mset_self]at hp;cases hp;rw[mset_ne _ _ (Ne.symm hne)]at hq;have:=H.inb q lq hq;simp only[]at he;omega
   ·rw[mset_ne _ _ e]at hp;by_cases e2:q=h.next
    ·subst e2;rw[mset_self]at hq;cases hq;have:=H.inb p lp hp;simp only[]at he;omega
    ·rw[mset_ne _ _ e2]at hq;obtain⟨cp,cq,f,kp,kq,a,b,d⟩:=H.sep p q lp lq hp hq he hne;exact⟨cp,cq,f,kp,kq,by rw[hmap,T.get_set_ne _ _ e];exact a,by rw[hmap,T.get_set_ne _ _ e2];exact b,d⟩
  ·intro p loc hp hn;by_cases e:p=h.next
   ·subst e;rw[mset_self]at hp;cases hp;exact⟨Nat.le_refl _,.inl (Nat.le_refl _)⟩
   ·rw[mset_ne _ _ e]at hp;rw[hp]at hn;cases hn
  ·intro p _ hp;rw[hmap,T.get_set_ne _ _ (by omega)]
  ·intro b _ hb;exact heap_alloc_old w _ _ hb
noncomputable def hsetM(h:Heap)(b:Nat)(es:List (V×V×Nat))(clock:Nat):Heap:=⟨h.bl.set b (.mp es clock),h.next,h.fams,h.tys⟩
theorem HRel.setM(H:HRel m h w){b:Nat}{loc:Loc}(hm:m b=some loc){es0:List (V×V×Nat)}{c0:Nat}(hb:h.bl.get b=some (.mp es0 c0)){es:List (V×V×Nat)}{es':List MapEntry}(clock:Nat)(he:EsRel m es es'):
    HRel m (hsetM h b es clock) {w with heap:=w.heap.setIfInBounds loc.block (.map (List.toArray es') clock)}∧
    Ext m h w m (hsetM h b es clock) {w with heap:=w.heap.setIfInBounds loc.block (.map (List.toArray es') clock)}:=by
  have hin:=H.inb b loc hm;have hother:∀p lp,m p=some lp→p≠b→lp.block≠loc.block:=by
    intro p lp hp hne hbl;obtain⟨cp,cq,f,kp,kq,a1,a2,_⟩:=H.sep p b lp loc hp hm hbl hne;rw[hb]at a2;cases a2
  refine H.up rfl ⟨⟨⟨?_,?_⟩,?_,?_,?_⟩,⟨fun _ _ x=>x,fun p l a c=>(by rw[a]at c;cases c),Nat.le_refl _,?_,by simp,?_,rfl,rfl,rfl,fun _ _ _ x=>x,?_,fun _ _ a b=>by simp[a]at b⟩⟩
  ·intro p cp f k hp;show match h.fams.get f with|none=>f=p|some (_,e)=>k≤e
   rw[hsetM,T.get_set]at hp;by_cases e:p=b
   ·rw[if_pos e]at hp;cases hp
   ·rw[if_neg e]at hp;exact H.wf.fam _ _ _ _ hp
  ·intro p hp;have hfr:=H.wf.fresh p hp;have hpb:p≠b:=by intro e;subst e;rw[hb]at hfr;simp at hfr
   exact⟨by rw[hsetM,T.get_set_ne _ _ hpb];exact hfr.1,hfr.2⟩
  ·intro p lp hp;by_cases e:p=b
   ·subst e;rw[hm]at hp;cases hp;refine⟨.mp es clock,by rw[hsetM,T.get_set_self],es',by simp[hin],he.length,he.get⟩
   ·obtain⟨bk,hbk,r⟩:=H.blk p lp hp;refine⟨bk,by rw[hsetM,T.get_set_ne _ _ e];exact hbk,r.mono (fun _ _ x=>x) (fun _ _ _ _ x=>x) ?_⟩;have:=hother p lp hp e;simp[Array.getElem?_setIfInBounds,Ne.symm this]
  ·intro p lp hp;have:=H.inb p lp hp;simpa using this
  ·intro p q lp lq hp hq hbl hne;obtain⟨cp,cq,f,kp,kq,a1,a2,a3⟩:=H.sep p q lp lq hp hq hbl hne;have h1:p≠b:=by intro e;subst e;rw[hb]at a1;cases a1
   have h2:q≠b:=by intro e;subst e;rw[hb]at a2;cases a2
   exact⟨cp,cq,f,kp,kq,by rw[hsetM,T.get_set_ne _ _ h1];exact a1,by rw[hsetM,T.get_set_ne _ _ h2];exact a2,a3⟩
  ·intro p hn hp;have h1:p≠b:=by intro e;subst e;rw[hm]at hn;cases hn
   rw[hsetM,T.get_set_ne _ _ h1]
  ·intro k hk hlt;have:=hk b loc hm;simp[Array.getElem?_setIfInBounds,this]
  ·intro g hgl;by_cases h4:g=loc.block
   ·subst h4;obtain⟨bk,hbk,rel⟩:=H.blk b loc hm;rw[hb]at hbk;cases hbk;obtain⟨es1,he1,_⟩:=rel;intro x hx;rw[he1]at hx;cases hx;exact⟨.map (List.toArray es') clock,by simp[hin],trivial⟩
   ·exact Kept.of_eq (by simp[Array.getElem?_setIfInBounds,Ne.symm h4])
noncomputable def amm(h:Heap):List V→Option (V×Heap)
  |[]=>some (.map h.next,hmap h)
  |[.int _ _]=>some (.map h.next,hmap h)
  |_=>none
def chkMM(P:Program)(op:Op):Bool:=match op with
  |.makeMap t _=>(match P.underlying t with|some (.map _ _)=>true|_=>false)
  |_=>false
theorem amm_sound(H:HRel m h w){o:Oper}{ρ:Operand→Value}{vs:List V}{v:V}{h':Heap}(hc:chkMM P o.op=true)(hv:VsRel m vs (OV ρ o.op))(hs:amm h vs=some (v,h')):MS P m h w o ρ v h':=by
  unfold chkMM at hc;split at hc
  ·rename_i t r hy;split at hc
   ·rename_i kt et hu;obtain⟨H',E'⟩:=H.allocM;rw[hy]at hv;have run:∀q:Option Value,(∀y,q=some y→∃k n,y=.int k n)→(Instr.makeMap t q).run P w=.ok (.map (some w.heap.size)) (w.alloc (.map #[] 0)):=by
      intro q hq;cases q with
      |none=>simp[Instr.makeMap]
      |some y=>
        obtain⟨k,n,rfl⟩:=hq y rfl;simp[Instr.makeMap,run_under hu,asInt,asIntOf]
    have go:(∀y,r.map ρ=some y→∃k n,y=.int k n)→v=.map h.next→h'=hmap h→MS P m h w o ρ v h':=by
      rintro hq rfl rfl;refine⟨_,_,_,.inl ?_,⟨_,mset_self _ _ _,rfl⟩,H',E'⟩;simp[execOp,hy,run _ hq]
    unfold amm at hs;split at hs
    ·cases hs;refine go (fun y hq=>?_) rfl rfl;cases r with
     |none=>cases hq
     |some a=>simp[OV,Op.operands,VsRel]at hv
    ·rename_i k n;cases hs;refine go (fun y hq=>?_) rfl rfl;cases r with
     |none=>cases hq
     |some a=>
       obtain⟨x,e,rx⟩:=one_of hv;simp[OV,Op.operands]at e;simp at hq;simp only[VRel]at rx;exact⟨k,n,by rw[←hq,e,rx]⟩
    ·cases hs
   ·cases hc
  ·cases hc
def zeroV(P:Program)(t:TypeId)(z:V):Bool:=match P.info? t with
  |some i=>match i.zero with
    |some x=>vis z x
    |none=>false
  |none=>false
theorem run_zeroV{t:TypeId}{z:V}(hz:zeroV P t z=true)(w:World):∃x,(zeroValue t).run P w=.ok x w∧VRel m z x:=by
  unfold zeroV at hz;split at hz
  ·rename_i i hi;split at hz
   ·rename_i x hx;exact⟨x,by simp[zeroValue,run_info hi,hx],vis_rel m _ _ hz⟩
   ·cases hz
  ·cases hz
noncomputable def entsOf(h:Heap):V→Option (List (V×V×Nat))
  |.nilm=>some []
  |.map b=>match h.bl.get b with
    |some (.mp es _)=>some es
    |_=>none
  |_=>none
noncomputable def alk(h:Heap)(ks:Option (List Nat))(zero:V)(ok:Bool)(x key:V):Option V:=
  match entsOf h x with
  |some es=>bif keyOK ks key then
      match mfind ks key es 0 with
      |some (some (_,v))=>some (bif ok then .tup [v,.bool true]else v)
      |some none=>some (bif ok then .tup [zero,.bool false]else zero)
      |none=>none
    else none
  |none=>none
def chkLk(P:Program)(op:Op)(ks:Option (List Nat))(zero:V)(ok:Bool):Bool:=match op with
  |.lookup t _ _ ok'=>(ok==ok')&&(match P.underlying t with|some (.map k e)=>keyIs P k ks&&zeroV P e zero|_=>false)
  |_=>false
theorem alk_sound(H:HRel m h w){o:Oper}{ρ:Operand→Value}{ks:Option (List Nat)}{zero:V}{ok:Bool}{x key v:V}(hc:chkLk P o.op ks zero ok=true)(hv:VsRel m [x,key] (OV ρ o.op))
    (hs:alk h ks zero ok x key=some v):MS P m h w o ρ v h:=by
  unfold chkLk at hc;split at hc
  ·rename_i t a b ok' hy;simp only[Bool.and_eq_true,beq_iff_eq]at hc;obtain⟨hok,hc⟩:=hc;subst hok;split at hc
   ·rename_i kt et hu;simp only[Bool.and_eq_true]at hc;obtain⟨hk,hz⟩:=hc;obtain⟨x',y',e',rx,ry⟩:=two_of hv;rw[hy]at e';change[ρ a,ρ b]=[x',y']at e';simp only[List.cons.injEq,and_true]at e';unfold alk at hs;split at hs
    ·rename_i es hes;cases hkf:keyOK ks key
     ·rw[hkf]at hs;cases hs
     ·rw[hkf]at hs;simp only[cond_true]at hs;have hck:=fun e=>checkKey_run (P:=P) hk ry (keyOK_fits hkf) e w;obtain⟨zx,hzx,rz⟩:=run_zeroV (m:=m) hz w;have main:∀es':List MapEntry,EsRel m es es'→(∀r',(Instr.findKey kt y' es').run P w=.ok r' w→(Instr.lookup t x' y' ok).run P w=.ok (match r' with
          |some (_,u)=>if ok then .tuple #[u,.bool true]else u
          |none=>if ok then .tuple #[zx,.bool false]else zx) w)→MS P m h w o ρ v h:=by
        intro es' he hrun;cases hf:mfind ks key es 0 with
        |none=>rw[hf]at hs;cases hs
        |some r=>
          rw[hf]at hs;obtain⟨r',f1,f2⟩:=findKey_run hk ry w he hf;have hl:=hrun r' f1;cases r with
          |none=>
            simp only[RO]at f2;subst f2;simp only[Option.some.injEq]at hs;subst hs;refine⟨if ok then .tuple #[zx,.bool false]else zx,w,m,.inl ?_,?_,H,Ext.refl _ _ _⟩
            ·simp[execOp,hy,e'.1,e'.2,hl]
            ·cases ok
             ·exact rz
             ·exact⟨[zx,.bool false],rfl,zx,_,rfl,rz,_,_,rfl,rfl,rfl⟩
          |some p=>
            obtain⟨i,u⟩:=p;obtain⟨ux,rfl,ru⟩:=f2;simp only[Option.some.injEq]at hs;subst hs;refine⟨if ok then .tuple #[ux,.bool true]else ux,w,m,.inl ?_,?_,H,Ext.refl _ _ _⟩
            ·simp[execOp,hy,e'.1,e'.2,hl]
            ·cases ok
             ·exact ru
             ·exact⟨[ux,.bool true],rfl,ux,_,rfl,ru,_,_,rfl,rfl,rfl⟩
      unfold entsOf at hes;split at hes
      ·cases hes;simp only[VRel]at rx;subst rx;refine main [] rfl (fun r' hr=>?_);simp only[Instr.lookup,Sem.run_bind,run_under hu,Result.andThen_ok,Sem.run_pure,hck,hr];cases r' with
       |none=>simp[hzx]
       |some p=>simp
      ·rename_i b';split at hes
       ·rename_i es1 cl hb;cases hes;obtain⟨loc,hm,rfl⟩:=rx;obtain⟨bk,hbk,rel⟩:=H.blk b' loc hm;rw[hb]at hbk;cases hbk;obtain⟨es',g1,g2,g3⟩:=rel;refine main es' (EsRel.of_get _ _ g2 g3) (fun r' hr=>?_);simp only[Instr.lookup,Sem.run_bind,run_under hu,Result.andThen_ok,Sem.run_pure,Go.MapKept.run_getObj_map g1,hck,hr];cases r' with
        |none=>simp[hzx]
        |some p=>simp
       ·cases hes
      ·cases hes
    ·cases hs
   ·cases hc
  ·cases hc
noncomputable def amu(h:Heap)(ks:Option (List Nat))(x key val:V):Option (V×Heap):=
  match x with
  |.map b=>match h.bl.get b with
    |some (.mp es clock)=>bif keyOK ks key then
        match mfind ks key es 0 with
        |some (some (i,_))=>match es[i]? with
          |some (k,_,n)=>bif vEq key k then some (.tup [],hsetM h b (es.set i (key,val,n)) clock)else none
          |none=>none
        |some none=>some (.tup [],hsetM h b (es++[(key,val,clock)]) (clock+1))
        |none=>none
      else none
    |_=>none
  |_=>none
def chkMu(P:Program)(op:Op)(ks:Option (List Nat)):Bool:=match op with
  |.mapUpdate t _ _ _=>(match P.underlying t with|some (.map k _)=>keyIs P k ks|_=>false)
  |.insert t _ _ _=>(match P.underlying t with|some (.map k _)=>keyIs P k ks|_=>false)
  |_=>false
theorem EsRel.append{es es2:List (V×V×Nat)}{es' es2':List MapEntry}(a:EsRel m es es')(b:EsRel m es2 es2'):EsRel m (es++es2) (es'++es2'):=by
  induction es generalizing es' with
  |nil=>simp only[EsRel]at a;subst a;exact b
  |cons p es ih=>
    obtain⟨k,v,n⟩:=p;obtain⟨e,r,rfl,h1,h2,h3,t⟩:=a;exact⟨e,r++es2',rfl,h1,h2,h3,ih t⟩
theorem EsRel.set{es:List (V×V×Nat)}{es':List MapEntry}(a:EsRel m es es'){i:Nat}{k v:V}{n:Nat}{e:MapEntry}(h1:VRel m k e.key)(h2:VRel m v e.val)(h3:e.born=n):EsRel m (es.set i (k,v,n)) (es'.set i e):=by
  induction es generalizing es' i with
  |nil=>simp only[EsRel]at a;subst a;simp[EsRel]
  |cons p es ih=>
    obtain⟨k0,v0,n0⟩:=p;obtain⟨e0,r,rfl,g1,g2,g3,t⟩:=a;cases i with
    |zero=>exact⟨e,r,rfl,h1,h2,h3,t⟩
    |succ i=>exact⟨e0,r.set i e,rfl,g1,g2,g3,ih t⟩
theorem amu_sound(H:HRel m h w){o:Oper}{ρ:Operand→Value}{ks:Option (List Nat)}{x key val v:V}{h':Heap}(hc:chkMu P o.op ks=true)(hv:VsRel m [x,key,val] (OV ρ o.op))
    (hs:amu h ks x key val=some (v,h')):MS P m h w o ρ v h':=by
  have main:∀(t:TypeId)(a b c:Operand),(execOp ρ o).run P w=((Instr.mapUpdate t (ρ a) (ρ b) (ρ c)).run P w).andThen (fun _ w'=>.ok .skip w')→OV ρ o.op=[ρ a,ρ b,ρ c]→
      (∃kt et,P.underlying t=some (.map kt et)∧keyIs P kt ks=true)→MS P m h w o ρ v h':=by
    rintro t a b c hex hops ⟨kt,et,hu,hk⟩;rw[hops]at hv;obtain⟨x',y',z',e',rx,ry,rz⟩:=three_of hv;simp only[List.cons.injEq,and_true]at e';unfold amu at hs;split at hs
    ·rename_i b';split at hs
     ·rename_i es clock hb;cases hkf:keyOK ks key
      ·rw[hkf]at hs;cases hs
      ·rw[hkf]at hs;simp only[cond_true]at hs;have hck:=fun e=>checkKey_run (P:=P) hk ry (keyOK_fits hkf) e w;obtain⟨loc,hm,rfl⟩:=rx;obtain⟨bk,hbk,rel⟩:=H.blk b' loc hm;rw[hb]at hbk;cases hbk;obtain⟨es',g1,g2,g3⟩:=rel;have he:=EsRel.of_get _ _ g2 g3;cases hf:mfind ks key es 0 with
       |none=>rw[hf]at hs;cases hs
       |some r=>
         rw[hf]at hs;obtain⟨r',f1,f2⟩:=findKey_run hk ry w he hf;cases r with
         |none=>
           simp only[RO]at f2;subst f2;simp only[Option.some.injEq,Prod.mk.injEq]at hs;obtain⟨rfl,rfl⟩:=hs;have he':EsRel m (es++[(key,val,clock)]) (es'++[{key:=y',val:=z',born:=clock}]):=he.append ⟨_,_,rfl,ry,rz,rfl,rfl⟩;obtain⟨H',E'⟩:=H.setM hm hb (clock+1) he';refine⟨undef,_,m,.inr ⟨?_,rfl⟩,⟨[],rfl,rfl⟩,H',E'⟩;rw[hex,e'.1,e'.2.1,e'.2.2];simp only[Instr.mapUpdate,Sem.run_bind,run_under hu,Result.andThen_ok,Go.MapKept.run_getObj_map g1,hck,f1,Go.MapKept.run_setObj_map _ g1,List.push_toArray]
         |some p=>
           obtain⟨i,u⟩:=p;obtain⟨ux,rfl,ru⟩:=f2;simp only[]at hs;split at hs
           ·rename_i k0 v0 n0 hi;cases hq:vEq key k0
            ·rw[hq]at hs;cases hs
            ·rw[hq]at hs;simp only[cond_true,Option.some.injEq,Prod.mk.injEq]at hs;obtain⟨rfl,rfl⟩:=hs;have:=vEq_eq _ _ hq;subst this;obtain⟨e0,q1,q2,q3,q4⟩:=he.get i _ _ _ hi;have hsb:=key_same hkf q2 ry;have he':EsRel m (es.set i (key,val,n0)) (es'.set i {e0 with key:=y',val:=z'}):=he.set ry rz q4;obtain⟨H',E'⟩:=H.setM hm hb clock he';refine⟨undef,_,m,.inr ⟨?_,rfl⟩,⟨[],rfl,rfl⟩,H',E'⟩;rw[hex,e'.1,e'.2.1,e'.2.2];have hmod:(List.toArray es').modify i (fun e=>{e with key:=y',val:=z'})=List.toArray (es'.set i {e0 with key:=y',val:=z'}):=by
               apply Array.ext_getElem?;intro j;rw[Array.getElem?_modify];simp only[List.getElem?_toArray,List.getElem?_set];by_cases c:i=j
               ·subst c;have hlt:i<es'.length:=(List.getElem?_eq_some_iff.1 q1).1;have hg:es'[i]=e0:=by rw[List.getElem?_eq_getElem hlt]at q1;exact Option.some.inj q1
                simp[hlt,hg]
               ·simp[c]
             have hget:(List.toArray es')[i]? =some e0:=by simpa using q1
             simp only[Instr.mapUpdate,Sem.run_bind,run_under hu,Result.andThen_ok,Go.MapKept.run_getObj_map g1,hck,f1,hget,Option.map_some,Option.getD_some,Instr.keyThatStays,hsb,if_true,Sem.run_pure,hmod,Go.MapKept.run_setObj_map _ g1]
           ·cases hs
     ·cases hs
    ·cases hs
  unfold chkMu at hc;split at hc
  ·rename_i t a b c hy;split at hc
   ·rename_i kt et hu;refine main t a b c ?_ (by rw[hy];rfl) ⟨kt,et,hu,hc⟩;simp[execOp,hy]
   ·cases hc
  ·rename_i t a b c hy;split at hc
   ·rename_i kt et hu;refine main t a b c ?_ (by rw[hy];rfl) ⟨kt,et,hu,hc⟩;simp[execOp,hy]
   ·cases hc
  ·cases hc
end
section
variable {P : Program} {m : M} {h : Heap} {w : World}
noncomputable def aclr(h:Heap)(zero:List V)(d:V):Option (V×Heap):=
  match d with
  |.nils=>some (.tup [],h)
  |.sliceE=>some (.tup [],h)
  |.slice b o n _=>bif Nat.beq n 0 then some (.tup [],h)else(hstore h b o (repL zero n)).map fun h'=>(.tup [],h')
  |.sliceU b o n _=>bif Nat.beq n 0 then some (.tup [],h)else(hstore h b o (repL zero n)).map fun h'=>(.tup [],h')
  |_=>none
def chkClr(P:Program)(op:Op)(zero:List V):Bool:=match callOf op .clear with
  |some (args,ts)=>Nat.beq args.size 1&&(match ts[0]? with
    |some t=>(match P.underlying t with|some (.slice e)=>zeroIs P e zero|_=>false)
    |none=>false)
  |none=>false
theorem one_arg'{op:Op}{b:Builtin}{args:Array Operand}{ts:Array TypeId}(hcl:callOf op b=some (args,ts))(h:args.size=1):∃x,op=.call {callee:=.builtin b,args:= #[x],argTypes:=ts}:=by
  unfold callOf at hcl;split at hcl
  ·rename_i b' args' ts';split at hcl
   ·rename_i hb;subst hb;simp only[Option.some.injEq,Prod.mk.injEq]at hcl;obtain⟨rfl,rfl⟩:=hcl;obtain⟨l⟩:=args';match l,h with
    |[x],_=>exact⟨x,rfl⟩
   ·cases hcl
  ·cases hcl
theorem aclr_sound(H:HRel m h w){o:Oper}{ρ:Operand→Value}{zero:List V}{d v:V}{h':Heap}(hc:chkClr P o.op zero=true)(hv:VsRel m [d] (OV ρ o.op))
    (hs:aclr h zero d=some (v,h')):MS P m h w o ρ v h':=by
  unfold chkClr at hc;split at hc
  ·rename_i args ts hcl;simp only[Bool.and_eq_true]at hc;obtain⟨hsz,ht⟩:=hc;split at ht
   ·rename_i t hts;split at ht
    ·rename_i e hu;obtain⟨x,hy⟩:=one_arg' hcl (Nat.eq_of_beq_eq_true hsz);obtain⟨x',e',rx⟩:=one_of hv;rw[hy]at e';change[ρ x]=[x']at e';simp only[List.cons.injEq,and_true]at e';obtain⟨z,hz,hvz⟩:=run_zero (w:=w) ht;have rz:VsRel m zero z.cells.toList:=vsis_rel m _ _ hvz;have hgo:(execOp ρ o).run P w=((Builtin.clear_ ts o.type #[x']).run P w).andThen fun y w'=>.ok (.value y) w':=by
       simp only[execOp,hy,resolve,invoke,builtin,Sem.run_bind,Sem.run_pure,Result.andThen_ok,List.map_toArray,List.map_cons,List.map_nil,e']
     have nop:(∃c,x'=.slice none 0 c)∨(∃a c,x'=.slice a 0 c)→v=.tup []→h'=h→MS P m h w o ρ v h':=by
       rintro hx rfl rfl;refine⟨.tuple #[],w,m,.inl ?_,⟨[],rfl,rfl⟩,H,Ext.refl _ _ _⟩;rw[hgo];rcases hx with⟨c,rfl⟩|⟨a,c,rfl⟩
       ·simp[Builtin.clear_,hts,run_under hu]
       ·cases a<;>simp[Builtin.clear_,hts,run_under hu]
     have st:∀b k n c loc,m b=some loc→x'=.slice (some ⟨loc.block,loc.base+k,none⟩) n c→(bif Nat.beq n 0 then some (V.tup [],h)else(hstore h b k (repL zero n)).map fun h'=>(V.tup [],h'))=some (v,h')→MS P m h w o ρ v h':=by
       intro b k n c loc hm hx hst;cases hb:Nat.beq n 0
       ·rw[hb]at hst;simp only[cond_false]at hst;cases hst':hstore h b k (repL zero n)with
        |none=>rw[hst']at hst;cases hst
        |some h2=>
          rw[hst']at hst;simp only[Option.map_some,Option.some.injEq,Prod.mk.injEq]at hst;obtain⟨rfl,rfl⟩:=hst;have rel:=zeros_rel rz n;obtain⟨w',hrun,H',E'⟩:=H.store P hm hst' rel;refine⟨.tuple #[],w',m,.inl ?_,⟨[],rfl,rfl⟩,H',E'⟩;rw[hgo,hx];have hn:n≠0:=by intro q;subst q;cases hb
          obtain⟨n',rfl⟩:=Nat.exists_eq_succ_of_ne_zero hn;simp only[Builtin.clear_,hts,Sem.run_bind,run_under hu,Result.andThen_ok,List.getElem?_toArray,List.getElem?_cons_zero,hz,Builtin.zeroCells,Sem.run_pure];have e1:z.cells.size=z.cells.toList.length:=by simp
          rw[e1,show z.cells=z.cells.toList.toArray by simp];simp only[List.size_toArray]at hrun⊢;rw[hrun];rfl
       ·rw[hb]at hst;simp only[cond_true,Option.some.injEq,Prod.mk.injEq]at hst;have:=Nat.eq_of_beq_eq_true hb;subst this;exact nop (.inr ⟨_,_,hx⟩) hst.1.symm hst.2.symm
     unfold aclr at hs;split at hs
     ·cases hs;exact nop (.inl ⟨0,rx⟩) rfl rfl
     ·cases hs;obtain⟨a,c,hx⟩:=rx;exact nop (.inr ⟨_,_,hx⟩) rfl rfl
     ·obtain⟨loc,hm,_,hx⟩:=rx;exact st _ _ _ _ loc hm hx hs
     ·obtain⟨loc,hm,_,hx⟩:=rx;exact st _ _ _ _ loc hm hx hs
     ·cases hs
    ·cases ht
   ·cases ht
  ·cases hc
end
section
variable {P : Program} {m : M} {h : Heap} {w : World}
def bytesOf:List V→Option (List UInt8)
  |[]=>some []
  |.int .u8 n::l=>match bytesOf l with
    |some s=>some (UInt8.ofNat n.toNat::s)
    |none=>none
  |_=>none
noncomputable def ab2s(h:Heap)(x:V):Option V:=
  match x with
  |.nils=>some (.str [])
  |.slice b o n _=>match hload h b o n with
    |some cs=>(bytesOf cs).map .str
    |none=>none
  |.sliceU b o n _=>match hload h b o n with
    |some cs=>(bytesOf cs).map .str
    |none=>none
  |_=>none
def chkB2s(P:Program)(op:Op):Bool:=match op with
  |.convert src dst _=>(match P.underlying src,P.underlying dst with
    |some (.slice e),some .string=>(match P.underlying e with|some (.int .u8)=>true|_=>false)
    |_,_=>false)
  |_=>false
theorem bytesOf_rel:∀(l:List V)(s:List UInt8)(xs:List Value),bytesOf l=some s→VsRel m l xs→∃ns:List Int,xs=ns.map (Value.int .u8)∧s=ns.map fun n=>UInt8.ofNat n.toNat
  |[],s,xs,hb,r=>by
    simp only[bytesOf,Option.some.injEq]at hb;subst hb;simp only[VsRel]at r;subst r;exact⟨[],rfl,rfl⟩
  |v::l,s,xs,hb,r=>by
    unfold bytesOf at hb;split at hb
    ·rename_i q;cases q
    ·rename_i n l' q;cases q;obtain⟨x,xs',rfl,rx,rt⟩:=r;split at hb
     ·rename_i s' hs';cases hb;obtain⟨ns,h1,h2⟩:=bytesOf_rel l s' xs' hs' rt;simp only[VRel]at rx;exact⟨n::ns,by rw[rx,h1];rfl,by rw[h2];rfl⟩
     ·cases hb
    ·cases hb
theorem fold_push:∀(ns:List Int)(s:ByteArray),ns.foldl (fun r n=>r.push (UInt8.ofNat n.toNat)) s=⟨s.data++(ns.map fun n=>UInt8.ofNat n.toNat).toArray⟩
  |[],s=>by simp
  |n::ns,s=>by
    rw[List.foldl_cons,fold_push ns];congr 1;simp[ByteArray.push]
theorem ab2s_sound(H:HRel m h w){o:Oper}{ρ:Operand→Value}{x v:V}(hc:chkB2s P o.op=true)(hv:VsRel m [x] (OV ρ o.op))(hs:ab2s h x=some v):MS P m h w o ρ v h:=by
  unfold chkB2s at hc;split at hc
  ·rename_i src dst a hy;split at hc
   ·rename_i e hsrc hdst;split at hc
    ·rename_i he;obtain⟨x',e',rx⟩:=one_of hv;rw[hy]at e';change[ρ a]=[x']at e';simp only[List.cons.injEq,and_true]at e';have hgo:∀b l c,x'=.slice b l c→(execOp ρ o).run P w=((Conv.bytesToString (.slice b l c)).run P w).andThen fun y w'=>.ok (.value y) w':=by
       intro b l c hx;simp only[execOp,hy,e',hx,Sem.run_bind,run_convert_bytes_string w src dst e b l c hsrc he hdst,Sem.run_pure]
     have main:∀b k n cs c loc,m b=some loc→x'=.slice (some ⟨loc.block,loc.base+k,none⟩) n c→hload h b k n=some cs→(bytesOf cs).map V.str=some v→MS P m h w o ρ v h:=by
       intro b k n cs c loc hm hx hl hb;obtain⟨xs,h1,h2,h3⟩:=H.load P hm hl;cases hbo:bytesOf cs with
       |none=>rw[hbo]at hb;cases hb
       |some s=>
         rw[hbo]at hb;simp only[Option.map_some,Option.some.injEq]at hb;subst hb;obtain⟨ns,q1,q2⟩:=bytesOf_rel cs s xs hbo h2;rw[q1]at h1;refine⟨.string ⟨s.toArray⟩,w,m,.inl ?_,?_,H,Ext.refl _ _ _⟩
         ·rw[hgo _ _ _ hx,run_bytesToString w _ n c ns h1,fold_push,←q2];show Result.ok (Next.value (.string ⟨#[]++s.toArray⟩)) w=_;rw[Array.empty_append]
         ·simp only[VRel]
     unfold ab2s at hs;split at hs
     ·cases hs;simp only[VRel]at rx;refine⟨.string .empty,w,m,.inl ?_,?_,H,Ext.refl _ _ _⟩
      ·rw[hgo _ _ _ rx];rfl
      ·simp only[VRel];rfl
     ·split at hs
      ·rename_i cs hl;obtain⟨loc,hm,_,hx⟩:=rx;exact main _ _ _ _ _ loc hm hx hl hs
      ·cases hs
     ·split at hs
      ·rename_i cs hl;obtain⟨loc,hm,_,hx⟩:=rx;exact main _ _ _ _ _ loc hm hx hl hs
      ·cases hs
     ·cases hs
    ·cases hc
   ·cases hc
  ·cases hc
end
variable {P : Program} {m : M} {h : Heap} {w : World}
noncomputable def hsi(h:Heap)(z:List UInt8):Heap:=⟨h.bl.set h.next (.si z 0),h.next+1,h.fams,h.tys⟩
theorem HRel.allocI(H:HRel m h w)(z:List UInt8):HRel (mset m h.next ⟨w.heap.size,0,0,none⟩) (hsi h z) (w.alloc (.stringIter ⟨z.toArray⟩ 0))∧Ext m h w (mset m h.next ⟨w.heap.size,0,0,none⟩) (hsi h z) (w.alloc (.stringIter ⟨z.toArray⟩ 0)):=by
  have hle:=H.le_mset ⟨w.heap.size,0,0,none⟩;refine H.up rfl ⟨⟨⟨?_,?_⟩,?_,?_,?_⟩,⟨hle,?_,Nat.le_succ _,?_,by simp,?_,rfl,rfl,rfl,Cov.new m _ _ rfl,fun b hb=>Kept.of_eq (heap_alloc_old w _ _ hb),lps_mset rfl⟩⟩
  ·intro p cp f k hp;show match h.fams.get f with|none=>f=p|some (_,e)=>k≤e
   rw[hsi,T.get_set]at hp;by_cases e:p=h.next
   ·rw[if_pos e]at hp;cases hp
   ·rw[if_neg e]at hp;exact H.wf.fam _ _ _ _ hp
  ·intro p hp;have hp':h.next+1≤p:=hp;refine⟨?_,(H.wf.fresh p (by omega)).2⟩;rw[hsi,T.get_set_ne _ _ (by omega)];exact(H.wf.fresh p (by omega)).1
  ·intro p loc hp;by_cases e:p=h.next
   ·subst e;rw[mset_self]at hp;cases hp;exact⟨.si z 0,by rw[hsi,T.get_set_self],rfl,heap_alloc_new w _⟩
   ·rw[mset_ne _ _ e]at hp;obtain⟨b,hb,r⟩:=H.blk p loc hp;refine⟨b,by rw[hsi,T.get_set_ne _ _ e];exact hb,r.mono hle (fun _ _ _ _ x=>x) (heap_alloc_old w _ _ (H.inb p loc hp))⟩
  ·intro p loc hp;by_cases e:p=h.next
   ·subst e;rw[mset_self]at hp;cases hp;simp
   ·rw[mset_ne _ _ e]at hp;have:=H.inb p loc hp;simp;omega
  ·intro p q lp lq hp hq he hne;by_cases e:p=h.next
   ·subst e;rw[mset_self]at hp;cases hp;rw[mset_ne _ _ (Ne.symm hne)]at hq;have:=H.inb q lq hq;simp only[]at he;omega
   ·rw[mset_ne _ _ e]at hp;by_cases e2:q=h.next
    ·subst e2;rw[mset_self]at hq;cases hq;have:=H.inb p lp hp;simp only[]at he;omega
    ·rw[mset_ne _ _ e2]at hq;obtain⟨cp,cq,f,kp,kq,a,b,d⟩:=H.sep p q lp lq hp hq he hne;exact⟨cp,cq,f,kp,kq,by rw[hsi,T.get_set_ne _ _ e];exact a,by rw[hsi,T.get_set_ne _ _ e2];exact b,d⟩
  ·intro p loc hp hn;by_cases e:p=h.next
   ·subst e;rw[mset_self]at hp;cases hp;exact⟨Nat.le_refl _,.inl (Nat.le_refl _)⟩
   ·rw[mset_ne _ _ e]at hp;rw[hp]at hn;cases hn
  ·intro p _ hp;rw[hsi,T.get_set_ne _ _ (by omega)]
  ·intro b _ hb;exact heap_alloc_old w _ _ hb
noncomputable def hsetI(h:Heap)(b:Nat)(z:List UInt8)(pos:Nat):Heap:=⟨h.bl.set b (.si z pos),h.next,h.fams,h.tys⟩
theorem HRel.setI(H:HRel m h w){b:Nat}{loc:Loc}(hm:m b=some loc){z:List UInt8}{c0:Nat}(hb:h.bl.get b=some (.si z c0))(pos:Nat):
    HRel m (hsetI h b z pos) {w with heap:=w.heap.setIfInBounds loc.block (.stringIter ⟨z.toArray⟩ pos)}∧
    Ext m h w m (hsetI h b z pos) {w with heap:=w.heap.setIfInBounds loc.block (.stringIter ⟨z.toArray⟩ pos)}:=by
  have hin:=H.inb b loc hm;have hother:∀p lp,m p=some lp→p≠b→lp.block≠loc.block:=by
    intro p lp hp hne hbl;obtain⟨cp,cq,f,kp,kq,a1,a2,_⟩:=H.sep p b lp loc hp hm hbl hne;rw[hb]at a2;cases a2
  refine H.up rfl ⟨⟨⟨?_,?_⟩,?_,?_,?_⟩,⟨fun _ _ x=>x,fun p l a c=>(by rw[a]at c;cases c),Nat.le_refl _,?_,by simp,?_,rfl,rfl,rfl,fun _ _ _ x=>x,?_,fun _ _ a b=>by simp[a]at b⟩⟩
  ·intro p cp f k hp;show match h.fams.get f with|none=>f=p|some (_,e)=>k≤e
   rw[hsetI,T.get_set]at hp;by_cases e:p=b
   ·rw[if_pos e]at hp;cases hp
   ·rw[if_neg e]at hp;exact H.wf.fam _ _ _ _ hp
  ·intro p hp;have hfr:=H.wf.fresh p hp;have hpb:p≠b:=by intro e;subst e;rw[hb]at hfr;simp at hfr
   exact⟨by rw[hsetI,T.get_set_ne _ _ hpb];exact hfr.1,hfr.2⟩
  ·intro p lp hp;by_cases e:p=b
   ·subst e;rw[hm]at hp;cases hp;obtain⟨bk,hbk,rel⟩:=H.blk p loc hm;rw[hb]at hbk;cases hbk;exact⟨.si z pos,by rw[hsetI,T.get_set_self],rel.1,by show _=_;simp[hin]⟩
   ·obtain⟨bk,hbk,r⟩:=H.blk p lp hp;refine⟨bk,by rw[hsetI,T.get_set_ne _ _ e];exact hbk,r.mono (fun _ _ x=>x) (fun _ _ _ _ x=>x) ?_⟩;have:=hother p lp hp e;simp[Array.getElem?_setIfInBounds,Ne.symm this]
  ·intro p lp hp;have:=H.inb p lp hp;simpa using this
  ·intro p q lp lq hp hq hbl hne;obtain⟨cp,cq,f,kp,kq,a1,a2,a3⟩:=H.sep p q lp lq hp hq hbl hne;have h1:p≠b:=by intro e;subst e;rw[hb]at a1;cases a1
   have h2:q≠b:=by intro e;subst e;rw[hb]at a2;cases a2
   exact⟨cp,cq,f,kp,kq,by rw[hsetI,T.get_set_ne _ _ h1];exact a1,by rw[hsetI,T.get_set_ne _ _ h2];exact a2,a3⟩
  ·intro p hn hp;have h1:p≠b:=by intro e;subst e;rw[hm]at hn;cases hn
   rw[hsetI,T.get_set_ne _ _ h1]
  ·intro k hk hlt;have:=hk b loc hm;simp[Array.getElem?_setIfInBounds,this]
  ·intro g hgl;by_cases h4:g=loc.block
   ·subst h4;obtain⟨bk,hbk,rel⟩:=H.blk b loc hm;rw[hb]at hbk;cases hbk;have he1:w.heap[loc.block]? =some (.stringIter ⟨z.toArray⟩ c0):=rel.2;intro x hx;rw[he1]at hx;cases hx;exact⟨.stringIter ⟨z.toArray⟩ pos,by simp[hin],trivial⟩
   ·exact Kept.of_eq (by simp[Array.getElem?_setIfInBounds,Ne.symm h4])
noncomputable def ait(h:Heap)(nx:Bool)(x:V):Option (V×Heap):=
  bif nx then
    match x with
    |.ptr b 0=>match h.bl.get b with
      |some (.si z pos)=>if pos<z.length then some (.tup [.bool true,.int .i64 (pos:Int),.int .i32 ((Utf8.decode ⟨z.toArray⟩ pos).1:Int)],hsetI h b z (pos+(Utf8.decode ⟨z.toArray⟩ pos).2))else some (.tup [.bool false],h)
      |_=>none
    |_=>none
  else
    match x with
    |.str z=>some (.ptr h.next 0,hsi h z)
    |_=>none
def chkIt(P:Program)(op:Op)(nx:Bool):Bool:=match op with
  |.range t _=> !nx&&(match P.underlying t with|some .string=>true|_=>false)
  |.next _ s=>nx&&s
  |_=>false
theorem ait_sound(H:HRel m h w){o:Oper}{ρ:Operand→Value}{nx:Bool}{x v:V}{h':Heap}(hc:chkIt P o.op nx=true)(hv:VsRel m [x] (OV ρ o.op))(hs:ait h nx x=some (v,h')):MS P m h w o ρ v h':=by
  unfold chkIt at hc;split at hc
  ·rename_i t a hy;simp only[Bool.and_eq_true,Bool.not_eq_true']at hc;obtain⟨rfl,hc⟩:=hc;split at hc
   ·rename_i hu;obtain⟨y,ys,e',ry,rn⟩:=hv;rw[hy]at e';change[ρ a]=y::ys at e';simp only[List.cons.injEq]at e';unfold ait at hs;simp only[cond_false]at hs;split at hs
    ·rename_i z;cases hs;have hx:ρ a=.string ⟨z.toArray⟩:=e'.1.trans ry;obtain⟨H',E'⟩:=H.allocI z;refine⟨_,_,_,.inl ?_,⟨_,mset_self _ _ _,rfl⟩,H',E'⟩;simp[execOp,hy,Instr.range,run_under hu,hx,newObj];rfl
    ·cases hs
   ·cases hc
  ·rename_i a s hy;simp only[Bool.and_eq_true]at hc;obtain⟨rfl,rfl⟩:=hc;obtain⟨y,ys,e',ry,rn⟩:=hv;rw[hy]at e';change[ρ a]=y::ys at e';simp only[List.cons.injEq]at e';unfold ait at hs;simp only[cond_true]at hs;split at hs
   ·rename_i b;obtain⟨loc,hm,rfl⟩:=ry;split at hs
    ·rename_i z pos hb;obtain⟨bk,hbk,rel⟩:=H.blk b loc hm;rw[hb]at hbk;cases hbk;have hx:ρ a=.pointer (some ⟨loc.block,0,none⟩):=by rw[e'.1,rel.1]
     have hz:(⟨z.toArray⟩:ByteArray).size=z.length:=by simp[ByteArray.size]
     split at hs
     ·rename_i hlt;cases hs;obtain⟨H',E'⟩:=H.setI hm hb (pos+(Utf8.decode ⟨z.toArray⟩ pos).2);refine⟨_,_,_,.inl ?_,⟨_,rfl,_,_,rfl,rfl,_,_,rfl,rfl,_,_,rfl,rfl,rfl⟩,H',E'⟩;have:=Go.Lib.run_next_any_at (P:=P) w loc.block ⟨z.toArray⟩ pos o.type rel.2 (by rw[hz];exact hlt);simp[execOp,hy,hx,this,World.iterAt]
     ·rename_i hlt;cases hs;refine⟨_,_,_,.inl ?_,⟨_,rfl,_,_,rfl,rfl,rfl⟩,H,Ext.refl _ _ _⟩;have:=Go.Lib.run_next_end_at (P:=P) w loc.block ⟨z.toArray⟩ pos o.type rel.2 (by rw[hz];exact hlt);simp[execOp,hy,hx,this]
    ·cases hs
   ·cases hs
  ·cases hc
section
variable {P : Program} {m : M} {h : Heap} {w : World}
/-- where the entry with a stamp is -/
def eIdx(n:Nat):List (V×V×Nat)→Nat→Option Nat
  |[],_=>none
  |(_,_,k)::es,i=>bif Nat.beq k n then some i else eIdx n es (i+1)
noncomputable def ame(h:Heap)(ks:Option (List Nat))(zero:V)(st:Bool)(vs:List V):Option (V×Heap):=
  match st,vs with
  |false,[.map b,key]=>(match h.bl.get b with
    |some (.mp es clock)=>bif keyOK ks key then
        match mfind ks key es 0 with
        |some (some (i,_))=>(match es[i]? with
          |some (k,u,n)=>bif vEq key k then some (.tup [u,.int .i64 n],hsetM h b (es.set i (key,u,n)) clock)else none
          |none=>none)
        |some none=>some (.tup [zero,.int .i64 clock],hsetM h b (es++[(key,zero,clock)]) (clock+1))
        |none=>none
      else none
    |_=>none)
  |true,[.map b,.int _ (.ofNat n),val]=>(match h.bl.get b with
    |some (.mp es clock)=>(match eIdx n es 0 with
      |some i=>(match es[i]? with
        |some (k,_,n')=>some (.tup [],hsetM h b (es.set i (k,val,n')) clock)
        |none=>none)
      |none=>none)
    |_=>none)
  |_,_=>none
def chkMe(P:Program)(op:Op)(ks:Option (List Nat))(zero:V)(st:Bool):Bool:=match op with
  |.mapEntry t _ _=> !st&&(match P.underlying t with|some (.map k e)=>keyIs P k ks&&zeroV P e zero|_=>false)
  |.entryStore _ _ _ _=>st
  |_=>false
theorem mfind_get{ks:Option (List Nat)}{key:V}:∀(es:List (V×V×Nat))(j i:Nat)(u:V),mfind ks key es j=some (some (i,u))→∃k n,j≤i∧es[i-j]? =some (k,u,n)
  |[],j,i,u,h=>by simp[mfind]at h
  |(k,v,n)::es,j,i,u,h=>by
    simp only[mfind]at h;cases hk:keyEq ks key k with
    |none=>rw[hk]at h;cases h
    |some b=>
      rw[hk]at h;cases b
      ·obtain⟨k',n',h1,h2⟩:=mfind_get es (j+1) i u h;refine⟨k',n',by omega,?_⟩;rw[show i-j=(i-(j+1))+1 by omega];simpa using h2
      ·simp only[Option.some.injEq,Prod.mk.injEq]at h;obtain⟨rfl,rfl⟩:=h;exact⟨k,n,Nat.le_refl _,by simp⟩
theorem eIdx_run{n:Nat}:∀(es:List (V×V×Nat))(es':List MapEntry)(j i:Nat),EsRel m es es'→eIdx n es j=some i→
    ∃p,i=j+p∧es'.findIdx? (fun e=>(e.born:Int)==(n:Int))=some p
  |[],es',j,i,_,h=>by simp[eIdx]at h
  |(k,v,q)::es,es',j,i,he,h=>by
    obtain⟨e,r,rfl,h1,h2,h3,t⟩:=he;simp only[eIdx]at h;cases hq:Nat.beq q n
    ·rw[hq]at h;simp only[cond_false]at h;obtain⟨p,rfl,hp⟩:=eIdx_run es r (j+1) i t h;refine⟨p+1,by omega,?_⟩;have hne:q≠n:=Nat.ne_of_beq_eq_false hq;have:((e.born:Int)==(n:Int))=false:=beq_eq_false_iff_ne.2 (by rw[h3];omega);rw[List.findIdx?_cons,this,hp];rfl
    ·rw[hq]at h;simp only[cond_true,Option.some.injEq]at h;subst h;have:=Nat.eq_of_beq_eq_true hq;refine⟨0,rfl,?_⟩;have:((e.born:Int)==(n:Int))=true:=beq_iff_eq.2 (by rw[h3];omega);rw[List.findIdx?_cons,this];rfl
theorem modify_set(es':List MapEntry)(i:Nat)(e0:MapEntry)(f:MapEntry→MapEntry)(q1:es'[i]? =some e0):(List.toArray es').modify i f=List.toArray (es'.set i (f e0)):=by
  apply Array.ext_getElem?;intro j;rw[Array.getElem?_modify];simp only[List.getElem?_toArray,List.getElem?_set];by_cases c:i=j
  ·subst c;have hlt:i<es'.length:=(List.getElem?_eq_some_iff.1 q1).1;have hg:es'[i]=e0:=by rw[List.getElem?_eq_getElem hlt]at q1;exact Option.some.inj q1
   simp[hlt,hg]
  ·simp[c]
theorem ame_sound(H:HRel m h w){o:Oper}{ρ:Operand→Value}{ks:Option (List Nat)}{zero:V}{st:Bool}{vs:List V}{v:V}{h':Heap}(hc:chkMe P o.op ks zero st=true)(hv:VsRel m vs (OV ρ o.op))
    (hs:ame h ks zero st vs=some (v,h')):MS P m h w o ρ v h':=by
  unfold chkMe at hc;split at hc
  ·rename_i t a b hy;simp only[Bool.and_eq_true,Bool.not_eq_true']at hc;obtain⟨rfl,hc⟩:=hc;split at hc
   ·rename_i kt et hu;simp only[Bool.and_eq_true]at hc;obtain⟨hk,hz⟩:=hc;unfold ame at hs;split at hs
    ·rename_i b' key _;obtain⟨x',y',e',rx,ry⟩:=two_of hv;rw[hy]at e';change[ρ a,ρ b]=[x',y']at e';simp only[List.cons.injEq,and_true]at e';split at hs
     ·rename_i es clock hb;cases hkf:keyOK ks key
      ·rw[hkf]at hs;cases hs
      ·rw[hkf]at hs;simp only[cond_true]at hs;have hck:=fun e=>checkKey_run (P:=P) hk ry (keyOK_fits hkf) e w;obtain⟨loc,hm,rfl⟩:=rx;obtain⟨bk,hbk,rel⟩:=H.blk b' loc hm;rw[hb]at hbk;cases hbk;obtain⟨es',g1,g2,g3⟩:=rel;have he:=EsRel.of_get _ _ g2 g3;cases hf:mfind ks key es 0 with
       |none=>rw[hf]at hs;cases hs
       |some r=>
         rw[hf]at hs;obtain⟨r',f1,f2⟩:=findKey_run hk ry w he hf;cases r with
         |none=>
           simp only[RO]at f2;subst f2;simp only[Option.some.injEq,Prod.mk.injEq]at hs;obtain⟨rfl,rfl⟩:=hs;obtain⟨zx,hzx,rz⟩:=run_zeroV (m:=m) hz w;have he':EsRel m (es++[(key,zero,clock)]) (es'++[{key:=y',val:=zx,born:=clock}]):=he.append ⟨_,_,rfl,ry,rz,rfl,rfl⟩;obtain⟨H',E'⟩:=H.setM hm hb (clock+1) he';refine⟨.tuple #[zx,goInt clock],_,m,.inl ?_,⟨[zx,goInt clock],rfl,zx,_,rfl,rz,_,_,rfl,rfl,rfl⟩,H',E'⟩;simp only[execOp,hy,e'.1,e'.2];simp only[Instr.mapEntry,Sem.run_bind,run_under hu,Result.andThen_ok,Go.MapKept.run_getObj_map g1,hck,f1,hzx,Go.MapKept.run_setObj_map _ g1,List.push_toArray,Sem.run_pure]
         |some p=>
           obtain⟨i,u⟩:=p;obtain⟨ux,rfl,ru⟩:=f2;simp only[]at hs;split at hs
           ·rename_i k0 v0 n0 hi;cases hq:vEq key k0
            ·rw[hq]at hs;cases hs
            ·rw[hq]at hs;simp only[cond_true,Option.some.injEq,Prod.mk.injEq]at hs;obtain⟨rfl,rfl⟩:=hs;have:=vEq_eq _ _ hq;subst this;obtain⟨k1,n1,_,hu1⟩:=mfind_get es 0 i u hf;rw[Nat.sub_zero,hi]at hu1;cases hu1;obtain⟨e0,q1,q2,q3,q4⟩:=he.get i _ _ _ hi;have hsb:=key_same hkf q2 ry;have he':EsRel m (es.set i (key,u,n0)) (es'.set i {e0 with key:=y'}):=he.set ry q3 q4;obtain⟨H',E'⟩:=H.setM hm hb clock he';have hget:(List.toArray es')[i]? =some e0:=by simpa using q1
             refine⟨.tuple #[ux,goInt n0],_,m,.inl ?_,⟨[ux,goInt n0],rfl,ux,_,rfl,ru,_,_,rfl,rfl,rfl⟩,H',E'⟩;simp only[execOp,hy,e'.1,e'.2];simp only[Instr.mapEntry,Sem.run_bind,run_under hu,Result.andThen_ok,Go.MapKept.run_getObj_map g1,hck,f1,hget,Option.map_some,Option.getD_some,Instr.keyThatStays,hsb,if_true,Sem.run_pure,modify_set es' i e0 _ q1,Go.MapKept.run_setObj_map _ g1,q4]
           ·cases hs
     ·cases hs
    ·simp_all
    ·cases hs
   ·cases hc
  ·rename_i t a b c hy;subst hc;unfold ame at hs;split at hs
   ·simp_all
   ·rename_i b' kk n val _;obtain⟨x',y',z',e',rx,ry,rz⟩:=three_of hv;rw[hy]at e';change[ρ a,ρ b,ρ c]=[x',y',z']at e';simp only[List.cons.injEq,and_true]at e';split at hs
    ·rename_i es clock hb;obtain⟨loc,hm,rfl⟩:=rx;obtain⟨bk,hbk,rel⟩:=H.blk b' loc hm;rw[hb]at hbk;cases hbk;obtain⟨es',g1,g2,g3⟩:=rel;have he:=EsRel.of_get _ _ g2 g3;split at hs
     ·rename_i i hi;split at hs
      ·rename_i k u n' hg;simp only[Option.some.injEq,Prod.mk.injEq]at hs;obtain⟨rfl,rfl⟩:=hs;obtain⟨p,hp,hf⟩:=eIdx_run es es' 0 i he hi;rw[Nat.zero_add]at hp;subst hp;obtain⟨e0,q1,q2,q3,q4⟩:=he.get i _ _ _ hg;have he':EsRel m (es.set i (k,val,n')) (es'.set i {e0 with val:=z'}):=he.set q2 rz q4;obtain⟨H',E'⟩:=H.setM hm hb clock he';simp only[VRel]at ry;refine⟨undef,_,m,.inr ⟨?_,rfl⟩,⟨[],rfl,rfl⟩,H',E'⟩;have hfi:(List.toArray es').findIdx? (fun e=>(e.born:Int)==(n:Int))=some i:=by rw[List.findIdx?_toArray];exact hf
       simp only[execOp,hy,e'.1,e'.2.1,e'.2.2,ry];simp only[Instr.entryStore,Sem.run_bind,asInt,asIntOf,Result.andThen_ok,Go.MapKept.run_getObj_map g1,Sem.run_pure,Int.ofNat_eq_natCast,hfi,modify_set es' i e0 _ q1,Go.MapKept.run_setObj_map _ g1]
      ·cases hs
     ·cases hs
    ·cases hs
   ·cases hs
  ·cases hc
theorem abounds_ttf{len y:Nat}{bs:List V}{l h:Nat}{m:Option Nat}(ha:abounds len y true true false bs=some (l,h,m)):m=none:=by
  match bs,ha with
  |[],ha=>simp[abounds]at ha
  |[_],ha=>simp[abounds]at ha
  |[a,b],ha=>
    simp only[abounds]at ha;cases hb:abound b y with
    |none=>rw[hb]at ha;cases ha
    |some n=>
      rw[hb]at ha;simp only[Option.bind_some]at ha;cases hc:abound a n with
      |none=>rw[hc]at ha;cases ha
      |some k=>rw[hc]at ha;cases ha;rfl
  |_::_::_::_,ha=>simp[abounds]at ha
/-- x[a:b], up to what is known of the row -/
noncomputable def aslu(h:Heap)(esz:Nat)(v:V)(bs:List V):Option V:=
  match v with
  |.sliceU b o len e=>bif Nat.beq e esz&&Nat.blt 0 e then
      (match cellsAt h b with
      |some c=>bif Nat.ble len ((c.length-o)/e)then
          (match abounds len ((c.length-o)/e) true true false bs with
          |some (l,u,_)=>bif Nat.blt l ((c.length-o)/e)then some (.sliceU b (o+l*esz) (u-l) e)else none
          |none=>none)
        else none
      |none=>none)
    else none
  |v=>aslice v esz true true false bs
theorem aslu_sound(H:HRel m h w){o:Oper}{ρ:Operand→Value}{esz:Nat}{x v:V}{bs:List V}(hc:chkP P o.op (.sl none esz true true false)=true)(hv:VsRel m (x::bs) (OV ρ o.op))
    (hs:aslu h esz x bs=some v):MS P m h w o ρ v h:=by
  have hc0:=hc;simp only[chkP]at hc;split at hc
  ·rename_i t a l hh mxo hy;simp only[Bool.and_eq_true,beq_iff_eq]at hc;obtain⟨⟨⟨he,h1⟩,h2⟩,h3⟩:=hc;obtain⟨e,hu,hsz⟩:=elem_slice he;unfold aslu at hs;split at hs
   ·rename_i b k len e0;cases hb:(Nat.beq e0 esz&&Nat.blt 0 e0)
    ·rw[hb]at hs;cases hs
    ·rw[hb]at hs;simp only[cond_true]at hs;simp only[Bool.and_eq_true,Nat.blt_eq]at hb;obtain⟨hb1,hb2⟩:=hb;have he0:=Nat.eq_of_beq_eq_true hb1;subst he0;split at hs
     ·rename_i c hcells;obtain⟨f,mk,hg,hrd⟩:=cellsAt_some hcells;rw[hy,sl_parts]at hv;obtain⟨x',xs',e',rv,rb⟩:=hv;simp only[List.cons.injEq]at e';obtain⟨rfl,rfl⟩:=e';obtain⟨loc,hm,hlc,hx⟩:=rv;obtain⟨bk,hbk,rel⟩:=H.blk b loc hm;rw[hg]at hbk;cases hbk;obtain⟨C,el,fz,hC,hroom,hcl,hcell,hfz⟩:=rel hrd;cases hle:Nat.ble len ((c.length-k)/e0)
      ·rw[hle]at hs;cases hs
      rw[hle]at hs;simp only[cond_true]at hs;have hle:=Nat.le_of_ble_eq_true hle;have hyc:(c.length-k)/e0≤(loc.room-k)/e0:=Nat.div_le_div_right (by omega);split at hs
      ·rename_i l' u' m' ha;have hr:=fun w=>abounds_run (P:=P) (isS:=true) ha hyc hle (by simpa using h1) (by simpa using h2) (by simpa using h3) rb w;have hbd:=(hr default).2;have hm':=abounds_ttf ha;subst hm';simp only[Option.getD_none]at hbd;cases hlt:Nat.blt l' ((c.length-k)/e0)
       ·rw[hlt]at hs;cases hs
       rw[hlt]at hs;simp only[cond_true,Option.some.injEq]at hs;subst hs;have hlt':l'<(c.length-k)/e0:=by simpa[Nat.blt_eq]using hlt
       have hd:(loc.room-(k+l'*e0))/e0=(loc.room-k)/e0-l':=by
         rw[←Nat.sub_sub,Nat.mul_comm,Nat.sub_mul_div]
       refine⟨_,w,m,.inl ?_,⟨loc,hm,by omega,rfl⟩,H,Ext.refl _ _ _⟩;simp only[execOp,hy,Instr.sliceAt,Instr.slice,hx,Sem.run_bind,Sem.run_pure,run_under hu,Result.andThen_ok,(hr w).1,run_size hsz,Option.getD_none];rw[if_neg (by omega),hd];simp only[Option.map_some,add_mk,Nat.add_assoc]
      ·cases hs
     ·cases hs
   ·exact MS_of_PS H (PS_sl hc0 hv hs)
  ·cases hc
end
section
variable {P : Program} {m : M} {h : Heap} {w : World}
/-- a block's type is noted -/
noncomputable def htag(h:Heap)(b ty n:Nat):Heap:=⟨h.bl,h.next,h.fams,h.tys.set b (ty,n)⟩
theorem BRel.htag{b ty n p:Nat}{loc:Loc}{k:Blk}(r:BRel m h p loc w k):BRel m (htag h b ty n) p loc w k:=by
  cases k<;>exact r
theorem HRel.tag(H:HRel m h w){b ty n:Nat}{loc:Loc}{C:Array Value}{fz:Nat×Nat}(hm:m b=some loc)(hb:loc.base=0)(hc:w.heap[loc.block]? =some (.cells C ty fz))(hn:n=0∨C.size=n):
    HRel m (htag h b ty n) w:=by
  refine⟨⟨⟨H.wf.fam,H.wf.fresh⟩,fun p l hp=>?_,H.inb,H.sep⟩,fun p t k hp=>?_⟩
  ·obtain⟨bk,h1,h2⟩:=H.blk p l hp;exact⟨bk,h1,h2.htag⟩
  ·have hp:(h.tys.set b (ty,n)).get p=some (t,k):=hp;rw[T.get_set]at hp;by_cases e:p=b
   ·rw[if_pos e]at hp;cases hp;subst e;exact⟨loc,C,fz,hm,hb,hc,hn⟩
   ·rw[if_neg e]at hp;exact H.tg p t k hp
theorem Ext.tag(m:M)(h:Heap)(w:World)(b ty n:Nat):Ext m h w m (htag h b ty n) w:=
  ⟨fun _ _ x=>x,fun _ _ a b=>by simp[a]at b,Nat.le_refl _,fun _ _ _=>rfl,Nat.le_refl _,fun _ _ _=>rfl,rfl,rfl,rfl,fun _ _ _ x=>x,fun _ _=>Kept.refl _ _ _,fun _ _ a b=>by simp[a]at b⟩
/-- a block that may not be read any more -/
noncomputable def hkill(h:Heap)(b:Nat):Option Heap:=
  match h.bl.get b with
  |some (.row _ f k)=>match h.fams.get f with
    |none=>some ⟨h.bl,h.next+1,h.fams.set f (h.next,k+1),h.tys⟩
    |some (ow,e)=>bif Nat.beq ow b then some ⟨h.bl,h.next+1,h.fams.set f (h.next,e+1),h.tys⟩else none
  |_=>none
theorem hkill_some{h':Heap}{b:Nat}(W:HWF h)(x:hkill h b=some h'):∃c f k e,h.bl.get b=some (.row c f k)∧f<h.next∧(∀p c' k',h.bl.get p=some (.row c' f k')→k'<e)∧
    h'.bl=h.bl∧h'.next=h.next+1∧h'.fams=h.fams.set f (h.next,e)∧h'.tys=h.tys:=by
  unfold hkill at x;split at x
  ·rename_i c f k hg;split at x
   ·rename_i hf;cases x;have hfb:=W.fam _ _ _ _ hg;rw[hf]at hfb;have hfb:f=b:=hfb;refine⟨c,f,k,k+1,hg,?_,fun p c' k' hp=>?_,rfl,rfl,rfl,rfl⟩
    ·rcases Nat.lt_or_ge f h.next with q|q
     ·exact q
     ·have:=(W.fresh f q).1;rw[hfb,hg]at this;cases this
    ·have hfp:=W.fam _ _ _ _ hp;rw[hf]at hfp;have hfp:f=p:=hfp;rw[←hfp,hfb,hg]at hp;cases hp;exact Nat.lt_succ_self _
   ·rename_i ow e hf;cases hb:Nat.beq ow b
    ·rw[hb]at x;cases x
    ·rw[hb]at x;simp only[cond_true,Option.some.injEq]at x;subst x;refine⟨c,f,k,e+1,hg,?_,fun p c' k' hp=>?_,rfl,rfl,rfl,rfl⟩
     ·rcases Nat.lt_or_ge f h.next with q|q
      ·exact q
      ·have:=(W.fresh f q).2;rw[hf]at this;cases this
     ·have hfp:=W.fam _ _ _ _ hp;rw[hf]at hfp;exact Nat.lt_succ_of_le hfp
  ·cases x
theorem HRel.lt(H:HRel m h w){p:Nat}{loc:Loc}(hm:m p=some loc):p<h.next:=by
  rcases Nat.lt_or_ge p h.next with q|q
  ·exact q
  ·rw[H.unmapped q]at hm;cases hm
theorem HRel.kill(H:HRel m h w){h':Heap}{b:Nat}{lb:Loc}(hm:m b=some lb)(x:hkill h b=some h'):HRel m h' w∧Ext m h w m h' w∧
    ∀p loc c f k,m p=some loc→loc.block=lb.block→h'.bl.get p=some (.row c f k)→rd h' p f k=false:=by
  obtain⟨c,f,k,e,hg,hfn,hke,e1,e2,e3,e4⟩:=hkill_some H.wf x;have gf:h'.fams.get f=some (h.next,e):=by rw[e3,T.get_set_self]
  have go:∀q,q≠f→h'.fams.get q=h.fams.get q:=fun q hq=>by rw[e3,T.get_set_ne _ _ hq]
  have dead:∀p loc c' k',m p=some loc→h.bl.get p=some (.row c' f k')→rd h' p f k'=false:=by
    intro p loc c' k' hp hr;have h1:=H.lt hp;have h2:=hke _ _ _ hr;unfold rd;rw[gf];have a:Nat.beq h.next p=false:=by
      cases q:Nat.beq h.next p
      ·rfl
      ·have:=Nat.eq_of_beq_eq_true q;omega
    have b:Nat.beq k' e=false:=by
      cases q:Nat.beq k' e
      ·rfl
      ·have:=Nat.eq_of_beq_eq_true q;omega
    show(Nat.beq h.next p||Nat.beq k' e)=false;rw[a,b];rfl
  have same:∀p loc bk,m p=some loc→h.bl.get p=some bk→BRel m h p loc w bk→BRel m h' p loc w bk:=by
    intro p loc bk hp hb r;cases bk with
    |row c' f' k'=>
      intro hr;by_cases q:f'=f
      ·subst q;rw[dead p loc c' k' hp hb]at hr;cases hr
      ·refine r ?_;unfold rd at hr⊢;rw[go f' q]at hr;exact hr
    |mp es clock=>exact r
    |lp ps as bd en st pend=>exact r
    |si s pos=>exact r
    |dead=>trivial
  have E:Ext m h w m h' w:=⟨fun _ _ x=>x,fun _ _ a b=>by simp[a]at b,by omega,fun _ _ _=>by rw[e1],Nat.le_refl _,fun _ _ _=>rfl,rfl,rfl,rfl,fun _ _ _ x=>x,fun _ _=>Kept.refl _ _ _,fun _ _ a b=>by simp[a]at b⟩;refine⟨(H.up e4 ⟨⟨⟨?_,?_⟩,?_,H.inb,?_⟩,E⟩).1,E,?_⟩
  ·intro p c' f' k' hp;rw[e1]at hp;by_cases q:f'=f
   ·subst q;rw[gf];exact Nat.le_of_lt (hke _ _ _ hp)
   ·rw[go f' q];exact H.wf.fam _ _ _ _ hp
  ·intro p hp;rw[e2]at hp;have:=H.wf.fresh p (by omega);exact⟨by rw[e1];exact this.1,by rw[go p (by omega)];exact this.2⟩
  ·intro p loc hp;obtain⟨bk,h1,h2⟩:=H.blk p loc hp;exact⟨bk,by rw[e1];exact h1,same p loc bk hp h1 h2⟩
  ·intro p q lp lq hp hq he hne;obtain⟨cp,cq,f',kp,kq,a1,a2,a3⟩:=H.sep p q lp lq hp hq he hne;refine⟨cp,cq,f',kp,kq,by rw[e1];exact a1,by rw[e1];exact a2,fun y hy=>?_⟩;by_cases z:f'=f
   ·subst z;rw[gf]at hy;cases hy;have:=H.lt hq;omega
   ·rw[go f' z]at hy;exact a3 y hy
  ·intro p loc c' f' k' hp hbk hr;rw[e1]at hr;by_cases q:p=b
   ·subst q;rw[hg]at hr;cases hr;exact dead p loc c k hp hg
   ·obtain⟨cp,cq,f2,kp,kq,a1,a2,_⟩:=H.sep p b loc lb hp hm hbk q;rw[hg]at a2;cases a2;rw[hr]at a1;cases a1;exact dead p loc _ _ hp hr
/-- bytes of a row are frozen -/
theorem HRel.refz(H:HRel m h w){g:Nat}{C:Array Value}{t:TypeId}{fz fz':Nat×Nat}{w':World}(hg:w.heap[g]? =some (.cells C t fz))(hg':w'.heap[g]? =some (.cells C t fz'))
    (ho:∀i,i≠g→w'.heap[i]? =w.heap[i]?) (hs:w'.heap.size=w.heap.size)
    (hf:∀p loc c f k,m p=some loc→loc.block=g→h.bl.get p=some (.row c f k)→rd h p f k=true→∀i:Nat,i<loc.room→¬(fz'.1≤loc.base+i∧loc.base+i<fz'.2)):HRel m h w':=by
  refine⟨⟨H.wf,fun p loc hp=>?_,fun p loc hp=>by rw[hs];exact H.inb p loc hp,H.sep⟩,fun p ty n hp=>?_⟩
  ·obtain⟨b,hb,r⟩:=H.blk p loc hp;refine⟨b,hb,?_⟩;by_cases e:loc.block=g
   ·cases b with
    |row c f k=>
      intro hr;obtain⟨C1,el,f1,a1,a2,a3,a4,a5⟩:=r hr;rw[e,hg]at a1;cases a1;exact⟨C,t,fz',by rw[e];exact hg',a2,a3,a4,hf p loc c f k hp e hb hr⟩
    |mp es clock=>obtain⟨es',a,_⟩:=r;rw[e,hg]at a;cases a
    |lp ps as bd en st pend=>obtain⟨_,_,_,_,_,q,_⟩:=r;rw[e,hg]at q;cases q
    |si s pos=>have q:=r.2;rw[e,hg]at q;cases q
    |dead=>trivial
   ·exact r.mono (fun _ _ x=>x) (fun _ _ _ _ x=>x) (ho _ e)
  ·obtain⟨loc,C1,f1,a1,a2,a3,a4⟩:=H.tg p ty n hp;by_cases e:loc.block=g
   ·rw[e,hg]at a3;cases a3;exact⟨loc,C,fz',a1,a2,by rw[e];exact hg',a4⟩
   ·exact⟨loc,C1,f1,a1,a2,(ho _ e).trans a3,a4⟩
theorem Ext.refz{g:Nat}{C:Array Value}{t:TypeId}{fz fz':Nat×Nat}{w':World}(hg:w.heap[g]? =some (.cells C t fz))(hg':w'.heap[g]? =some (.cells C t fz'))
    (ho:∀i,i≠g→w'.heap[i]? =w.heap[i]?) (hs:w'.heap.size=w.heap.size) (h1:w'.os=w.os) (h2:w'.tape=w.tape) (h3:w'.output=w.output)
    {p:Nat} {loc:Loc} (hp:m p=some loc) (hpg:loc.block=g) {i:Nat} (hi:i<loc.room) (hj:fz'.1≤loc.base+i∧loc.base+i<fz'.2):Ext m h w m h w':=
  ⟨fun _ _ x=>x,fun _ _ a b=>by simp[a]at b,Nat.le_refl _,fun _ _ _=>rfl,by rw[hs];exact Nat.le_refl _,fun b hb _=>ho b (fun e=>hb p loc hp (hpg.trans e.symm)),h1,h2,h3,fun _ _ _ x=>x,fun b _=>by
    by_cases e:b=g
    ·subst e;intro x hx;rw[hg]at hx;cases hx;exact⟨_,hg',rfl,.inr ⟨loc.base+i,hj.1,hj.2,p,loc,hp,hpg,Nat.le_add_right _ _,by omega⟩,rfl,fun _ _=>rfl⟩
    ·exact Kept.of_eq (ho b e),fun _ _ a b=>by simp[a]at b⟩
/-- what is changed in a block that is new is no concern of what was there -/
theorem Ext.newer{m':M}{h':Heap}{w1 w':World}(E:Ext m h w m' h' w1){g:Nat}(hgw:w.heap.size≤g)(ho:∀i,i≠g→w'.heap[i]? =w1.heap[i]?)(hs:w'.heap.size=w1.heap.size)
    (h1:w'.os=w1.os) (h2:w'.tape=w1.tape) (h3:w'.output=w1.output):Ext m h w m' h' w':=
  ⟨E.le,E.new,E.next,E.phan,by rw[hs];exact E.size,fun b hb hl=>(ho b (by omega)).trans (E.keep b hb hl),h1.trans E.os,h2.trans E.tape,h3.trans E.output,E.cov,
    fun b hb=>by rw[ho b (by omega)];exact E.out b hb,E.lps⟩
def bytes8:List V→Option (List UInt8)
  |[]=>some []
  |.int .u8 (.ofNat n)::l=>bif Nat.blt n 256 then(match bytes8 l with
    |some s=>some (UInt8.ofNat n::s)
    |none=>none)else none
  |_=>none
theorem bytes8_get:∀(l:List V)(s:List UInt8),bytes8 l=some s→s.length=l.length∧∀(j:Nat) x,s[j]? =some x→l[j]? =some (.int .u8 (Int.ofNat x.toNat))
  |[],s,hb=>by
    simp only[bytes8,Option.some.injEq]at hb;subst hb;exact⟨rfl,fun j x hj=>by simp at hj⟩
  |v::l,s,hb=>by
    unfold bytes8 at hb;split at hb
    ·rename_i q;cases q
    ·rename_i n l' q;cases q;cases hn:Nat.blt n 256
     ·rw[hn]at hb;cases hb
     ·rw[hn]at hb;simp only[cond_true]at hb;have hn:n<256:=by simpa[Nat.blt_eq]using hn
      split at hb
      ·rename_i s' hs';cases hb;obtain⟨a,b⟩:=bytes8_get l s' hs';refine⟨by simp[a],fun j x hj=>?_⟩;cases j with
       |zero=>
         simp only[List.getElem?_cons_zero,Option.some.injEq]at hj;subst hj;have:(UInt8.ofNat n).toNat=n:=by simp;omega
         rw[this];rfl
       |succ j=>simpa using b j x (by simpa using hj)
      ·cases hb
    ·cases hb
/-- the operations -/
noncomputable def aus(h:Heap)(ty:Nat)(p n:V):Option (V×Heap):=
  match p,n with
  |.nilp,.int .i64 (.ofNat 0)=>some (.str [],h)
  |.ptr b 0,.int .i64 (.ofNat n)=>bif Nat.blt 0 n&&Nat.blt n 9223372036854775808 then
      (match h.tys.get b with
      |some (t,_)=>bif Nat.beq t ty then
          (match hload h b 0 n with
          |some cs=>(match bytes8 cs with
            |some s=>(match hkill h b with
              |some h'=>some (.str s,h')
              |none=>none)
            |none=>none)
          |none=>none)
        else none
      |none=>none)
    else none
  |_,_=>none
noncomputable def asd(v:V):Option V:=
  match v with
  |.nils=>some .nilp
  |.slice b o _ (_+1)=>some (.ptr b o)
  |.sliceU b o (_+1) _=>some (.ptr b o)
  |_=>none
noncomputable def atou(h:Heap)(v:V):Option V:=
  match v with
  |.nilp=>some .nilp
  |.ptr b o=>(match hload1 h b o with
    |some _=>some (.ptr b o)
    |none=>none)
  |_=>none
noncomputable def afru(h:Heap)(tab:List (Nat×Nat×Nat))(v:V):Option V:=
  match v with
  |.nilp=>some .nilp
  |.ptr b o=>(match h.tys.get b with
    |some (ty,n)=>bif Nat.blt 0 n&&tab.any (fun r=>Nat.beq r.1 ty&&Nat.beq r.2.1 n&&Nat.beq r.2.2 o)then some (.ptr b o)else none
    |none=>none)
  |_=>none
noncomputable def aapt(h:Heap)(ty esz bytes:Nat)(s x:V):Option (V×Heap):=
  match aapp h esz bytes s x with
  |some (.sliceU b o n e,h')=>bif Nat.beq b h.next then
      (match s with
      |.nils=>some (.sliceU b o n e,htag h' b ty 0)
      |.sliceU b0 0 _ _=>(match h.tys.get b0 with
        |some (t,_)=>bif Nat.beq t ty then some (.sliceU b o n e,htag h' b ty 0)else none
        |none=>none)
      |_=>none)
    else some (.sliceU b o n e,h')
  |r=>r
noncomputable def as2b(h:Heap)(v:V):Option (V×Heap):=
  match v with
  |.str s=>some (.sliceU h.next 0 s.length 1,halloc h (s.map fun b=>V.int .u8 (Int.ofNat b.toNat)))
  |_=>none
noncomputable def ape(x y:V):Option V:=
  match x,y with
  |.ptr b o,.ptr b' o'=>bif Nat.beq b b'&&Nat.beq o o' then some (.bool false)else none
  |_,_=>none
noncomputable def aext(h:Heap)(k:XK)(vs:List V):Option (V×Heap):=
  match k,vs with
  |.same,[v]=>some (v,h)
  |.acq,[.ptr _ _]=>some (.tup [],h)
  |.rel,[.ptr _ _]=>some (.tup [],h)
  |.rlm,[.ptr _ _]=>some (.tup [],h)
  |.en,[]=>some (.tup [],h)
  |.di,[]=>some (.tup [],h)
  |.ld,[.ptr b o]=>(match hload1 h b o with
    |some (.int .u32 n)=>some (.int .u32 n,h)
    |_=>none)
  |.sto,[.ptr b o,.int .u32 y]=>(match hload1 h b o with
    |some _=>(match hstore h b o [.int .u32 y]with
      |some h'=>some (.tup [],h')
      |none=>none)
    |none=>none)
  |.cas,[.ptr b o,.int .i32 (.ofNat x),.int .i32 y]=>(match hload1 h b o with
    |some (.int .i32 (.ofNat z))=>bif Nat.beq z x then(match hstore h b o [.int .i32 y]with
      |some h'=>some (.bool true,h')
      |none=>none)else none
    |_=>none)
  |.add,[.ptr b o,.int .i32 y]=>(match hload1 h b o with
    |some (.int .i32 x)=>(match hstore h b o [.int .i32 (fwrap .i32 (x+y))]with
      |some h'=>some (.int .i32 (fwrap .i32 (x+y)),h')
      |none=>none)
    |_=>none)
  |_,_=>none
noncomputable def aux(h:Heap)(k:UK)(vs:List V):Option (V×Heap):=
  match k,vs with
  |.alt ty zero,[]=>some (.ptr h.next 0,htag (halloc h zero) h.next ty zero.length)
  |.tou,[v]=>(match atou h v with
    |some v=>some (v,h)
    |none=>none)
  |.fru tab,[v]=>(match afru h tab v with
    |some v=>some (v,h)
    |none=>none)
  |.sd,[v]=>(match asd v with
    |some v=>some (v,h)
    |none=>none)
  |.us ty,[p,n]=>aus h ty p n
  |.apt ty esz bytes,[s,x]=>aapt h ty esz bytes s x
  |.s2b,[v]=>as2b h v
  |.pe,[x,y]=>(match ape x y with
    |some v=>some (v,h)
    |none=>none)
  |.ext k,vs=>aext h k vs
  |_,_=>none
def xName:XK→String
  |.same=> "internal/abi.NoEscape"
  |.ld=> "sync/atomic.LoadUint32"
  |.sto=> "sync/atomic.StoreUint32"
  |.cas=> "sync/atomic.CompareAndSwapInt32"
  |.add=> "sync/atomic.AddInt32"
  |.acq=> "internal/race.Acquire"
  |.rel=> "internal/race.Release"
  |.rlm=> "internal/race.ReleaseMerge"
  |.en=> "internal/race.Enable"
  |.di=> "internal/race.Disable"
def chkUx(P:Program)(op:Op)(k:UK):Bool:=
  match k with
  |.alt ty zero=>chkAlloc P op zero&&(match op with
    |.alloc t=>Nat.beq t ty
    |_=>false)
  |.tou=>(match op with
    |.convert src dst _=>(match P.underlying src,P.underlying dst with
      |some (.pointer t),some .unsafePointer=>(match P.info? t with
        |some j=>Nat.blt 0 j.size
        |none=>false)
      |_,_=>false)
    |_=>false)
  |.fru tab=>(match op with
    |.convert src dst _=>(match P.underlying src,P.underlying dst with
      |some .unsafePointer,some (.pointer u)=>(P.info? u).isSome&&tab.all (fun r=>liesAt P P.depth r.1 (r.2.1/P.cellsOf r.1) r.2.2 u 1)
      |_,_=>false)
    |_=>false)
  |.sd=>(match callOf op .unsafeSliceData with
    |some (args,_)=>Nat.beq args.size 1
    |none=>false)
  |.us ty=>(match callOf op .unsafeString with
    |some (args,ts)=>Nat.beq args.size 2&&(match ts.toList with
      |[pt,_]=>(match P.underlying pt with
        |some (.pointer e)=>Nat.beq e ty&&Nat.beq (P.cellsOf e) 1
        |_=>false)
      |_=>false)
    |none=>false)
  |.apt ty esz bytes=>chkApp P op esz bytes&&(match callOf op .append with
    |some (_,ts)=>(match ts[0]? with
      |some t=>(match P.underlying t with
        |some (.slice e)=>Nat.beq e ty
        |_=>false)
      |none=>false)
    |none=>false)
  |.s2b=>(match op with
    |.convert src dst _=>(match P.underlying src,P.underlying dst with
      |some .string,some (.slice e)=>(match P.underlying e with
        |some (.int .u8)=>true
        |_=>false)
      |_,_=>false)
    |_=>false)
  |.pe=>(match op with
    |.binOp .neq tp _ _ _=>(match P.underlying tp with
      |some (.pointer te)=>(P.info? te).isSome
      |_=>false)
    |_=>false)
  |.ext k=>(match op with
    |.call {callee:=.value (.func f), .. }=>(match P.funcs[f]? with
      |some fn=>fn.body.isNone&&(fn.name==xName k)&&(fn.origin== "")
      |none=>false)
    |_=>false)
/-- what an operation's values are those of -/
def uxArgs(op:Op)(k:UK):List Operand:=
  match k with
  |.ext _=>(match op with
    |.call c=>c.args.toList
    |_=>[])
  |_=>op.operands.toList
end
section
variable {P : Program} {m : M} {h : Heap} {w : World}
theorem x_find{fn:Func}(k:XK)(h1:fn.name=xName k)(h2:fn.origin= ""):Extern.findNext fn=none∧(fn.name== "runtime.NumGoroutine")=false:=by
  obtain⟨⟩:=fn;simp only at h1 h2;subst h1;subst h2;cases k<;>exact⟨by kernel_rfl,by kernel_rfl⟩
theorem x_same{fn:Func}(h1:fn.name= "internal/abi.NoEscape"):Extern.find fn=some Extern.AbiNoEscape.same:=by
  obtain⟨⟩:=fn;simp only at h1;subst h1;kernel_rfl
theorem x_ld{fn:Func}(h1:fn.name= "sync/atomic.LoadUint32"):Extern.find fn=some (Extern.Atomic.loadT (.int .u32)):=by
  obtain⟨⟩:=fn;simp only at h1;subst h1;kernel_rfl
theorem x_sto{fn:Func}(h1:fn.name= "sync/atomic.StoreUint32"):Extern.find fn=some Extern.Atomic.storeT:=by
  obtain⟨⟩:=fn;simp only at h1;subst h1;kernel_rfl
theorem x_cas{fn:Func}(h1:fn.name= "sync/atomic.CompareAndSwapInt32"):Extern.find fn=some (Extern.Atomic.casT (.int .i32)):=by
  obtain⟨⟩:=fn;simp only at h1;subst h1;kernel_rfl
theorem x_add{fn:Func}(h1:fn.name= "sync/atomic.AddInt32"):Extern.find fn=some (Extern.Atomic.update (Op.intArith .add) .i32 true):=by
  obtain⟨⟩:=fn;simp only at h1;subst h1;kernel_rfl
theorem x_acq{fn:Func}(h1:fn.name= "internal/race.Acquire"):Extern.find fn=some (Extern.Race.marked .acquire):=by
  obtain⟨⟩:=fn;simp only at h1;subst h1;kernel_rfl
theorem x_rel{fn:Func}(h1:fn.name= "internal/race.Release"):Extern.find fn=some (Extern.Race.marked .release):=by
  obtain⟨⟩:=fn;simp only at h1;subst h1;kernel_rfl
theorem x_rlm{fn:Func}(h1:fn.name= "internal/race.ReleaseMerge"):Extern.find fn=some (Extern.Race.marked .releaseMerge):=by
  obtain⟨⟩:=fn;simp only at h1;subst h1;kernel_rfl
theorem x_en{fn:Func}(h1:fn.name= "internal/race.Enable"):Extern.find fn=some (fun _=>do mark .enable;pure Extern.Race.none_):=by
  obtain⟨⟩:=fn;simp only at h1;subst h1;kernel_rfl
theorem x_di{fn:Func}(h1:fn.name= "internal/race.Disable"):Extern.find fn=some (fun _=>do mark .disable;pure Extern.Race.none_):=by
  obtain⟨⟩:=fn;simp only at h1;subst h1;kernel_rfl
/-- a store of one cell -/
theorem HRel.set1(H:HRel m h w)(P:Program){b o:Nat}{loc:Loc}{v:V}{x:Value}{h':Heap}(hm:m b=some loc)(hs:hstore h b o [v]=some h')(hv:VRel m v x){u:Value}
    (hc:w.cell? ⟨loc.block,loc.base+o,none⟩=some u):
    w.frozen? ⟨loc.block,loc.base+o,none⟩=false∧HRel m h' (w.setCell ⟨loc.block,loc.base+o,none⟩ x)∧Ext m h w m h' (w.setCell ⟨loc.block,loc.base+o,none⟩ x):=by
  obtain⟨c,f,k,c',hg,ho,hu,_⟩:=hstore_some hs;have hone:oneCell x=true:=hv.one (by simpa[onesB]using ho);have hone':x.oneCell'=true:=by rw[←oneCell_eq];exact hone
  obtain⟨w',hrun,H',E'⟩:=H.store P hm hs (VsRel.cons hv VsRel.nil);unfold storeCells at hrun;simp only[Sem.run_bind,add_mk,Nat.add_zero,run_store P w _ x .plain hone',hc]at hrun;cases hf:w.frozen? ⟨loc.block,loc.base+o,none⟩
  ·rw[hf]at hrun;simp only[Bool.false_eq_true,if_false,Result.andThen_ok]at hrun;have hrun:Result.ok () (w.setCell ⟨loc.block,loc.base+o,none⟩ x)=Result.ok () w':=hrun;cases hrun;exact⟨rfl,H',E'⟩
  ·rw[hf]at hrun;simp at hrun
theorem aext_sound(H:HRel m h w){o:Oper}{ρ:Operand→Value}(hρ:∀f,ρ (.func f)=.func (.func f) #[] #[]){k:XK}{vs:List V}{v:V}{h':Heap}(hc:chkUx P o.op (.ext k)=true)
    (hv:VsRel m vs ((uxArgs o.op (.ext k)).map ρ)) (hs:aext h k vs=some (v,h')):MS P m h w o ρ v h':=by
  unfold chkUx at hc;simp only at hc;split at hc;case h_2=>cases hc
  rename_i f args ts hy;rw[hy]at hv;replace hv:VsRel m vs (args.toList.map ρ):=hv;split at hc
  ·rename_i fn hf;simp only[Bool.and_eq_true,beq_iff_eq]at hc;obtain⟨⟨hb,hn⟩,ho⟩:=hc;obtain⟨hnx,hng⟩:=x_find k hn ho;have hr:∀xs,args.toList.map ρ=xs→(execOp ρ o).run P w=(callFunc f (List.toArray xs)).run P w:=by
     intro xs hxs;have q:args.map ρ=List.toArray xs:=Array.ext' (by simp[hxs]);simp only[execOp,hy,resolve,hρ,Deferred.ofValue,Sem.run_bind,Sem.run_pure,Result.andThen_ok,invoke];simp[q]
   unfold aext at hs;split at hs
   ·
    cases hs;obtain⟨x,e,rx⟩:=one_of hv;refine⟨x,w,m,.inl ?_,rx,H,Ext.refl _ _ _⟩;rw[hr _ e,run_callFunc_extern hf hng hb hnx (x_same hn)];rfl
   ·cases hs;obtain⟨x,e,loc,hm,rfl⟩:=one_of hv;refine⟨_,w,m,.inl ?_,⟨[],rfl,rfl⟩,H,Ext.refl _ _ _⟩;rw[hr _ e];exact run_call_marked hf hng hb hnx .acquire (x_acq hn) _ w
   ·cases hs;obtain⟨x,e,loc,hm,rfl⟩:=one_of hv;refine⟨_,w,m,.inl ?_,⟨[],rfl,rfl⟩,H,Ext.refl _ _ _⟩;rw[hr _ e];exact run_call_marked hf hng hb hnx .release (x_rel hn) _ w
   ·cases hs;obtain⟨x,e,loc,hm,rfl⟩:=one_of hv;refine⟨_,w,m,.inl ?_,⟨[],rfl,rfl⟩,H,Ext.refl _ _ _⟩;rw[hr _ e];exact run_call_marked hf hng hb hnx .releaseMerge (x_rlm hn) _ w
   ·cases hs;refine⟨_,w,m,.inl ?_,⟨[],rfl,rfl⟩,H,Ext.refl _ _ _⟩;rw[hr _ hv];exact run_call_mark0 hf hng hb hnx .enable (x_en hn) w
   ·cases hs;refine⟨_,w,m,.inl ?_,⟨[],rfl,rfl⟩,H,Ext.refl _ _ _⟩;rw[hr _ hv];exact run_call_mark0 hf hng hb hnx .disable (x_di hn) w
   ·rename_i b i;split at hs
    ·rename_i n hl;cases hs;obtain⟨x,e,loc,hm,rfl⟩:=one_of hv;obtain⟨y,hy',ry⟩:=H.load1 hm hl;simp only[VRel]at ry;subst ry;refine⟨_,w,m,.inl ?_,rfl,H,Ext.refl _ _ _⟩;rw[hr _ e];exact run_call_load hf hng hb hnx .u32 (x_ld hn) hy'
    ·cases hs
   ·rename_i b i y;split at hs
    ·rename_i u hl;split at hs
     ·rename_i h1 hst;cases hs;obtain⟨x1,x2,e,⟨loc,hm,rfl⟩,rfl⟩:=two_of hv;obtain⟨z,hz,_⟩:=H.load1 hm hl;obtain⟨hfz,H',E'⟩:=H.set1 P hm hst (x:=.int .u32 y) rfl hz;refine⟨_,_,m,.inl ?_,⟨[],rfl,rfl⟩,H',E'⟩;rw[hr _ e];exact run_call_store hf hng hb hnx (x_sto hn) hz hfz
     ·cases hs
    ·cases hs
   ·rename_i b i x y;split at hs
    ·rename_i z hl;cases hzx:Nat.beq z x
     ·rw[hzx]at hs;cases hs
     ·rw[hzx]at hs;simp only[cond_true]at hs;have:=Nat.eq_of_beq_eq_true hzx;subst this;split at hs
      ·rename_i h1 hst;cases hs;obtain⟨x1,r1,e,⟨loc,hm,rfl⟩,x2,r2,e2,rfl,x3,r3,e3,rfl,e4⟩:=hv;subst e2;subst e3;simp only[VsRel]at e4;subst e4;obtain⟨u,hu,ru⟩:=H.load1 hm hl;simp only[VRel]at ru;subst ru;obtain⟨hfz,H',E'⟩:=H.set1 P hm hst (x:=.int .i32 y) rfl hu;refine⟨_,_,m,.inl ?_,rfl,H',E'⟩;rw[hr _ e];exact run_call_cas_hit hf hng hb hnx .i32 (x_cas hn) hu hfz
      ·cases hs
    ·cases hs
   ·rename_i b i y;split at hs
    ·rename_i x hl;split at hs
     ·rename_i h1 hst;cases hs;obtain⟨x1,x2,e,⟨loc,hm,rfl⟩,rfl⟩:=two_of hv;obtain⟨z,hz,rz⟩:=H.load1 hm hl;simp only[VRel]at rz;subst rz;obtain⟨hfz,H',E'⟩:=H.set1 P hm hst (x:=.int .i32 (fwrap .i32 (x+y))) rfl hz;refine⟨_,_,m,.inl ?_,rfl,H',E'⟩;rw[hr _ e];refine run_call_add hf hng hb hnx .i32 (x_add hn) hz hfz ?_;rw[fwrap_eq];rfl
     ·cases hs
    ·cases hs
   ·cases hs
  ·cases hc
theorem aus_sound(H:HRel m h w){o:Oper}{ρ:Operand→Value}{ty:Nat}{p n v:V}{h':Heap}(hc:chkUx P o.op (.us ty)=true)(hv:VsRel m [p,n] (OV ρ o.op))(hs:aus h ty p n=some (v,h')):MS P m h w o ρ v h':=by
  unfold chkUx at hc;simp only at hc;split at hc
  ·rename_i args ts hcl;simp only[Bool.and_eq_true]at hc;obtain⟨x,y,hy⟩:=two_arg' hcl (Nat.eq_of_beq_eq_true hc.1);replace hc:=hc.2;split at hc
   ·rename_i pt it hts;have hts:ts= #[pt,it]:=Array.ext' (by simpa using hts);subst hts;split at hc
    ·rename_i e hu;simp only[Bool.and_eq_true]at hc;have he:=Nat.eq_of_beq_eq_true hc.1;subst he;have hce:=Nat.eq_of_beq_eq_true hc.2;obtain⟨x',y',e',rx,ry⟩:=two_of hv;rw[hy]at e';change[ρ x,ρ y]=[x',y']at e';simp only[List.cons.injEq,and_true]at e';have go:(execOp ρ o).run P w=((Builtin.unsafeString_ #[pt,it] o.type #[x',y']).run P w).andThen fun y w'=>.ok (.value y) w':=by
       simp only[execOp,hy,resolve,invoke,builtin,Sem.run_bind,Sem.run_pure,Result.andThen_ok];simp[e'.1,e'.2]
     unfold aus at hs;split at hs
     ·cases hs;simp only[VRel]at rx ry;refine⟨.string ⟨#[]⟩,w,m,.inl ?_,rfl,H,Ext.refl _ _ _⟩;rw[go,rx,ry];have:=Lib.run_unsafeString_none (P:=P) w pt it o.type none;rw[show Value.int .i64 (Int.ofNat 0)=Value.int .i64 0 from rfl,this];rfl
     ·rename_i b n;cases hn:(Nat.blt 0 n&&Nat.blt n 9223372036854775808)
      ·rw[hn]at hs;cases hs
      ·rw[hn]at hs;simp only[cond_true]at hs;simp only[Bool.and_eq_true,Nat.blt_eq]at hn;split at hs
       ·rename_i t k htg;cases ht:Nat.beq t e
        ·rw[ht]at hs;cases hs
        ·rw[ht]at hs;simp only[cond_true]at hs;have ht:=Nat.eq_of_beq_eq_true ht;subst ht;split at hs
         ·rename_i cs hl;split at hs
          ·rename_i s hb8;split at hs
           ·rename_i h1 hk;cases hs;obtain⟨loc,hm,hx⟩:=rx;simp only[VRel]at ry;obtain⟨loc',C,fz,g1,g2,g3,g4⟩:=H.tg b t k htg;rw[hm]at g1;cases g1;obtain⟨b1,b2⟩:=bytes8_get _ _ hb8;unfold hload at hl;split at hl
            ·rename_i c hcells;obtain⟨f,mk,hg,hrd⟩:=cellsAt_some hcells;obtain⟨bk,hbk,rel⟩:=H.blk b loc hm;rw[hg]at hbk;cases hbk;obtain⟨C',el,fz',hC,hroom,hcl',hcell,hfz⟩:=rel hrd;rw[g3]at hC;cases hC;obtain⟨hold',hol⟩:=takeL_eq hl;rw[dropL_eq]at hold' hol;simp only[List.drop_zero]at hold' hol;have hsl:s.length=n:=by rw[b1,hold'];simp;omega
             have hn0:s≠[]:=by intro q;rw[q]at hsl;simp at hsl;omega
             have hcl2:n≤c.length:=by omega
             have hcellj:∀(j:Nat) x,s[j]? =some x→w.cell? ((⟨loc.block,0,none⟩:Addr).add j)=some (.int .u8 x.toNat):=by
               intro j x hj;have q1:=b2 j x hj;rw[hold',List.getElem?_take]at q1;split at q1
               ·obtain⟨y,hy1,ry1⟩:=hcell j _ q1;simp only[VRel]at ry1;rw[add_mk];show(match w.heap[loc.block]? with|some (.cells c _ _)=>(if(none:Option _).isSome then none else c[0+j]?)|_=>none)=_
                rw[g3];simp only[Option.isSome_none,Bool.false_eq_true,if_false,Nat.zero_add];rw[g2,Nat.zero_add]at hy1;rw[hy1,ry1];rfl
               ·cases q1
             have hrun:=Lib.run_unsafeString_row (P:=P) w pt it o.type t hu hce loc.block C.size (by simp[World.shape?,g3]) s hn0 (by omega) (by omega) hcellj;rw[hsl]at hrun;obtain⟨K,EK,dead⟩:=H.kill hm hk;obtain⟨fz2,hz1,hz2,hz3⟩:∃fz2:Nat×Nat,(w.freeze ⟨loc.block,0,none⟩ n).heap[loc.block]? =some (.cells C t fz2)∧fz2.1≤0∧0<fz2.2:=by
               obtain⟨lo,hi⟩:=fz;refine⟨if lo==hi then(0,0+n)else(min lo 0,max hi (0+n)),?_,?_,?_⟩
               ·unfold World.freeze;rw[if_neg (by omega)];simp[Array.getElem?_modify,g3]
               ·split<;>simp
               ·split<;>simp<;>omega
             have ho:∀i,i≠loc.block→(w.freeze ⟨loc.block,0,none⟩ n).heap[i]? =w.heap[i]? :=by
               intro i hi;unfold World.freeze;rw[if_neg (by omega)];simp[Array.getElem?_modify,Ne.symm hi]
             have hsz:(w.freeze ⟨loc.block,0,none⟩ n).heap.size=w.heap.size:=by
               unfold World.freeze;split<;>simp
             have hos:(w.freeze ⟨loc.block,0,none⟩ n).os=w.os∧(w.freeze ⟨loc.block,0,none⟩ n).tape=w.tape∧(w.freeze ⟨loc.block,0,none⟩ n).output=w.output:=by
               unfold World.freeze;split<;>exact⟨rfl,rfl,rfl⟩
             refine⟨.string ⟨s.toArray⟩,w.freeze ⟨loc.block,0,none⟩ n,m,.inl ?_,rfl,K.refz g3 hz1 ho hsz (fun p l c1 f1 k1 hp hpb hr1 hr2=>?_),EK.trans (Ext.refz g3 hz1 ho hsz hos.1 hos.2.1 hos.2.2 hm rfl (i:=0) (by omega) (by rw[g2];exact⟨hz2,hz3⟩))⟩
             ·rw[go,hx,ry,g2];simp only[Nat.add_zero];rw[show Value.int .i64 (Int.ofNat n)=Value.int .i64 (n:Int)from rfl,hrun];rfl
             ·rw[dead p l c1 f1 k1 hp hpb hr1]at hr2;cases hr2
            ·cases hl
           ·cases hs
          ·cases hs
         ·cases hs
       ·cases hs
     ·cases hs
    ·cases hc
   ·cases hc
  ·cases hc
theorem asd_sound(H:HRel m h w){o:Oper}{ρ:Operand→Value}{x v:V}(hc:chkUx P o.op .sd=true)(hv:VsRel m [x] (OV ρ o.op))(hs:asd x=some v):MS P m h w o ρ v h:=by
  unfold chkUx at hc;simp only at hc;split at hc
  ·rename_i args ts hcl;obtain⟨a,hy⟩:=one_arg' hcl (Nat.eq_of_beq_eq_true hc);obtain⟨x',e',rx⟩:=one_of hv;rw[hy]at e';change[ρ a]=[x']at e';simp only[List.cons.injEq,and_true]at e';have go:(execOp ρ o).run P w=((Builtin.unsafeSliceData_ ts o.type #[x']).run P w).andThen fun y w'=>.ok (.value y) w':=by
     simp only[execOp,hy,resolve,invoke,builtin,Sem.run_bind,Sem.run_pure,Result.andThen_ok];simp[e']
   unfold asd at hs;split at hs
   ·cases hs;simp only[VRel]at rx;refine⟨.pointer none,w,m,.inl ?_,rfl,H,Ext.refl _ _ _⟩;rw[go,rx];rfl
   ·cases hs;obtain⟨loc,hm,_,rfl⟩:=rx;refine⟨_,w,m,.inl ?_,⟨loc,hm,rfl⟩,H,Ext.refl _ _ _⟩;rw[go,Lib.run_unsafeSliceData_row (P:=P) w ts o.type _ _ _ (by omega)];rfl
   ·cases hs;obtain⟨loc,hm,hle,rfl⟩:=rx;refine⟨_,w,m,.inl ?_,⟨loc,hm,rfl⟩,H,Ext.refl _ _ _⟩;rw[go,Lib.run_unsafeSliceData_row (P:=P) w ts o.type _ _ _ (by omega)];rfl
   ·cases hs
  ·cases hc
theorem aconv(H:HRel m h w){o:Oper}{ρ:Operand→Value}{src dst:TypeId}{a:Operand}(hy:o.op=.convert src dst a){v:V}{x' y:Value}(e':ρ a=x')(hr:(convert src dst x').run P w=.ok y w)(ry:VRel m v y):MS P m h w o ρ v h:=
  ⟨y,w,m,.inl (by simp only[execOp,hy,e',Sem.run_bind,hr,Sem.run_pure,Result.andThen_ok]),ry,H,Ext.refl _ _ _⟩
theorem atou_sound(H:HRel m h w){o:Oper}{ρ:Operand→Value}{x v:V}(hc:chkUx P o.op .tou=true)(hv:VsRel m [x] (OV ρ o.op))(hs:atou h x=some v):MS P m h w o ρ v h:=by
  unfold chkUx at hc;simp only at hc;split at hc
  ·rename_i src dst a hy;split at hc
   ·rename_i t h1 h2;split at hc
    ·rename_i j hj;have hj0:j.size≠0:=by have:0<j.size:=(by simpa[Nat.blt_eq]using hc);omega
     obtain⟨x',e',rx⟩:=one_of hv;rw[hy]at e';change[ρ a]=[x']at e';simp only[List.cons.injEq,and_true]at e';unfold atou at hs;split at hs
     ·cases hs;simp only[VRel]at rx;subst rx;exact aconv H hy e' (y:=.pointer none) (by simp[convert,run_underlying h1,run_underlying h2,Conv.unsafePointer]) rfl
     ·rename_i b k;split at hs
      ·rename_i u hl;cases hs;obtain⟨loc,hm,rfl⟩:=rx;obtain⟨z,hz,_⟩:=H.load1 hm hl;exact aconv H hy e' (run_convert_to_unsafe h1 h2 (by simp[hj,hj0]) hz) ⟨loc,hm,rfl⟩
      ·cases hs
     ·cases hs
    ·cases hc
   ·cases hc
  ·cases hc
theorem afru_sound(H:HRel m h w){o:Oper}{ρ:Operand→Value}{tab:List (Nat×Nat×Nat)}{x v:V}(hc:chkUx P o.op (.fru tab)=true)(hv:VsRel m [x] (OV ρ o.op))(hs:afru h tab x=some v):MS P m h w o ρ v h:=by
  unfold chkUx at hc;simp only at hc;split at hc
  ·rename_i src dst a hy;split at hc
   ·rename_i u h1 h2;simp only[Bool.and_eq_true]at hc;obtain⟨j,hj⟩:=Option.isSome_iff_exists.1 hc.1;obtain⟨x',e',rx⟩:=one_of hv;rw[hy]at e';change[ρ a]=[x']at e';simp only[List.cons.injEq,and_true]at e';unfold afru at hs;split at hs
    ·cases hs;simp only[VRel]at rx;subst rx;exact aconv H hy e' (y:=.pointer none) (by simp[convert,run_underlying h1,run_underlying h2,Conv.unsafePointer]) rfl
    ·rename_i b k;split at hs
     ·rename_i ty n htg;cases hb:(Nat.blt 0 n&&tab.any (fun r=>Nat.beq r.1 ty&&Nat.beq r.2.1 n&&Nat.beq r.2.2 k))
      ·rw[hb]at hs;cases hs
      ·rw[hb]at hs;cases hs;simp only[Bool.and_eq_true,Nat.blt_eq]at hb;obtain⟨hn,hb⟩:=hb;obtain⟨r,hr,hb⟩:=List.any_eq_true.1 hb;simp only[Bool.and_eq_true]at hb;have q:=List.all_eq_true.1 hc.2 r hr;simp only[Nat.eq_of_beq_eq_true hb.1.1,Nat.eq_of_beq_eq_true hb.1.2,Nat.eq_of_beq_eq_true hb.2]at q;obtain⟨loc,hm,rfl⟩:=rx;obtain⟨loc',C,fz,g1,g2,g3,g4⟩:=H.tg b ty n htg;rw[hm]at g1;cases g1;have hCn:C.size=n:=by rcases g4 with g4|g4<;>omega
       refine aconv H hy e' (Lib.run_from_unsafe (e:=ty) (cells:=C.size) w _ h1 h2 hj (by simp[World.shape?,g3]) ?_) ⟨loc,hm,rfl⟩;show liesAt P P.depth ty (C.size/P.cellsOf ty) (loc.base+k) u 1=true;rw[hCn,g2,Nat.zero_add];exact q
     ·cases hs
    ·cases hs
   ·cases hc
  ·cases hc
theorem aalt_sound(H:HRel m h w){o:Oper}{ρ:Operand→Value}{ty:Nat}{zero:List V}(hc:chkUx P o.op (.alt ty zero)=true):MS P m h w o ρ (.ptr h.next 0) (htag (halloc h zero) h.next ty zero.length):=by
  unfold chkUx at hc;simp only[Bool.and_eq_true]at hc;obtain⟨hc1,hc2⟩:=hc;unfold chkAlloc at hc1;split at hc1
  ·rename_i t hy;rw[hy]at hc2;have ht:=Nat.eq_of_beq_eq_true hc2;subst ht;obtain⟨z,hz,hv⟩:=run_zero (w:=w) hc1;have rz:VsRel m zero z.cells.toList:=vsis_rel m _ _ hv;obtain⟨H',E'⟩:=H.alloc_list t rz;refine⟨_,_,_,.inl ?_,⟨_,mset_self _ _ _,rfl⟩,H'.tag (mset_self _ _ _) rfl (heap_alloc_new w _) (.inr (by simpa using rz.length)),E'.trans (Ext.tag _ _ _ _ _ _)⟩;have hnr:=newRow_run (P:=P) (w:=w) z.cells t;simp[execOp,hy,Instr.alloc,hz,newVar,hnr]
  ·cases hc1
theorem ape_sound(H:HRel m h w){o:Oper}{ρ:Operand→Value}{x y v:V}(hc:chkUx P o.op .pe=true)(hv:VsRel m [x,y] (OV ρ o.op))(hs:ape x y=some v):MS P m h w o ρ v h:=by
  unfold chkUx at hc;simp only at hc;split at hc
  ·rename_i tp a b ty hy;split at hc
   ·rename_i te hu;obtain⟨j,hj⟩:=Option.isSome_iff_exists.1 hc;obtain⟨x',y',e',rx,ry⟩:=two_of hv;rw[hy]at e';change[ρ a,ρ b]=[x',y']at e';simp only[List.cons.injEq,and_true]at e';unfold ape at hs;split at hs
    ·rename_i b1 o1 b2 o2;cases hb:(Nat.beq b1 b2&&Nat.beq o1 o2)
     ·rw[hb]at hs;cases hs
     ·rw[hb]at hs;cases hs;simp only[Bool.and_eq_true]at hb;have:=Nat.eq_of_beq_eq_true hb.1;subst this;have:=Nat.eq_of_beq_eq_true hb.2;subst this;obtain⟨loc,hm,rfl⟩:=rx;obtain⟨loc',hm',rfl⟩:=ry;rw[hm]at hm';cases hm';refine⟨.bool false,w,m,.inl ?_,rfl,H,Ext.refl _ _ _⟩;have hr:=Lib.run_neq_ptr_same (P:=P) w ⟨loc.block,loc.base+o1,none⟩ hu hj;simp only[execOp,hy,e'.1,e'.2,Sem.run_bind,Sem.run_pure,Result.andThen_ok,hr];simp[eqGuard,hr]
    ·cases hs
   ·cases hc
  ·cases hc
theorem as2b_sound(H:HRel m h w){o:Oper}{ρ:Operand→Value}{x v:V}{h':Heap}(hc:chkUx P o.op .s2b=true)(hv:VsRel m [x] (OV ρ o.op))(hs:as2b h x=some (v,h')):MS P m h w o ρ v h':=by
  unfold chkUx at hc;simp only at hc;split at hc
  ·rename_i src dst a hy;split at hc
   ·rename_i e h1 h2;split at hc
    ·rename_i he;obtain⟨x',e',rx⟩:=one_of hv;rw[hy]at e';change[ρ a]=[x']at e';simp only[List.cons.injEq,and_true]at e';unfold as2b at hs;split at hs
     ·rename_i s;cases hs;simp only[VRel]at rx;subst rx;have hrun:=Lib.run_convert_string_bytes (P:=P) w src dst e ⟨s.toArray⟩ h1 h2 he;have hcap:=grownCap_ge w (ByteArray.size ⟨s.toArray⟩) 0 e;have hXs:(Lib.bytesCells w e ⟨s.toArray⟩).size=grownCap w (ByteArray.size ⟨s.toArray⟩) 0 e:=by
        have:(⟨s.toArray⟩:ByteArray).size=s.length:=by simp[ByteArray.size]
        rw[this]at hcap⊢;simp[Lib.bytesCells,ByteArray.size];omega
      have hsz:(⟨s.toArray⟩:ByteArray).size=s.length:=by simp[ByteArray.size]
      have hb:=bytes_rel m s;obtain⟨H1,E1⟩:=H.drew.alloc (s.map fun b=>V.int .u8 (Int.ofNat b.toNat)) (Lib.bytesCells w e ⟨s.toArray⟩) e (by rw[hXs];simp;omega) (fun i v hi=>by
        obtain⟨q,hq,rq⟩:=hb.get i v hi;refine⟨q,?_,rq⟩;have hil:i<s.length:=by
          have:=(List.getElem?_eq_some_iff.1 hq).1;simpa using this
        unfold Lib.bytesCells;rw[Array.getElem?_append_left (by simpa using hil)];simpa using hq)
      have hnew:=heap_alloc_new w.drew (.cells (Lib.bytesCells w e ⟨s.toArray⟩) e);have hnew2:=Lib.bytesWorld_at_new w e ⟨s.toArray⟩;have hoth:∀i,i≠w.heap.size→(Lib.bytesWorld w e ⟨s.toArray⟩).heap[i]? =(w.drew.alloc (.cells (Lib.bytesCells w e ⟨s.toArray⟩) e)).heap[i]? :=by
        intro i hi;simp[Lib.bytesWorld,World.freeze,Array.getElem?_modify,Ne.symm hi]
      have hsize:(Lib.bytesWorld w e ⟨s.toArray⟩).heap.size=(w.drew.alloc (.cells (Lib.bytesCells w e ⟨s.toArray⟩) e)).heap.size:=by
        simp[Lib.bytesWorld,World.freeze]
      refine⟨.slice (some ⟨w.heap.size,0,none⟩) (ByteArray.size ⟨s.toArray⟩) (grownCap w (ByteArray.size ⟨s.toArray⟩) 0 e),Lib.bytesWorld w e ⟨s.toArray⟩,_,.inl ?_,⟨_,mset_self _ _ _,?_,?_⟩,H1.refz hnew hnew2 hoth hsize ?_,((Ext.drew m h w).trans E1).newer (g:=w.heap.size) (Nat.le_refl _) hoth hsize (by simp[Lib.bytesWorld,World.freeze]) (by simp[Lib.bytesWorld,World.freeze]) (by simp[Lib.bytesWorld,World.freeze])⟩
      ·simp only[execOp,hy,e',Sem.run_bind,hrun,Sem.run_pure,Result.andThen_ok]
      ·simp only[hXs,Nat.sub_zero,Nat.div_one];omega
      ·simp only[hXs,Nat.sub_zero,Nat.div_one,Nat.add_zero,hsz];rfl
      ·intro p l c f k hp hpb _ _ i hi;by_cases q:p=h.next
       ·subst q;rw[mset_self]at hp;cases hp;simp only[]at hi⊢;omega
       ·rw[mset_ne _ _ q]at hp;have z:=H.inb p l hp;have hpb:l.block=w.heap.size:=hpb;omega
     ·cases hs
    ·cases hc
   ·cases hc
  ·cases hc
theorem aapt_sound(H:HRel m h w){o:Oper}{ρ:Operand→Value}{ty esz bytes:Nat}{s x v:V}{h':Heap}(hc:chkUx P o.op (.apt ty esz bytes)=true)(hv:VsRel m [s,x] (OV ρ o.op))
    (hs:aapt h ty esz bytes s x=some (v,h')):MS P m h w o ρ v h':=by
  unfold chkUx at hc;simp only[Bool.and_eq_true]at hc;obtain⟨hc1,hc2⟩:=hc;unfold aapt at hs;split at hs
  ·rename_i b k n e h1 ha;obtain⟨elem,hel,x',w',m',hg,rx,H',E',hnr⟩:=aapp_sound2 H hc1 hv ha;have helm:elem=ty:=by
     obtain⟨args,ts,t,q1,q2,q3⟩:=hel;rw[q1]at hc2;simp only[q2,q3]at hc2;exact Nat.eq_of_beq_eq_true hc2
   subst helm;cases hb:Nat.beq b h.next
   ·rw[hb]at hs;cases hs;exact⟨x',w',m',hg,rx,H',E'⟩
   ·rw[hb]at hs;simp only[cond_true]at hs;have hb:=Nat.eq_of_beq_eq_true hb;subst hb;obtain⟨lx,hlx⟩:∃l,m' h.next=some l:=let⟨l,q,_⟩:=rx;⟨l,q⟩;rcases hnr with hnr|⟨loc,C,fz,t,g1,g2,g3⟩
    ·have:=H'.lt hlx;omega
    have done:loc.base=0∧t=elem→MS P m h w o ρ (.sliceU h.next k n e) (htag h1 h.next elem 0):=by
      rintro⟨q1,rfl⟩;exact⟨x',w',m',hg,rx,H'.tag g1 q1 g2 (.inl rfl),E'.trans (Ext.tag _ _ _ _ _ _)⟩
    split at hs
    ·cases hs;rcases g3 with g3|⟨b0,k0,n0,e0,lb,D,fz',q,_⟩
     ·exact done g3
     ·cases q
    ·rename_i b0 n0 e0;split at hs
     ·rename_i t0 n1 htg;cases ht:Nat.beq t0 elem
      ·rw[ht]at hs;cases hs
      ·rw[ht]at hs;cases hs;have ht:=Nat.eq_of_beq_eq_true ht;subst ht;rcases g3 with g3|⟨b1,k1,n2,e1,lb,D,fz',q,q1,q2,q3⟩
       ·exact done g3
       ·cases q;obtain⟨l0,C0,f0,z1,z2,z3,_⟩:=H.tg b0 t0 n1 htg;rw[q1]at z1;cases z1;rw[q3]at z3;cases z3;exact done ⟨by rw[q2,z2],rfl⟩
     ·cases hs
    ·cases hs
  ·exact aapp_sound H hc1 hv hs
theorem aux_sound(H:HRel m h w){o:Oper}{ρ:Operand→Value}(hρ:∀f,ρ (.func f)=.func (.func f) #[] #[]){k:UK}{vs:List V}{v:V}{h':Heap}(hc:chkUx P o.op k=true)
    (hv:VsRel m vs ((uxArgs o.op k).map ρ)) (hs:aux h k vs=some (v,h')):MS P m h w o ρ v h':=by
  unfold aux at hs;split at hs
  ·cases hs;exact aalt_sound H hc
  ·split at hs
   ·rename_i u hu;cases hs;exact atou_sound H hc hv hu
   ·cases hs
  ·split at hs
   ·rename_i u hu;cases hs;exact afru_sound H hc hv hu
   ·cases hs
  ·split at hs
   ·rename_i u hu;cases hs;exact asd_sound H hc hv hu
   ·cases hs
  ·exact aus_sound H hc hv hs
  ·exact aapt_sound H hc hv hs
  ·exact as2b_sound H hc hv hs
  ·split at hs
   ·rename_i u hu;cases hs;exact ape_sound H hc hv hu
   ·cases hs
  ·exact aext_sound H hρ hc hv hs
  ·cases hs
end
noncomputable def hnew(h:Heap)(k:Blk):Heap:=⟨h.bl.set h.next k,h.next+1,h.fams,h.tys⟩
noncomputable def hset(h:Heap)(b:Nat)(k:Blk):Heap:=⟨h.bl.set b k,h.next,h.fams,h.tys⟩
section
variable {P : Program} {m : M} {h : Heap} {w : World}
/-- the loop is laid: its record lies somewhere behind what was there -/
theorem HRel.allocL(H:HRel m h w){w1:World}{L:Nat}{g:LG}{env:T V}(hk:∀i,i<w.heap.size→w1.heap[i]? =w.heap[i]?)(hge:w.heap.size≤L)
    (hL:w1.heap[L]? =some (.loop {g.r with state:=.ready,pending:=none})) (henv:∀s v,env.get s=some v→s=DSL∨(g.vars.contains s=true∧VRel m v (g.r.tmps.getD s undef))):
    HRel (mset m h.next ⟨L,0,0,some g⟩) (hnew h (.lp g.ps g.as g.bd env 0 none)) w1:=by
  have hle:=H.le_mset ⟨L,0,0,some g⟩;have hLlt:L<w1.heap.size:=(Array.getElem?_eq_some_iff.1 hL).1;refine⟨⟨⟨?_,?_⟩,?_,?_,?_⟩,fun p ty n hp=>let⟨loc,C,fz,a,b,c,d⟩:=H.tg p ty n hp;⟨loc,C,fz,hle _ _ a,b,(hk _ (H.inb p loc a)).trans c,d⟩⟩
  ·intro p cp f k hp;show match h.fams.get f with|none=>f=p|some (_,e)=>k≤e
   rw[hnew,T.get_set]at hp;by_cases e:p=h.next
   ·rw[if_pos e]at hp;cases hp
   ·rw[if_neg e]at hp;exact H.wf.fam _ _ _ _ hp
  ·intro p hp;have hp':h.next+1≤p:=hp;refine⟨?_,(H.wf.fresh p (by omega)).2⟩;rw[hnew,T.get_set_ne _ _ (by omega)];exact(H.wf.fresh p (by omega)).1
  ·intro p loc hp;by_cases e:p=h.next
   ·subst e;rw[mset_self]at hp;cases hp;exact⟨.lp g.ps g.as g.bd env 0 none,by rw[hnew,T.get_set_self],g,rfl,rfl,rfl,rfl,hL,fun s v hs=>(henv s v hs).imp id fun q=>⟨q.1,VRel.mono hle _ _ q.2⟩⟩
   ·rw[mset_ne _ _ e]at hp;obtain⟨b,hb,r⟩:=H.blk p loc hp;exact⟨b,by rw[hnew,T.get_set_ne _ _ e];exact hb,r.mono hle (fun _ _ _ _ x=>x) (hk _ (H.inb p loc hp))⟩
  ·intro p loc hp;by_cases e:p=h.next
   ·subst e;rw[mset_self]at hp;cases hp;exact hLlt
   ·rw[mset_ne _ _ e]at hp;have:=H.inb p loc hp;omega
  ·intro p q lp lq hp hq he hne;by_cases e:p=h.next
   ·subst e;rw[mset_self]at hp;cases hp;rw[mset_ne _ _ (Ne.symm hne)]at hq;have:=H.inb q lq hq;simp only[]at he;omega
   ·rw[mset_ne _ _ e]at hp;by_cases e2:q=h.next
    ·subst e2;rw[mset_self]at hq;cases hq;have:=H.inb p lp hp;simp only[]at he;omega
    ·rw[mset_ne _ _ e2]at hq;obtain⟨cp,cq,f,kp,kq,a,b,d⟩:=H.sep p q lp lq hp hq he hne;exact⟨cp,cq,f,kp,kq,by rw[hnew,T.get_set_ne _ _ e];exact a,by rw[hnew,T.get_set_ne _ _ e2];exact b,d⟩
/-- the loop's record -/
theorem HRel.loop(H:HRel m h w){b:Nat}{loc:Loc}(hm:m b=some loc){ps:List Nat}{as bd:IC}{env:T V}{st:Nat}{pend:Option Ex}(hb:h.bl.get b=some (.lp ps as bd env st pend)):
    ∃g,loc.lp=some g∧g.ps=ps∧g.as=as∧g.bd=bd∧w.heap[loc.block]? =some (.loop {g.r with state:=lst st,pending:=pend.map jumpOf})∧
      ∀s v,env.get s=some v→s=DSL∨(g.vars.contains s=true∧VRel m v (g.r.tmps.getD s undef)):=by
  obtain⟨bk,hbk,rel⟩:=H.blk b loc hm;rw[hb]at hbk;cases hbk;exact rel
theorem HRel.setL(H:HRel m h w){b:Nat}{loc:Loc}(hm:m b=some loc){ps:List Nat}{as bd:IC}{env:T V}{st:Nat}{pend:Option Ex}(hb:h.bl.get b=some (.lp ps as bd env st pend))
    {g:LG} (hg:loc.lp=some g) (st':Nat) (pend':Option Ex):
    HRel m (hset h b (.lp ps as bd env st' pend')) (w.putObj loc.block (.loop {g.r with state:=lst st',pending:=pend'.map jumpOf}))∧
    Ext m h w m (hset h b (.lp ps as bd env st' pend')) (w.putObj loc.block (.loop {g.r with state:=lst st',pending:=pend'.map jumpOf})):=by
  have hin:=H.inb b loc hm;obtain⟨g',hg',e1,e2,e3,e4,e5⟩:=H.loop hm hb;rw[hg]at hg';cases hg';have hother:∀p lp,m p=some lp→p≠b→lp.block≠loc.block:=by
    intro p lp hp hne hbl;obtain⟨cp,cq,f,kp,kq,a1,a2,_⟩:=H.sep p b lp loc hp hm hbl hne;rw[hb]at a2;cases a2
  refine H.up rfl ⟨⟨⟨?_,?_⟩,?_,?_,?_⟩,⟨fun _ _ x=>x,fun p l a c=>(by rw[a]at c;cases c),Nat.le_refl _,?_,by simp,?_,rfl,rfl,rfl,fun _ _ _ x=>x,?_,fun _ _ a b=>by simp[a]at b⟩⟩
  ·intro p cp f k hp;show match h.fams.get f with|none=>f=p|some (_,e)=>k≤e
   rw[hset,T.get_set]at hp;by_cases e:p=b
   ·rw[if_pos e]at hp;cases hp
   ·rw[if_neg e]at hp;exact H.wf.fam _ _ _ _ hp
  ·intro p hp;have hfr:=H.wf.fresh p hp;have hpb:p≠b:=by intro e;subst e;rw[hb]at hfr;simp at hfr
   exact⟨by rw[hset,T.get_set_ne _ _ hpb];exact hfr.1,hfr.2⟩
  ·intro p lp hp;by_cases e:p=b
   ·subst e;rw[hm]at hp;cases hp;exact⟨.lp ps as bd env st' pend',by rw[hset,T.get_set_self],g,hg,e1,e2,e3,World.putObj_heap_same hin,e5⟩
   ·obtain⟨bk,hbk,r⟩:=H.blk p lp hp;exact⟨bk,by rw[hset,T.get_set_ne _ _ e];exact hbk,r.mono (fun _ _ x=>x) (fun _ _ _ _ x=>x) (World.putObj_heap_other (hother p lp hp e))⟩
  ·intro p lp hp;have:=H.inb p lp hp;simpa using this
  ·intro p q lp lq hp hq hbl hne;obtain⟨cp,cq,f,kp,kq,a1,a2,a3⟩:=H.sep p q lp lq hp hq hbl hne;have h1:p≠b:=by intro e;subst e;rw[hb]at a1;cases a1
   have h2:q≠b:=by intro e;subst e;rw[hb]at a2;cases a2
   exact⟨cp,cq,f,kp,kq,by rw[hset,T.get_set_ne _ _ h1];exact a1,by rw[hset,T.get_set_ne _ _ h2];exact a2,a3⟩
  ·intro p hn hp;have h1:p≠b:=by intro e;subst e;rw[hm]at hn;cases hn
   rw[hset,T.get_set_ne _ _ h1]
  ·intro k hk hlt;exact World.putObj_heap_other (fun e=>hk b loc hm e.symm)
  ·intro q hgl;by_cases h4:q=loc.block
   ·subst h4;intro x hx;rw[e4]at hx;cases hx;exact⟨_,World.putObj_heap_same hin,trivial⟩
   ·exact Kept.of_eq (World.putObj_heap_other h4)
/-- the loop is over: what is known of it is forgotten -/
theorem HRel.endL(H:HRel m h w){b:Nat}{loc:Loc}(hm:m b=some loc){ps:List Nat}{as bd:IC}{env:T V}{st:Nat}{pend:Option Ex}(hb:h.bl.get b=some (.lp ps as bd env st pend))(o:Obj):
    HRel (mset m b {loc with lp:=none}) (hset h b .dead) (w.putObj loc.block o):=by
  have hgeo:Geo m (mset m b {loc with lp:=none}):=by
    intro q l hq;by_cases e:q=b
    ·subst e;rw[hm]at hq;cases hq;exact⟨_,mset_self _ _ _,rfl,rfl,rfl⟩
    ·exact⟨l,by rw[mset_ne _ _ e];exact hq,rfl,rfl,rfl⟩
  have hother:∀p lp,m p=some lp→p≠b→lp.block≠loc.block:=by
    intro p lp hp hne hbl;obtain⟨cp,cq,f,kp,kq,a1,a2,_⟩:=H.sep p b lp loc hp hm hbl hne;rw[hb]at a2;cases a2
  refine⟨⟨⟨?_,?_⟩,?_,?_,?_⟩,?_⟩
  ·intro p cp f k hp;show match h.fams.get f with|none=>f=p|some (_,e)=>k≤e
   rw[hset,T.get_set]at hp;by_cases e:p=b
   ·rw[if_pos e]at hp;cases hp
   ·rw[if_neg e]at hp;exact H.wf.fam _ _ _ _ hp
  ·intro p hp;have hfr:=H.wf.fresh p hp;have hpb:p≠b:=by intro e;subst e;rw[hb]at hfr;simp at hfr
   exact⟨by rw[hset,T.get_set_ne _ _ hpb];exact hfr.1,hfr.2⟩
  ·intro p lp hp;by_cases e:p=b
   ·subst e;exact⟨.dead,by rw[hset,T.get_set_self],trivial⟩
   ·rw[mset_ne _ _ e]at hp;obtain⟨bk,hbk,r⟩:=H.blk p lp hp;refine⟨bk,by rw[hset,T.get_set_ne _ _ e];exact hbk,?_⟩;have hw:(w.putObj loc.block o).heap[lp.block]? =w.heap[lp.block]? :=World.putObj_heap_other (hother p lp hp e);cases bk with
    |row c f k=>
      intro hrd;obtain⟨C,el,fz,a,b',c',d,e'⟩:=r hrd;exact⟨C,el,fz,hw.trans a,b',c',fun i v hi=>let⟨x,hx,rx⟩:=d i v hi;⟨x,hx,VRel.geo hgeo _ _ rx⟩,e'⟩
    |mp es clock=>
      obtain⟨es',a,b',c⟩:=r;refine⟨es',hw.trans a,b',fun i k v n hi=>?_⟩;obtain⟨e',he,r1,r2,r3⟩:=c i k v n hi;exact⟨e',he,VRel.geo hgeo _ _ r1,VRel.geo hgeo _ _ r2,r3⟩
    |lp ps as bd en st pend=>
      obtain⟨g,q1,q2,q3,q4,q5,q6⟩:=r;exact⟨g,q1,q2,q3,q4,hw.trans q5,fun s v hs=>(q6 s v hs).imp id fun q=>⟨q.1,VRel.geo hgeo _ _ q.2⟩⟩
    |si s pos=>exact⟨r.1,hw.trans r.2⟩
    |dead=>trivial
  ·intro p lp hp;by_cases e:p=b
   ·subst e;rw[mset_self]at hp;cases hp;simpa using H.inb p loc hm
   ·rw[mset_ne _ _ e]at hp;simpa using H.inb p lp hp
  ·intro p q lp lq hp hq hbl hne;by_cases e:p=b
   ·subst e;rw[mset_self]at hp;cases hp;rw[mset_ne _ _ (Ne.symm hne)]at hq;exact absurd hbl.symm (hother q lq hq (Ne.symm hne))
   ·rw[mset_ne _ _ e]at hp;by_cases e2:q=b
    ·subst e2;rw[mset_self]at hq;cases hq;exact absurd hbl (hother p lp hp hne)
    ·rw[mset_ne _ _ e2]at hq;obtain⟨cp,cq,f,kp,kq,a,b',d⟩:=H.sep p q lp lq hp hq hbl hne;exact⟨cp,cq,f,kp,kq,by rw[hset,T.get_set_ne _ _ e];exact a,by rw[hset,T.get_set_ne _ _ e2];exact b',d⟩
  ·intro p ty n hp;obtain⟨lp,C,fz,a1,a2,a3,a4⟩:=H.tg p ty n hp;have e:p≠b:=by
     intro e;subst e;rw[hm]at a1;cases a1;obtain⟨g,_,_,_,_,q,_⟩:=H.loop hm hb;rw[q]at a3;cases a3
   exact⟨lp,C,fz,by rw[mset_ne _ _ e];exact a1,a2,(World.putObj_heap_other (hother p lp a1 e)).trans a3,a4⟩
/-- a range over a function, from its entry to its end -/
theorem Ext.loop(H:HRel m h w){w1 w2:World}{L:Nat}{g:LG}{k:Blk}{m2:M}{h2:Heap}{o:Obj}(hk:∀i,i<w.heap.size→w1.heap[i]? =w.heap[i]?)(hge:w.heap.size≤L)(hsz:w.heap.size≤w1.heap.size)
    (hos:w1.os=w.os) (htp:w1.tape=w.tape) (hout:w1.output=w.output) (E:Ext (mset m h.next ⟨L,0,0,some g⟩) (hnew h k) w1 m2 h2 w2):
    Ext m h w (mset m2 h.next ⟨L,0,0,none⟩) (hset h2 h.next .dead) (w2.putObj L o):=by
  have hold:∀p l,m p=some l→p≠h.next:=fun p l hp x=>by subst x;rw[H.unmapped (Nat.le_refl _)]at hp;cases hp
  have hcov1:∀b i,b<w.heap.size→Cov (mset m h.next ⟨L,0,0,some g⟩) b i→Cov m b i:=by
    rintro b i hb ⟨q,l,hq,h1,h2,h3⟩;by_cases e:q=h.next
    ·subst e;rw[mset_self]at hq;cases hq;simp only[]at h1;omega
    ·rw[mset_ne _ _ e]at hq;exact⟨q,l,hq,h1,h2,h3⟩
  have hnx:(hnew h k).next=h.next+1:=rfl;refine⟨?_,?_,?_,?_,?_,?_,E.os.trans hos,E.tape.trans htp,E.output.trans hout,?_,?_,?_⟩
  ·intro p l hp;rw[mset_ne _ _ (hold p l hp)];exact E.le p l (by rw[mset_ne _ _ (hold p l hp)];exact hp)
  ·intro p l hp hn;by_cases e:p=h.next
   ·subst e;rw[mset_self]at hp;cases hp;exact⟨Nat.le_refl _,.inl hge⟩
   ·rw[mset_ne _ _ e]at hp;obtain⟨n1,n2⟩:=E.new p l hp (by rw[mset_ne _ _ e];exact hn);rw[hnx]at n1;refine⟨by omega,?_⟩;rcases n2 with n2|⟨q,lq,hq,e2⟩
    ·exact .inl (by omega)
    ·by_cases e3:q=h.next
     ·subst e3;rw[mset_self]at hq;cases hq;exact .inl (by simp only[]at e2;omega)
     ·rw[mset_ne _ _ e3]at hq;exact .inr ⟨q,lq,hq,e2⟩
  ·have:=E.next;rw[hnx]at this;show h.next≤h2.next;omega
  ·intro p hn hp;have hpb:p≠h.next:=by omega
   show(h2.bl.set h.next .dead).get p=_;rw[T.get_set_ne _ _ hpb,E.phan p (by rw[mset_ne _ _ hpb];exact hn) (by omega)];show(h.bl.set h.next k).get p=_;rw[T.get_set_ne _ _ hpb]
  ·have:=E.size;simp;omega
  ·intro b hb hlt;rw[World.putObj_heap_other (by omega),E.keep b (fun p l hp e=>?_) (by omega),hk b hlt];by_cases e2:p=h.next
   ·subst e2;rw[mset_self]at hp;cases hp;simp only[]at e;omega
   ·rw[mset_ne _ _ e2]at hp;exact hb p l hp e
  ·rintro b i hb ⟨q,l,hq,h1,h2',h3⟩;by_cases e:q=h.next
   ·subst e;rw[mset_self]at hq;cases hq;simp only[]at h1;omega
   ·rw[mset_ne _ _ e]at hq;exact hcov1 b i hb (E.cov b i (by omega) ⟨q,l,hq,h1,h2',h3⟩)
  ·intro b hb;rw[World.putObj_heap_other (by omega),←hk b hb];exact(Kept.refl m b _).trans (fun j x=>hcov1 b j hb x) (E.out b (by omega))
  ·intro p l hp hn;by_cases e:p=h.next
   ·subst e;rw[mset_self]at hp;cases hp;rfl
   ·rw[mset_ne _ _ e]at hp;exact E.lps p l hp (by rw[mset_ne _ _ e];exact hn)
end
/-- no block stands there -/
def Off(m:M)(r:Nat):Prop:=∀p loc,m p=some loc→loc.block≠r
theorem Off.ext{m m':M}{h h':Heap}{w w':World}{r:Nat}(o:Off m r)(E:Ext m h w m' h' w')(hr:r<w.heap.size):Off m' r:=by
  intro p loc hp e;cases h0:m p with
  |some l0=>
    have:=E.le _ _ h0;rw[hp]at this;cases this;exact o p loc h0 e
  |none=>
    rcases(E.new p loc hp h0).2 with q|⟨q,lq,hq,e2⟩
    ·omega
    ·exact o q lq hq (e2.trans e)
theorem HRel.putOff{m:M}{h:Heap}{w:World}(H:HRel m h w){r:Nat}(o:Off m r)(x:Obj):HRel m h (w.putObj r x):=by
  refine⟨⟨H.wf,fun p loc hp=>?_,fun p loc hp=>by simpa using H.inb p loc hp,H.sep⟩,fun p ty n hp=>let⟨loc,C,fz,a,b,c,d⟩:=H.tg p ty n hp;⟨loc,C,fz,a,b,(World.putObj_heap_other (o p loc a)).trans c,d⟩⟩;obtain⟨b,hb,rb⟩:=H.blk p loc hp;exact⟨b,hb,rb.mono (fun _ _ x=>x) (fun _ _ _ _ x=>x) (World.putObj_heap_other (o p loc hp))⟩
theorem Ext.putOff{m m':M}{h h':Heap}{w w':World}(E:Ext m h w m' h' w'){r:Nat}(hr:w.heap.size≤r)(x:Obj):Ext m h w m' h' (w'.putObj r x):=
  ⟨E.le,E.new,E.next,E.phan,by simpa using E.size,fun b hb hl=>(World.putObj_heap_other (by omega)).trans (E.keep b hb hl),E.os,E.tape,E.output,E.cov,
    fun b hb=>by rw[World.putObj_heap_other (by omega)];exact E.out b hb,E.lps⟩
/-- marks: each has its block, with no call in it -/
def Marks(B:Nat)(m:M)(w:World):List Deferred→Prop
  |[]=>True
  |d::ds=>(∃r,d={target:=.collected r,args:= #[]}∧B≤r∧w.heap[r]? =some (.deferred (some []))∧Off m r∧∀d'∈ds,d'.target≠.collected r)∧Marks B m w ds
theorem Marks.ext{B:Nat}{m m':M}{h h':Heap}{w w':World}(E:Ext m h w m' h' w'):∀{ds:List Deferred},Marks B m w ds→Marks B m' w' ds
  |[],_=>trivial
  |_::_,⟨⟨r,h1,h2,h3,h4,h5⟩,t⟩=>
    have hlt:=(Array.getElem?_eq_some_iff.1 h3).1
    ⟨⟨r,h1,h2,(E.keep r h4 hlt).trans h3,h4.ext E hlt,h5⟩,Marks.ext E t⟩
theorem Marks.put{B:Nat}{m:M}{w:World}{r:Nat}{x:Obj}:∀{ds:List Deferred},(∀d∈ds,d.target≠.collected r)→Marks B m w ds→Marks B m (w.putObj r x) ds
  |[],_,_=>trivial
  |d::ds,hn,⟨⟨r',h1,h2,h3,h4,h5⟩,t⟩=>
    ⟨⟨r',h1,h2,(World.putObj_heap_other (fun e=>hn d (by simp) (by rw[h1,e]))).trans h3,h4,h5⟩,Marks.put (fun d' hd=>hn d' (by simp[hd])) t⟩
end Go.Ev
