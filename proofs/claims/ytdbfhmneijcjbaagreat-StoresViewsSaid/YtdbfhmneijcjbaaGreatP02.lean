/- An evaluator of the program, and contracts over it: EvLp to EvZ. -/
import Derived.RangeFuncRecord
import Derived.OrdersIn
import Derived.Test.YtdbfhmneijcjbaaGreatP01
set_option linter.unusedSimpArgs false
set_option linter.unusedVariables false
set_option linter.constructorNameAsVariable false
set_option linter.unnecessarySimpa false
namespace Go.Ev
noncomputable def hnew(h:Heap)(k:Blk):Heap:=⟨h.bl.set h.next k,h.next+1,h.fams⟩
noncomputable def hset(h:Heap)(b:Nat)(k:Blk):Heap:=⟨h.bl.set b k,h.next,h.fams⟩
section
variable {P : Program} {m : M} {h : Heap} {w : World}
theorem HRel.allocL(H:HRel m h w){w1:World}{L:Nat}{g:LG}{env:T V}(hk:∀i,i<w.heap.size→w1.heap[i]? =w.heap[i]?)(hge:w.heap.size≤L)
 (hL:w1.heap[L]? =some (.loop {g.r with state:=.ready,pending:=none})) (henv:∀s v,env.get s=some v→s=DSL∨(g.vars.contains s=true∧VRel m v (g.r.tmps.getD s undef))):
 HRel (dq m h.next ⟨L,0,0,some g⟩) (hnew h (.lp g.ps g.as g.bd env 0 none)) w1:=by
 have hle:=H.le_mset ⟨L,0,0,some g⟩;have hLlt:L<w1.heap.size:=(Array.getElem?_eq_some_iff.1 hL).1;refine⟨⟨?_,?_⟩,?_,?_,?_⟩
 ·intro p cp f k hp;show match h.fams.get f with|none=>f=p|some (_,e)=>k≤e
  rw[hnew,T.get_set]at hp;by_cases e:p=h.next
  ·rw[if_pos e]at hp;cases hp
  ·rw[if_neg e]at hp;exact H.wf.fam _ _ _ _ hp
 ·intro p hp;have hp':h.next+1≤p:=hp;refine⟨?_,(H.wf.fresh p (by omega)).2⟩;rw[hnew,T.get_set_ne _ _ (by omega)];exact(H.wf.fresh p (by omega)).1
 ·intro p loc hp;by_cases e:p=h.next
  ·subst e;rw[au]at hp;cases hp;exact⟨.lp g.ps g.as g.bd env 0 none,by rw[hnew,T.get_set_self],g,rfl,rfl,rfl,rfl,hL,fun s v hs=>(henv s v hs).imp id fun q=>⟨q.1,VRel.mono hle _ _ q.2⟩⟩
  ·rw[aw _ _ e]at hp;obtain⟨b,hb,r⟩:=H.blk p loc hp;exact⟨b,by rw[hnew,T.get_set_ne _ _ e];exact hb,r.mono hle (fun _ _ _ _ x=>x) (hk _ (H.inb p loc hp))⟩
 ·intro p loc hp;by_cases e:p=h.next
  ·subst e;rw[au]at hp;cases hp;exact hLlt
  ·rw[aw _ _ e]at hp;have:=H.inb p loc hp;omega
 ·intro p q lp lq hp hq he hne;by_cases e:p=h.next
  ·subst e;rw[au]at hp;cases hp;rw[aw _ _ (Ne.symm hne)]at hq;have:=H.inb q lq hq;simp only[]at he;omega
  ·rw[aw _ _ e]at hp;by_cases e2:q=h.next
   ·subst e2;rw[au]at hq;cases hq;have:=H.inb p lp hp;simp only[]at he;omega
   ·rw[aw _ _ e2]at hq;obtain⟨cp,cq,f,kp,kq,a,b,d⟩:=H.sep p q lp lq hp hq he hne;exact⟨cp,cq,f,kp,kq,by rw[hnew,T.get_set_ne _ _ e];exact a,by rw[hnew,T.get_set_ne _ _ e2];exact b,d⟩
theorem HRel.loop(H:HRel m h w){b:Nat}{loc:Loc}(hm:m b=some loc){ps:List Nat}{as bd:IC}{env:T V}{st:Nat}{pend:Option Ex}(hb:h.bl.get b=some (.lp ps as bd env st pend)):
 ∃g,loc.lp=some g∧g.ps=ps∧g.as=as∧g.bd=bd∧w.heap[loc.block]? =some (.loop {g.r with state:=lst st,pending:=pend.map fO})∧
  ∀s v,env.get s=some v→s=DSL∨(g.vars.contains s=true∧VRel m v (g.r.tmps.getD s undef)):=by
 obtain⟨bk,hbk,rel⟩:=H.blk b loc hm;rw[hb]at hbk;cases hbk;exact rel
theorem HRel.setL(H:HRel m h w){b:Nat}{loc:Loc}(hm:m b=some loc){ps:List Nat}{as bd:IC}{env:T V}{st:Nat}{pend:Option Ex}(hb:h.bl.get b=some (.lp ps as bd env st pend))
 {g:LG} (hg:loc.lp=some g) (st':Nat) (pend':Option Ex):
 HRel m (hset h b (.lp ps as bd env st' pend')) (w.putObj loc.block (.loop {g.r with state:=lst st',pending:=pend'.map fO}))∧
 Ext m h w m (hset h b (.lp ps as bd env st' pend')) (w.putObj loc.block (.loop {g.r with state:=lst st',pending:=pend'.map fO})):=by
 have hin:=H.inb b loc hm;obtain⟨g',hg',e1,e2,e3,e4,e5⟩:=H.loop hm hb;rw[hg]at hg';cases hg';have hother:∀p lp,m p=some lp→p≠b→lp.block≠loc.block:=by
  intro p lp hp hne hbl;obtain⟨cp,cq,f,kp,kq,a1,a2,_⟩:=H.sep p b lp loc hp hm hbl hne;rw[hb]at a2;cases a2
 refine⟨⟨⟨?_,?_⟩,?_,?_,?_⟩,⟨fun _ _ x=>x,fun p l a c=>(by rw[a]at c;cases c),Nat.le_refl _,?_,by simp,?_,rfl,rfl,rfl,fun _ _ _ x=>x,?_,fun _ _ a b=>by simp[a]at b⟩⟩
 ·intro p cp f k hp;show match h.fams.get f with|none=>f=p|some (_,e)=>k≤e
  rw[hset,T.get_set]at hp;by_cases e:p=b
  ·rw[if_pos e]at hp;cases hp
  ·rw[if_neg e]at hp;exact H.wf.fam _ _ _ _ hp
 ·intro p hp;have hfr:=H.wf.fresh p hp;have hpb:p≠b:=by intro e;subst e;rw[hb]at hfr;simp at hfr
  exact⟨by rw[hset,T.get_set_ne _ _ hpb];exact hfr.1,hfr.2⟩
 ·intro p lp hp;by_cases e:p=b
  ·subst e;rw[hm]at hp;cases hp;exact⟨.lp ps as bd env st' pend',by rw[hset,T.get_set_self],g,hg,e1,e2,e3,World.putObj_heap_same hin,e5⟩
  ·obtain⟨bk,hbk,r⟩:=H.blk p lp hp;exact⟨bk,by rw[hset,T.get_set_ne _ _ e];exact hbk,r.mono (fun _ _ x=>x) (fun _ _ _ _ x=>x) (World.putObj_heap_other (hother p lp hp e))⟩
 ·intro p lp hp;have:=H.inb p lp hp;simpa using this
 ·intro p q lp lq hp hq hbl hne;obtain⟨cp,cq,f,kp,kq,a1,a2,a3⟩:=H.sep p q lp lq hp hq hbl hne;have h1:p≠b:=by intro e;subst e;rw[hb]at a1;cases a1
  have h2:q≠b:=by intro e;subst e;rw[hb]at a2;cases a2
  exact⟨cp,cq,f,kp,kq,by rw[hset,T.get_set_ne _ _ h1];exact a1,by rw[hset,T.get_set_ne _ _ h2];exact a2,a3⟩
 ·intro p hn hp;have h1:p≠b:=by intro e;subst e;rw[hm]at hn;cases hn
  rw[hset,T.get_set_ne _ _ h1]
 ·intro k hk hlt;exact World.putObj_heap_other (fun e=>hk b loc hm e.symm)
 ·intro q hgl;by_cases h4:q=loc.block
  ·subst h4;intro x hx;rw[e4]at hx;cases hx;exact⟨_,World.putObj_heap_same hin,trivial⟩
  ·exact Kept.of_eq (World.putObj_heap_other h4)
theorem HRel.endL(H:HRel m h w){b:Nat}{loc:Loc}(hm:m b=some loc){ps:List Nat}{as bd:IC}{env:T V}{st:Nat}{pend:Option Ex}(hb:h.bl.get b=some (.lp ps as bd env st pend))(o:Obj):
 HRel (dq m b {loc with lp:=none}) (hset h b .dead) (w.putObj loc.block o):=by
 have hgeo:Geo m (dq m b {loc with lp:=none}):=by
  intro q l hq;by_cases e:q=b
  ·subst e;rw[hm]at hq;cases hq;exact⟨_,au _ _ _,rfl,rfl,rfl⟩
  ·exact⟨l,by rw[aw _ _ e];exact hq,rfl,rfl,rfl⟩
 have hother:∀p lp,m p=some lp→p≠b→lp.block≠loc.block:=by
  intro p lp hp hne hbl;obtain⟨cp,cq,f,kp,kq,a1,a2,_⟩:=H.sep p b lp loc hp hm hbl hne;rw[hb]at a2;cases a2
 refine⟨⟨?_,?_⟩,?_,?_,?_⟩
 ·intro p cp f k hp;show match h.fams.get f with|none=>f=p|some (_,e)=>k≤e
  rw[hset,T.get_set]at hp;by_cases e:p=b
  ·rw[if_pos e]at hp;cases hp
  ·rw[if_neg e]at hp;exact H.wf.fam _ _ _ _ hp
 ·intro p hp;have hfr:=H.wf.fresh p hp;have hpb:p≠b:=by intro e;subst e;rw[hb]at hfr;simp at hfr
  exact⟨by rw[hset,T.get_set_ne _ _ hpb];exact hfr.1,hfr.2⟩
 ·intro p lp hp;by_cases e:p=b
  ·subst e;exact⟨.dead,by rw[hset,T.get_set_self],trivial⟩
  ·rw[aw _ _ e]at hp;obtain⟨bk,hbk,r⟩:=H.blk p lp hp;refine⟨bk,by rw[hset,T.get_set_ne _ _ e];exact hbk,?_⟩;have hw:(w.putObj loc.block o).heap[lp.block]? =w.heap[lp.block]? :=World.putObj_heap_other (hother p lp hp e);cases bk with
   |row c f k=>
    intro hrd;obtain⟨C,el,fz,a,b',c',d,e'⟩:=r hrd;exact⟨C,el,fz,hw.trans a,b',c',fun i v hi=>let⟨x,hx,rx⟩:=d i v hi;⟨x,hx,VRel.geo hgeo _ _ rx⟩,e'⟩
   |mp es clock=>
    obtain⟨es',a,b',c⟩:=r;refine⟨es',hw.trans a,b',fun i k v n hi=>?_⟩;obtain⟨e',he,r1,r2,r3⟩:=c i k v n hi;exact⟨e',he,VRel.geo hgeo _ _ r1,VRel.geo hgeo _ _ r2,r3⟩
   |lp ps as bd en st pend=>
    obtain⟨g,q1,q2,q3,q4,q5,q6⟩:=r;exact⟨g,q1,q2,q3,q4,hw.trans q5,fun s v hs=>(q6 s v hs).imp id fun q=>⟨q.1,VRel.geo hgeo _ _ q.2⟩⟩
   |si s pos=>exact⟨r.1,hw.trans r.2⟩
   |dead=>trivial
 ·intro p lp hp;by_cases e:p=b
  ·subst e;rw[au]at hp;cases hp;simpa using H.inb p loc hm
  ·rw[aw _ _ e]at hp;simpa using H.inb p lp hp
 ·intro p q lp lq hp hq hbl hne;by_cases e:p=b
  ·subst e;rw[au]at hp;cases hp;rw[aw _ _ (Ne.symm hne)]at hq;exact absurd hbl.symm (hother q lq hq (Ne.symm hne))
  ·rw[aw _ _ e]at hp;by_cases e2:q=b
   ·subst e2;rw[au]at hq;cases hq;exact absurd hbl (hother p lp hp hne)
   ·rw[aw _ _ e2]at hq;obtain⟨cp,cq,f,kp,kq,a,b',d⟩:=H.sep p q lp lq hp hq hbl hne;exact⟨cp,cq,f,kp,kq,by rw[hset,T.get_set_ne _ _ e];exact a,by rw[hset,T.get_set_ne _ _ e2];exact b',d⟩
theorem Ext.loop(H:HRel m h w){w1 w2:World}{L:Nat}{g:LG}{k:Blk}{m2:M}{h2:Heap}{o:Obj}(hk:∀i,i<w.heap.size→w1.heap[i]? =w.heap[i]?)(hge:w.heap.size≤L)(hsz:w.heap.size≤w1.heap.size)
 (hos:w1.os=w.os) (htp:w1.tape=w.tape) (hout:w1.output=w.output) (E:Ext (dq m h.next ⟨L,0,0,some g⟩) (hnew h k) w1 m2 h2 w2):
 Ext m h w (dq m2 h.next ⟨L,0,0,none⟩) (hset h2 h.next .dead) (w2.putObj L o):=by
 have hold:∀p l,m p=some l→p≠h.next:=fun p l hp x=>by subst x;rw[H.unmapped (Nat.le_refl _)]at hp;cases hp
 have hcov1:∀b i,b<w.heap.size→Cov (dq m h.next ⟨L,0,0,some g⟩) b i→Cov m b i:=by
  rintro b i hb ⟨q,l,hq,h1,h2,h3⟩;by_cases e:q=h.next
  ·subst e;rw[au]at hq;cases hq;simp only[]at h1;omega
  ·rw[aw _ _ e]at hq;exact⟨q,l,hq,h1,h2,h3⟩
 have hnx:(hnew h k).next=h.next+1:=rfl;refine⟨?_,?_,?_,?_,?_,?_,E.os.trans hos,E.tape.trans htp,E.output.trans hout,?_,?_,?_⟩
 ·intro p l hp;rw[aw _ _ (hold p l hp)];exact E.le p l (by rw[aw _ _ (hold p l hp)];exact hp)
 ·intro p l hp hn;by_cases e:p=h.next
  ·subst e;rw[au]at hp;cases hp;exact⟨Nat.le_refl _,.inl hge⟩
  ·rw[aw _ _ e]at hp;obtain⟨n1,n2⟩:=E.new p l hp (by rw[aw _ _ e];exact hn);rw[hnx]at n1;refine⟨by omega,?_⟩;rcases n2 with n2|⟨q,lq,hq,e2⟩
   ·exact .inl (by omega)
   ·by_cases e3:q=h.next
    ·subst e3;rw[au]at hq;cases hq;exact .inl (by simp only[]at e2;omega)
    ·rw[aw _ _ e3]at hq;exact .inr ⟨q,lq,hq,e2⟩
 ·have:=E.next;rw[hnx]at this;show h.next≤h2.next;omega
 ·intro p hn hp;have hpb:p≠h.next:=by omega
  show(h2.bl.set h.next .dead).get p=_;rw[T.get_set_ne _ _ hpb,E.phan p (by rw[aw _ _ hpb];exact hn) (by omega)];show(h.bl.set h.next k).get p=_;rw[T.get_set_ne _ _ hpb]
 ·have:=E.size;simp;omega
 ·intro b hb hlt;rw[World.putObj_heap_other (by omega),E.keep b (fun p l hp e=>?_) (by omega),hk b hlt];by_cases e2:p=h.next
  ·subst e2;rw[au]at hp;cases hp;simp only[]at e;omega
  ·rw[aw _ _ e2]at hp;exact hb p l hp e
 ·rintro b i hb ⟨q,l,hq,h1,h2',h3⟩;by_cases e:q=h.next
  ·subst e;rw[au]at hq;cases hq;simp only[]at h1;omega
  ·rw[aw _ _ e]at hq;exact hcov1 b i hb (E.cov b i (by omega) ⟨q,l,hq,h1,h2',h3⟩)
 ·intro b hb;rw[World.putObj_heap_other (by omega),←hk b hb];exact(Kept.refl m b _).trans (fun j x=>hcov1 b j hb x) (E.out b (by omega))
 ·intro p l hp hn;by_cases e:p=h.next
  ·subst e;rw[au]at hp;cases hp;rfl
  ·rw[aw _ _ e]at hp;exact E.lps p l hp (by rw[aw _ _ e];exact hn)
end
def Off(m:M)(r:Nat):Prop:=∀p loc,m p=some loc→loc.block≠r
theorem Off.ext{m m':M}{h h':Heap}{w w':World}{r:Nat}(o:Off m r)(E:Ext m h w m' h' w')(hr:r<w.heap.size):Off m' r:=by
 intro p loc hp e;cases h0:m p with
 |some l0=>
  have:=E.le _ _ h0;rw[hp]at this;cases this;exact o p loc h0 e
 |none=>
  rcases(E.new p loc hp h0).2 with q|⟨q,lq,hq,e2⟩
  ·omega
  ·exact o q lq hq (e2.trans e)
theorem HRel.putOff{m:M}{h:Heap}{w:World}(H:HRel m h w){r:Nat}(o:Off m r)(x:Obj):HRel m h (w.putObj r x):=by
 refine⟨H.wf,fun p loc hp=>?_,fun p loc hp=>by simpa using H.inb p loc hp,H.sep⟩;obtain⟨b,hb,rb⟩:=H.blk p loc hp;exact⟨b,hb,rb.mono (fun _ _ x=>x) (fun _ _ _ _ x=>x) (World.putObj_heap_other (o p loc hp))⟩
theorem Ext.putOff{m m':M}{h h':Heap}{w w':World}(E:Ext m h w m' h' w'){r:Nat}(hr:w.heap.size≤r)(x:Obj):Ext m h w m' h' (w'.putObj r x):=
 ⟨E.le,E.new,E.next,E.phan,by simpa using E.size,fun b hb hl=>(World.putObj_heap_other (by omega)).trans (E.keep b hb hl),E.os,E.tape,E.output,E.cov,
  fun b hb=>by rw[World.putObj_heap_other (by omega)];exact E.out b hb,E.lps⟩
def Marks(B:Nat)(m:M)(w:World):List Deferred→Prop
 |[]=>True
 |d::ds=>(∃r,d={target:=.collected r,args:= #[]}∧B≤r∧w.heap[r]? =some (.deferred (some []))∧Off m r∧∀d'∈ds,d'.target≠.collected r)∧Marks B m w ds
theorem Marks.ext{B:Nat}{m m':M}{h h':Heap}{w w':World}(E:Ext m h w m' h' w'):∀{ds:List Deferred},Marks B m w ds→Marks B m' w' ds
 |[],_=>trivial
 |_::_,⟨⟨r,h1,h2,h3,h4,h5⟩,t⟩=>
  have hlt:=(Array.getElem?_eq_some_iff.1 h3).1
  ⟨⟨r,h1,h2,(E.keep r h4 hlt).trans h3,h4.ext E hlt,h5⟩,Marks.ext E t⟩
theorem Marks.put{B:Nat}{m:M}{w:World}{r:Nat}{x:Obj}:∀{ds:List Deferred},(∀d∈ds,d.target≠.collected r)→Marks B m w ds→Marks B m (w.putObj r x) ds
 |[],_,_=>trivial
 |d::ds,hn,⟨⟨r',h1,h2,h3,h4,h5⟩,t⟩=>
  ⟨⟨r',h1,h2,(World.putObj_heap_other (fun e=>hn d (by simp) (by rw[h1,e]))).trans h3,h4,h5⟩,Marks.put (fun d' hd=>hn d' (by simp[hd])) t⟩
inductive Out where
 |ok (e:Ex) (env:T V) (h:Heap)
 |fail
noncomputable def evO(loc:List V)(env:T V)(x:Opd):Option V:=
 Opd.rec (motive:=fun _=>Option V) (fun k=>nth loc k) (fun s=>env.get s) (fun v=>some v) (fun n=>some (.ptr n 0)) x
noncomputable def de(loc:List V)(env:T V)(xs:List Opd):Option (List V):=
 List.rec (motive:=fun _=>Option (List V)) (some []) (fun x _ ih=>
  Option.rec (motive:=fun _=>Option (List V)) none (fun v=>Option.rec (motive:=fun _=>Option (List V)) none (fun vs=>some (v::vs)) ih) (evO loc env x)) xs
noncomputable def fN{β:Type}(n:Nat)(k:Nat→β):β:=Nat.rec (motive:=fun _=>β) (k 0) (fun j _=>k (Nat.succ j)) n
theorem EG{β:Type}(n:Nat)(k:Nat→β):fN n k=k n:=by cases n<;>rfl
noncomputable def fI{β:Type}(n:Int)(k:Int→β):β:=Int.rec (motive:=fun _=>β) (fun a=>fN a fun a=>k (.ofNat a)) (fun a=>fN a fun a=>k (.negSucc a)) n
theorem Hl{β:Type}(n:Int)(k:Int→β):fI n k=k n:=by cases n<;>simp[fI,EG]
noncomputable def fB{β:Type}(b:Bool)(k:Bool→β):β:=Bool.rec (motive:=fun _=>β) (k false) (k true) b
theorem Hm{β:Type}(b:Bool)(k:Bool→β):fB b k=k b:=by cases b<;>rfl
noncomputable def fV{β:Type}(v:V)(k:V→β):β:=
 match v with
 |.bool b=>fB b fun b=>k (.bool b)
 |.int t n=>fI n fun n=>k (.int t n)
 |.ptr b o=>fN b fun b=>fN o fun o=>k (.ptr b o)
 |.slice b o l c=>fN b fun b=>fN o fun o=>fN l fun l=>fN c fun c=>k (.slice b o l c)
 |.sliceU b o l c=>fN b fun b=>fN o fun o=>fN l fun l=>fN c fun c=>k (.sliceU b o l c)
 |v=>k v
theorem uL{β:Type}(v:V)(k:V→β):fV v k=k v:=by
 cases v<;>simp[fV,Hm,Hl,EG]
abbrev aD:=Nat→List V→Heap→Option (V×Heap)
noncomputable def aK(call:aD)(loc:List V)(env:T V)(h:Heap)(o:IOp):Option (V×Heap):=
 match o with
 |.p k xs=>match de loc env xs with
  |some vs=>match aP k vs with
   |some v=>some (v,h)
   |none=>none
  |none=>none
 |.ld n ia x=>match evO loc env x with
  |some v=>match gy h n ia v with
   |some v=>some (v,h)
   |none=>none
  |none=>none
 |.st n x y=>match evO loc env x with
  |some p=>match evO loc env y with
   |some v=>match gW h n p v with
    |some h=>some (.tup [],h)
    |none=>none
   |none=>none
  |none=>none
 |.al zero=>some (.ptr h.next 0,halloc h zero)
 |.bx x=>match evO loc env x with
  |some v=>some (.ptr h.next 0,halloc h v.cells)
  |none=>none
 |.bs zero places len xs=>match de loc env xs with
  |some vs=>gX h zero places len vs
  |none=>none
 |.mk zero bytes x y=>match evO loc env x with
  |some l=>match evO loc env y with
   |some c=>qR h zero bytes l c
   |none=>none
  |none=>none
 |.ap esz bytes x y=>match evO loc env x with
  |some s=>match evO loc env y with
   |some v=>jD h esz bytes s v
   |none=>none
  |none=>none
 |.cp esz x y=>match evO loc env x with
  |some s=>match evO loc env y with
   |some v=>qT h esz s v
   |none=>none
  |none=>none
 |.cf f xs=>match de loc env xs with
  |some vs=>call f vs h
  |none=>none
 |.cv x xs=>match evO loc env x with
  |some (.func (.func f) first caps)=>match de loc env xs with
   |some vs=>bif Nat.blt f YB then call f (first++vs++caps) h else none
   |none=>none
  |some (.yld b)=>match de loc env xs with
   |some vs=>call (YB+b) vs h
   |none=>none
  |_=>none
 |.mm xs=>match de loc env xs with
  |some vs=>amm h vs
  |none=>none
 |.lk ks zero ok xs=>match de loc env xs with
  |some [x,key]=>match alk h ks zero ok x key with
   |some v=>some (v,h)
   |none=>none
  |_=>none
 |.mu ks xs=>match de loc env xs with
  |some [x,key,val]=>amu h ks x key val
  |_=>none
 |.clr zero x=>match evO loc env x with
  |some d=>wI h zero d
  |none=>none
 |.b2s x=>match evO loc env x with
  |some d=>match tc h d with
   |some v=>some (v,h)
   |none=>none
  |none=>none
 |.df x xs=>match evO loc env x with
  |some (.func (.func f) first caps)=>match de loc env xs with
   |some vs=>(match env.get DSL with
    |some _=>none
    |none=>bif Nat.blt f YB then some (.tup (.func (.func f) first caps::vs),h)else none)
   |none=>none
  |_=>none
 |.it nx x=>match evO loc env x with
  |some d=>ait h nx d
  |none=>none
 |.bad=>none
noncomputable def evG(loc:List V)(env:T V)(g:Option (Opd×Bool)):Option Bool:=
 match g with
 |none=>some true
 |some (x,want)=>match evO loc env x with
  |some (.bool b)=>some (!(xor b want))
  | some (.tup _) => some false -- the guard was passed over itself
  |_=>none
noncomputable def cU(call:aD)(l:List IStep):List V→T V→Heap→Out:=
 List.rec (motive:=fun _=>List V→T V→Heap→Out) (fun _ env h=>.ok .norm env h)
  (fun s _ ih loc env h=>
   match evG loc env s.gd with
   |some true=>match aK call loc env h s.op with
    |some (v,h)=>fV v fun v=>match s.dst with
     |none=>ih (v::loc) env h
     |some d=>ih loc (env.set d v) h
    |none=>.fail
   |some false=>match s.dst with
    |none=>ih (.tup []::loc) env h
    |some d=>ih loc (env.set d (.tup [])) h
   |none=>.fail) l
def eff:IOp→Bool
 |.p _ _=>false
 |.ld _ _ _=>false
 |.lk _ _ _ _=>false
 |.b2s _=>false
 |_=>true
noncomputable def fZ(loc:List V)(env:T V)(o:IOp):Option (List V×Option (Nat×Nat)):=
 match o with
 |.al zero=>some (zero,none)
 |.bx x=>match evO loc env x with
  |some v=>some (v.cells,none)
  |none=>none
 |.bs zero places len xs=>match de loc env xs with
  |some vs=>match cZ (bu zero len) places vs with
   |some c=>some (c,some (len,len))
   |none=>none
  |none=>none
 |.mk zero bytes x y=>match evO loc env x with
  |some l=>match evO loc env y with
   |some c=>match mkN bytes l c with
    |some (n,k)=>some (bu zero k,some (n,k))
    |none=>none
   |none=>none
  |none=>none
 |_=>none
def dy(id:Nat):Option (Nat×Nat)→V
 |some (n,k)=>.slice id 0 n k
 |none=>.ptr id 0
def lid:V→Nat
 |.ptr b _=>b
 |.slice b _ _ _=>b
 |_=>0
abbrev DS:=IStep×Option (V×List V)
def dT(s:DS):Bool:=match s.2 with
 |some _=>false
 |none=>eff s.1.op
noncomputable def qu(call:aD)(loc:List V)(env:T V)(h:Heap)(s:IStep):V:=
 bif eff s.op then .tup []else match aK call loc env h s.op with
  |some (v,_)=>v
  |none=>.tup []
noncomputable def lay(call:aD)(env:T V)(late:List Nat):List IStep→Nat→List V→Heap→Option (List DS×Heap)
 |[],_,_,h=>some ([],h)
 |s::l,i,loc,h=>
  bif late.contains i then
   match fZ loc env s.op with
   |some (c,k)=>match lay call env late l (i+1) (dy h.next k::loc) (halloc h c)with
    |some (r,h')=>some ((s,some (dy h.next k,c))::r,h')
    |none=>none
   |none=>none
  else
   match lay call env late l (i+1) (qu call loc env h s::loc) h with
   |some (r,h')=>some ((s,none)::r,h')
   |none=>none
noncomputable def bI(loc:List V)(env:T V)(o:IOp)(u:V)(c:List V):Bool:=
 match fZ loc env o with
 |some (c',k)=>jP c c'&&vEq u (dy (lid u) k)
 |none=>false
noncomputable def fE(call:aD)(env:T V)(l:List DS):List V→List Heap→Heap→Option (List V×List Heap):=
 List.rec (motive:=fun _=>List V→List Heap→Heap→Option (List V×List Heap)) (fun loc hs _=>some (loc,hs))
  (fun s _ ih loc hs h=>
   match s.2 with
   |some (u,c)=>bif bI loc env s.1.op u c then ih (u::loc) hs h else none
   |none=>
    match evG loc env s.1.gd with
    |some true=>match aK call loc env h s.1.op with
     |some (v,h')=>fV v fun v=>bif eff s.1.op then ih (v::loc) (h'::hs) h' else ih (v::loc) hs h
     |none=>none
    |some false=>bif eff s.1.op then ih (.tup []::loc) (h::hs) h else ih (.tup []::loc) hs h
    |none=>none) l
noncomputable def eQ(call:aD)(loc:List V)(env:T V)(o:IOp)(v:V):List Heap→Bool
 |[]=>true
 |h::hs=>(match aK call loc env h o with
  |some (u,_)=>vEq u v
  |none=>false)&&eQ call loc env o v hs
noncomputable def jT(call:aD)(env:T V)(l:List IStep)(loc:List V)(hs:List Heap)(r:Nat×Nat×Nat):Bool:=
 match r with
 |(i,lo,hi)=>match l[i]?,loc.drop (l.length-i-1)with
  |some s,v::loc'=>(match evG loc' env s.gd with
   |some true=>eQ call loc' env s.op v ((hs.reverse.drop lo).take (hi+1-lo))
   |_=>true)
  |_,_=>false
noncomputable def fG(n:Nat)(loc:List V):List (Nat×Nat)→T V→Option (T V)
 |[],env=>some env
 |(s,i)::r,env=>match loc[n-i-1]? with
  |some v=>fG n loc r (env.set s v)
  |none=>none
noncomputable def evD(call:aD)(l:List IStep)(late:List Nat)(reads:List (Nat×Nat×Nat))(sets:List (Nat×Nat))(env:T V)(h0:Heap):Out:=
 match lay call env late l 0 [] h0 with
 |none=>.fail
 |some (dl,h)=>
 match fE call env dl [] [h] h with
 |some (loc,hs)=>bif reads.all (jT call env l loc hs)then
  (match fG l.length loc sets env,hs with
   |some env',h'::_=>.ok .norm env' h'
   |_,_=>.fail)
  else .fail
 |none=>.fail
noncomputable def dbl(body:T V→Heap→Out)(k:Nat):T V→Heap→Out:=
 Nat.rec (motive:=fun _=>T V→Heap→Out) body (fun _ ih env h=>match ih env h with
  |.ok .norm env h=>ih env h
  |r=>r) k
noncomputable def fi(call:aD)(e:Ex)(env:T V)(h:Heap):Out:=
 match env.get DSL with
 |none=>.ok e env h
 |some (.tup (.func (.func f) first caps::args))=>(match call f (first++args++caps) h with
  |some (_,h)=>.ok e env h
  |none=>.fail)
 |_=>.fail
noncomputable def evC(call:aD)(c:IC):T V→Heap→Out:=
 IC.rec (motive:=fun _=>T V→Heap→Out)
  (fun env h=>.ok .norm env h)
  (fun l env h=>cU call l [] env h)
  (fun _ _ a b env h=>match a env h with
   |.ok .norm env h=>b env h
   |r=>r)
  (fun x _ _ a b env h=>match evO [] env x with
   |some (.bool t)=>bif t then a env h else b env h
   |_=>.fail)
  (fun id _ c env h=>match c env h with
   |.ok (.exit i) env h=>bif Nat.beq i id then .ok .norm env h else .ok (.exit i) env h
   |r=>r)
  (fun _ c env h=>match dbl c 24 env h with
   |.ok .norm _ _=>.fail
   |r=>r)
  (fun id env h=>.ok (.exit id) env h)
  (fun env h=>.ok .ret env h)
  (fun _ l _ c r env h=>match c env h with
   |.ok (.goto i) env h=>bif Nat.beq i l then
    (match dbl (fun env h=>match r env h with
     |.ok (.goto i) env h=>bif Nat.beq i l then .ok .norm env h else .ok (.goto i) env h
     |.ok .norm env h=>.ok (.goto l) env h
     |r=>r) 24 env h with
     |.ok .norm _ _=>.fail
     |.ok (.goto i) env h=>bif Nat.beq i l then .ok .norm env h else .fail
     |r=>r)
    else .fail
   |r=>r)
  (fun l env h=>.ok (.goto l) env h)
  (fun l late _ _ reads sets env h=>evD call l late reads sets env h)
  (fun _ _=>.fail)
  (fun g ps as bd _ _ env h=>match evO [] env g with
   |some (.func (.func f) first caps)=>bif Nat.blt f YB then
    (match call f (first++[.yld h.next]++caps) (hnew h (.lp ps as bd env 0 none))with
     |some (_,h2)=>(match h2.bl.get h.next with
      |some (.lp _ _ _ _ st pend)=>bif Nat.beq st 1 then .fail else .ok (match pend with|some ex=>ex|none=>.norm) env (hset h2 h.next .dead)
      |_=>.fail)
     |none=>.fail)
    else .fail
   |_=>.fail)
  (fun _ c env h=>match c env h with
   |.ok .norm env h=>fi call .norm env h
   |.ok .ret env h=>fi call .ret env h
   |_=>.fail) c
noncomputable def vi:List Nat→List V→T V→T V
 |p::ps,v::vs,env=>vi ps vs (env.set p v)
 |_,_,env=>env
noncomputable def evY(run:IC→T V→Heap→Out)(b:Nat)(vs:List V)(h:Heap):Option (V×Heap):=
 match h.bl.get b with
 |some (.lp ps as bd env 0 none)=>bif Nat.beq vs.length ps.length then
  (match run as (vi ps vs env) h with
   |.ok .norm env1 h1=>(match h1.bl.get b with
    |some (.lp ps1 as1 bd1 en1 0 p1)=>(match run bd env1 (hset h1 b (.lp ps1 as1 bd1 en1 1 p1))with
     |.ok ex _ h2=>(match h2.bl.get b with
      |some (.lp ps2 as2 bd2 en2 _ _)=>(match ex with
       |.norm=>some (.bool true,hset h2 b (.lp ps2 as2 bd2 en2 0 none))
       |ex=>some (.bool false,hset h2 b (.lp ps2 as2 bd2 en2 2 (some ex))))
      |_=>none)
     |.fail=>none)
    |_=>none)
   |_=>none)
  else none
 |_=>none
inductive RV where
 |t (s:Nat)
 |c (s n:Nat) (ia:Bool)
structure IFn where
 nargs:Nat
 body:IC
 results:List RV
 vars:List Nat
noncomputable def evR(env:T V)(h:Heap):RV→Option V
 |.t s=>env.get s
 |.c s n ia=>match env.get s with
  |some v=>gy h n ia v
  |none=>none
noncomputable def dS(env:T V)(h:Heap):List RV→Option (List V)
 |[]=>some []
 |r::rs=>match evR env h r with
  |some v=>match dS env h rs with
   |some vs=>some (v::vs)
   |none=>none
  |none=>none
noncomputable def eS(vs:List V):Nat→T V→T V:=
 List.rec (motive:=fun _=>Nat→T V→T V) (fun _ en=>en) (fun v _ ih i en=>ih (Nat.succ i) (en.set i v)) vs
noncomputable def evF(ov:aD)(F:T IFn)(n:Nat):aD:=
 Nat.rec (motive:=fun _=>aD) (fun _ _ _=>none)
  (fun _ ih f vs h=>match F.get f with
   |some fn=>bif Nat.beq vs.length fn.nargs then
    (match evC ih fn.body (eS vs 0 .e) h with
     |.ok .norm env h=>match dS env h fn.results with
      |some [v]=>fV v fun v=>some (v,h)
      |some vs=>some (.tup vs,h)
      |none=>none
     |.ok .ret env h=>match dS env h fn.results with
      |some [v]=>fV v fun v=>some (v,h)
      |some vs=>some (.tup vs,h)
      |none=>none
     |_=>none)
    else none
   |none=>bif Nat.ble YB f then evY (evC ih) (f-YB) vs h else ov f vs h) n
inductive Src where
 |l (k:Nat)
 |v (s:Nat)
 |x (o:Operand)
 |bad
abbrev Sg:=List (Nat×Src)
def dM:Sg→Nat→Option Src
 |[],_=>none
 |(d,s)::r,t=>if d=t then some s else dM r t
def pc:Src→Src
 |.l k=>.l (k+1)
 |s=>s
def zy:Sg→Sg
 |[]=>[]
 |(d,s)::r=>(d,pc s)::zy r
def jR(d t:Nat):Src→Src
 |.v s=>if t=d∨s=d then .bad else .v s
 |s=>if t=d then .bad else s
def tA(d:Nat):Sg→Sg
 |[]=>[]
 |(t,s)::r=>(t,jR d t s)::tA d r
def mw(G:Nat):Operand→Opd→Bool
 |.const x,.c v=>vis v x
 |.global g,.g n=>Nat.beq g n&&Nat.blt g G
 |.func f,.c (.func (.func f') [] [])=>Nat.beq f f'
 |_,_=>false
def cE(G:Nat):Src→Opd→Bool
 |.l k,.l j=>Nat.beq k j
 |.v s,.v t=>Nat.beq s t
 |.x o,y=>mw G o y
 |_,_=>false
structure Cx where
 G:Nat
 vars:List Nat
 N:Nat
 df:Bool
def jG(C:Cx)(σ:Sg):Operand→Opd→Bool
 |.tmp t,y=>match dM σ t with
  |some s=>cE C.G s y
  |none=>match y with
   |.v s=>Nat.beq s t&&C.vars.contains t
   |_=>false
 |o,y=>mw C.G o y
def bJ(C:Cx)(σ:Sg):List Operand→List Opd→Bool
 |[],[]=>true
 |o::os,y::ys=>jG C σ o y&&bJ C σ os ys
 |_,_=>false
def bP(P:Program)(C:Cx)(σ:Sg)(o:Oper):IOp→Bool
 |.p k xs=>aW P o.op k&&bJ C σ o.op.operands.toList xs
 |.ld n ia x=>sQ P o.op n ia&&bJ C σ o.op.operands.toList [x]
 |.st n x y=>oU P o.op n&&bJ C σ o.op.operands.toList [x,y]
 |.al zero=>kQ P o.op zero
 |.bx x=>sT o.op&&bJ C σ o.op.operands.toList [x]
 |.bs zero places len xs=>jr P o.op zero places len&&bJ C σ o.op.operands.toList xs
 |.mk zero bytes x y=>kP P o.op zero bytes&&bJ C σ o.op.operands.toList [x,y]
 |.ap esz bytes x y=>sU P o.op esz bytes&&bJ C σ o.op.operands.toList [x,y]
 |.cp esz x y=>sR P o.op esz&&bJ C σ o.op.operands.toList [x,y]
 |.cf f xs=>match o.op with
  |.call {callee:=.value (.func f'),args, .. }=>Nat.beq f f'&&bJ C σ args.toList xs&&Nat.blt f YB
  |_=>false
 |.cv x xs=>match o.op with
  |.call {callee:=.value y,args, .. }=>jG C σ y x&&bJ C σ args.toList xs
  |_=>false
 |.mm xs=>BD P o.op&&bJ C σ o.op.operands.toList xs
 |.lk ks zero ok xs=>BE P o.op ks zero ok&&bJ C σ o.op.operands.toList xs
 |.mu ks xs=>BC P o.op ks&&bJ C σ o.op.operands.toList xs
 |.clr zero x=>wB P o.op zero&&bJ C σ o.op.operands.toList [x]
 |.b2s x=>wC P o.op&&bJ C σ o.op.operands.toList [x]
 |.df _ _=>false
 |.it nx x=>BF P o.op nx&&bJ C σ o.op.operands.toList [x]
 |.bad=>true
def Ez:Op→Bool
 |.defer _=>false
 |_=>true
def jN(P:Program)(C:Cx)(σ:Sg)(o:Oper)(i:IOp):Bool:=Ez o.op&&bP P C σ o i
def EM(C:Cx)(σ:Sg)(o:Oper)(s:IStep):Bool:=
 C.df&&(match s.dst with|some d=>Nat.beq d DSL|none=>false)&&(match o.dst with|none=>true|some _=>false)&&(match o.guard,s.gd with|none,none=>true|_,_=>false)&&
 (match s.op with
  |.df x xs=>(match o.op with
   |.defer {callee:=.value y,args, .. }=>jG C σ y x&&bJ C σ args.toList xs
   |_=>false)
  |_=>false)
def zu(C:Cx)(σ:Sg)(ops:Array Oper)(g:Option (Nat×Bool))(s:Option (Opd×Bool)):Bool:=
 match g,s with
 |none,none=>true
 |some (j,want),some (x,want')=>(want==want')&&(match(ops[j]?).bind (·.dst)with
  |some d=>Nat.blt d C.N&&jG C σ (.tmp d) x
  |none=>false)
 |_,_=>false
def uU(C:Cx)(d:Option Nat)(s:Option Nat):Bool:=
 match d,s with
 |none,none=>true
 |some d,none=> !C.vars.contains d&&Nat.blt d C.N
 |some d,some e=>Nat.beq d e&&C.vars.contains d&&Nat.blt d C.N
 |none,some _=>false
def xL(σ:Sg)(d:Option Nat)(s:Option Nat):Sg:=
 match d,s with
 |none,_=>zy σ
 |some d,none=>(d,.l 0)::zy σ
 |some d,some _=>tA d σ
def s9(C:Cx)(σ:Sg)(ops:Array Oper)(o:Oper):Option (Nat×Src):=
 match o.op,o.guard,o.dst with
 |.move x,none,some d=>
  if !C.vars.contains d&&Nat.blt d C.N then
   match x with
   |.tmp t=>
    match dM σ t with
    |some (.v s)=>if ops.any (fun p=>p.dst==some s)then none else some (d,.v s)
    |some s=>some (d,s)
    |none=>if C.vars.contains t&& !ops.any (fun p=>p.dst==some t)then some (d,.v t)else none
   |x=>some (d,.x x)
  else none
 |_,_,_=>none
def xJ(σ:Sg):Sg:=tA DSL σ
def fw(P:Program)(C:Cx)(ops:Array Oper):List Oper→List IStep→Sg→Bool
 |[],[],_=>true
 |[],_::_,_=>false
 |o::os,steps,σ=>
  match s9 C σ ops o with
  |some p=>fw P C ops os steps (p::σ)
  |none=>match steps with
   |[]=>false
   |s::rest=>zu C σ ops o.guard s.gd&&jN P C σ o s.op&&uU C o.dst s.dst&&fw P C ops os rest (xL σ o.dst s.dst)||(EM C σ o s&&fw P C ops os rest (xJ σ))
def Glob(K:LG→Prop)(G:Nat)(m:M):Prop:=(∀g,g<G→∃r,m g=some ⟨g,0,r,none⟩)∧∀p loc g,m p=some loc→loc.lp=some g→K g
theorem Glob.ext{K:LG→Prop}{G:Nat}{m m':M}{h h':Heap}{w w':World}(a:Glob K G m)(E:Ext m h w m' h' w'):Glob K G m':=
 ⟨fun g hg=>let⟨r,hr⟩:=a.1 g hg;⟨r,E.le _ _ hr⟩,fun p loc g hp hl=>by
  cases h0:m p with
  |some l0=>
   have:=E.le _ _ h0;rw[hp]at this;cases this;exact a.2 p loc g h0 hl
  |none=>rw[E.lps p loc hp h0]at hl;cases hl⟩
variable {K : LG → Prop}
def Inv(G:Nat)(m:M)(loc:List V)(env:T V)(a:Act)(σ:Sg):Prop:=
 ∀t s,dM σ t=some s→∀y v,cE G s y=true→evO loc env y=some v→VRel m v (a.tmps.getD t undef)
def ERel(C:Cx)(m:M)(env:T V)(a:Act):Prop:=
 a.tmps.size=C.N∧(∀s v,env.get s=some v→s=DSL∨(C.vars.contains s=true∧VRel m v (a.tmps.getD s undef)))∧C.vars.contains DSL=false
theorem ERel.var{C:Cx}{m:M}{env:T V}{a:Act}(hE:ERel C m env a){s:Nat}{v:V}(hc:C.vars.contains s=true)(e:env.get s=some v):VRel m v (a.tmps.getD s undef):=by
 rcases hE.2.1 s v e with q|q
 ·rw[q,hE.2.2]at hc;cases hc
 ·exact q.2
theorem lO{G:Nat}{m:M}{o:Operand}{y:Opd}{loc:List V}{env:T V}{v:V}{a:Act}(hG:Glob K G m)(h:mw G o y=true)(e:evO loc env y=some v):VRel m v (a.eval o):=by
 unfold mw at h;split at h
 ·cases e;exact rI m _ _ h
 ·cases e;simp only[Bool.and_eq_true,Nat.blt_eq]at h;have:=Nat.eq_of_beq_eq_true h.1;subst this;obtain⟨r,hr⟩:=hG.1 _ h.2;exact⟨_,hr,rfl⟩
 ·cases e;have:=Nat.eq_of_beq_eq_true h;subst this;exact⟨[],[],rfl,rfl,rfl⟩
 ·cases h
theorem eX{C:Cx}{m:M}{σ:Sg}{o:Operand}{y:Opd}{loc:List V}{env:T V}{v:V}{a:Act}(hG:Glob K C.G m)(hI:Inv C.G m loc env a σ)(hE:ERel C m env a)
 (h:jG C σ o y=true) (e:evO loc env y=some v):VRel m v (a.eval o):=by
 unfold jG at h;split at h
 ·rename_i t;split at h
  ·rename_i s hs;exact hI t s hs y v h e
  ·split at h
   ·rename_i s;simp only[Bool.and_eq_true]at h;have:=Nat.eq_of_beq_eq_true h.1;subst this;exact hE.var h.2 e
   ·cases h
 ·exact lO hG h e
theorem lN(loc:List V)(env:T V)(x:Opd)(xs:List Opd):de loc env (x::xs)=match evO loc env x with
 |some v=>(match de loc env xs with|some vs=>some (v::vs)|none=>none)
 |none=>none:=by
 show Option.rec (motive:=fun _=>Option (List V)) none (fun v=>Option.rec (motive:=fun _=>Option (List V)) none (fun vs=>some (v::vs)) (de loc env xs)) (evO loc env x)=_;cases evO loc env x with
 |none=>rfl
 |some v=>cases de loc env xs<;>rfl
def zV(C:Cx)(m:M)(σ:Sg)(loc:List V)(env:T V)(a:Act):Prop:=∀(o:Operand)(y:Opd)(v:V),jG C σ o y=true→evO loc env y=some v→VRel m v (a.eval o)
theorem aV{C:Cx}{m:M}{σ:Sg}{loc:List V}{env:T V}{a:Act}(hO:zV C m σ loc env a):
 ∀(os:List Operand)(ys:List Opd)(vs:List V),bJ C σ os ys=true→de loc env ys=some vs→VsRel m vs (os.map a.eval)
 |[],[],vs,_,e=>by cases e;rfl
 |[],_::_,_,h,_=>by simp[bJ]at h
 |_::_,[],_,h,_=>by simp[bJ]at h
 |o::os,y::ys,vs,h,e=>by
  simp only[bJ,Bool.and_eq_true]at h;rw[lN]at e;cases h1:evO loc env y with
  |none=>rw[h1]at e;cases e
  |some v=>
   rw[h1]at e;cases h2:de loc env ys with
   |none=>rw[h2]at e;cases e
   |some ws=>
    rw[h2]at e;cases e;exact⟨_,_,rfl,hO _ _ _ h.1 h1,aV hO os ys ws h.2 h2⟩
theorem oL{loc:List V}{env:T V}{x:Opd}{v:V}(h:evO loc env x=some v):de loc env [x]=some [v]:=by
 rw[lN,h];rfl
theorem uN{loc:List V}{env:T V}{x y:Opd}{v u:V}(h:evO loc env x=some v)(k:evO loc env y=some u):de loc env [x,y]=some [v,u]:=by
 rw[lN,h,oL k]
def jE(m:M)(h:Heap)(w:World)(v:V)(h':Heap):Ending→World→Prop:=fun e w'=>∃x m',e=.returned x∧VRel m' v x∧HRel m' h' w'∧Ext m h w m' h' w'
abbrev FR(ro:Option Nat):Fence:={Fence.wide with round:=ro}
def dE(P:Program)(K:LG→Prop)(G:Nat)(call:aD):Prop:=∀f vs h v h',call f vs h=some (v,h')→
 (f<YB→(∃fn,P.funcs[f]? =some fn∧fn.body.isSome=true∧(fn.name== "runtime.NumGoroutine")=false)∧
  ∀m w (args:List Value),VsRel m vs args→HRel m h w→Glob K G m→
   Calls P f (List.toArray args) w (jE m h w v h')∧∀u,CallsDIn Fence.wide 0 P f (List.toArray args) u w (fun e u' w'=>u'=u∧jE m h w v h' e w'))∧
 (YB≤f→∀m w (args:List Value) loc,m (f-YB)=some loc→VsRel m vs args→HRel m h w→Glob K G m→
  ∃r:Loop,w.heap[loc.block]? =some (.loop r)∧args.length=r.params.size∧
   RoundIn Fence.wide 0 P loc.block r.fn ((r.params.zip (List.toArray args)).foldl (fun tmps (t,a)=>tmps.setIfInBounds t a) r.tmps) r.assign r.body w (jE m h w v h'))
theorem eU{P:Program}{w:World}{f:FuncId}{args:Array Value}(h:∃fn,P.funcs[f]? =some fn∧fn.body.isSome=true∧(fn.name== "runtime.NumGoroutine")=false):
 (callFunc f args).run P w=.ok (.enter f args) w:=by
 obtain⟨fn,hf,hb,hn⟩:=h;have hb':fn.body.isNone=false:=by cases hh:fn.body<;>simp_all
 simp only[callFunc,Sem.run_bind,run_program,Result.andThen_ok,hf,hn,hb',Bool.false_eq_true,if_false,Sem.run_pure]
theorem nQ{P:Program}{C:Cx}{call:aD}(hcall:dE P K C.G call){m:M}{h h':Heap}{w:World}{σ:Sg}{loc:List V}{env:T V}{a:Act}{o:Oper}{i:IOp}{v:V}
 (hG:Glob K C.G m) (hO:zV C m σ loc env a) (H:HRel m h w) (hc:jN P C σ o i=true) (e:aK call loc env h i=some (v,h')) {K0:Act→World→Prop} {Q:Exit→Act→World→Prop}
 (hK:∀x w' m',VRel m' v x→HRel m' h' w'→Ext m h w m' h' w'→K0 (a.put o.dst x) w') {ro:Option Nat}:o.wpIn (FR ro) 0 P a w K0 Q:=by
 unfold jN at hc;simp only[Bool.and_eq_true]at hc;obtain⟨hnd,hc⟩:=hc;have hsem:o.semAt ro a.eval=execOp a.eval o:=Oper.semAt_eq ro a.eval o (fun c hcc=>by rw[hcc]at hnd;cases hnd);have fin:MS P m h w o a.eval v h'→o.wpIn (FR ro) 0 P a w K0 Q:=by
  rintro⟨x,w',m',hg,r,H',E'⟩;refine⟨fun _ _=>trivial,?_⟩;show o.uponIn (FR ro) 0 P a K0 Q ((o.semAt ro a.eval).run P w);rw[hsem];rcases hg with hg|⟨hg,rfl⟩
  ·rw[hg];exact hK x w' m' r H' E'
  ·rw[hg];exact hK undef w' m' r H' E'
 have entered:∀{f:Nat}{args:List Value},(execOp a.eval o).run P w=.ok (.enter f (List.toArray args)) w→Calls P f (List.toArray args) w (jE m h w v h')→o.wpIn (FR ro) 0 P a w K0 Q:=by
  intro f args hr hcl;refine⟨fun _ _=>trivial,?_⟩;show o.uponIn (FR ro) 0 P a K0 Q ((o.semAt ro a.eval).run P w);rw[hsem,hr];have hcl2:CallsIn Fence.wide 0 P f (List.toArray args) w (jE m h w v h'):=callsIn_wide.2 hcl;refine⟨fun q=>absurd q (by simp[Fence.wide]),CallsIn.mono (F:=FR ro) (n:=0) hcl2 ?_⟩;rintro en w' ⟨x,m',rfl,r,H',E'⟩;exact hK x w' m' r H' E'
 have one:∀x u,bJ C σ o.op.operands.toList [x]=true→evO loc env x=some u→VsRel m [u] (OV a.eval o.op):=fun x u h1 h2=>aV hO _ _ _ h1 (oL h2);have two:∀x y u t,bJ C σ o.op.operands.toList [x,y]=true→evO loc env x=some u→evO loc env y=some t→VsRel m [u,t] (OV a.eval o.op):=fun x y u t h1 h2 h3=>aV hO _ _ _ h1 (uN h2 h3);unfold aK at e;split at e
 ·rename_i k xs;simp only[bP,Bool.and_eq_true]at hc;split at e
  ·rename_i vs hvs;split at e
   ·rename_i u hu;cases e;exact fin (Cy H (BR hc.1 (aV hO _ _ _ hc.2 hvs) hu))
   ·cases e
  ·cases e
 ·rename_i n ia x;simp only[bP,Bool.and_eq_true]at hc;split at e
  ·rename_i u hu;split at e
   ·rename_i t ht;cases e;obtain⟨x,r,hr⟩:=vt (P:=P) H hc.1 (one _ _ hc.2 hu) ht;exact fin ⟨x,w,m,.inl hr,r,H,Ext.refl _ _ _⟩
   ·cases e
  ·cases e
 ·rename_i n x y;simp only[bP,Bool.and_eq_true]at hc;split at e
  ·rename_i p hp;split at e
   ·rename_i u hu;split at e
    ·rename_i h2 hh2;cases e;exact fin (sX H hc.1 (two _ _ _ _ hc.2 hp hu) hh2)
    ·cases e
   ·cases e
  ·cases e
 ·cases e;simp only[bP]at hc;exact fin (td H hc)
 ·simp only[bP,Bool.and_eq_true]at hc;split at e
  ·rename_i u hu;cases e;exact fin (wJ H hc.1 (one _ _ hc.2 hu))
  ·cases e
 ·simp only[bP,Bool.and_eq_true]at hc;split at e
  ·rename_i vs hvs;exact fin (pK H hc.1 (aV hO _ _ _ hc.2 hvs) e)
  ·cases e
 ·simp only[bP,Bool.and_eq_true]at hc;split at e
  ·rename_i p hp;split at e
   ·rename_i u hu;exact fin (vr H hc.1 (two _ _ _ _ hc.2 hp hu) e)
   ·cases e
  ·cases e
 ·simp only[bP,Bool.and_eq_true]at hc;split at e
  ·rename_i p hp;split at e
   ·rename_i u hu;exact fin (wL H hc.1 (two _ _ _ _ hc.2 hp hu) e)
   ·cases e
  ·cases e
 ·simp only[bP,Bool.and_eq_true]at hc;split at e
  ·rename_i p hp;split at e
   ·rename_i u hu;exact fin (vv H hc.1 (two _ _ _ _ hc.2 hp hu) e)
   ·cases e
  ·cases e
 ·rename_i f xs;simp only[bP]at hc;split at hc
  ·rename_i f' args ts hy;simp only[Bool.and_eq_true,Nat.blt_eq]at hc;have:=Nat.eq_of_beq_eq_true hc.1.1;subst this;split at e
   ·rename_i vs hvs;have hv:=aV hO _ _ _ hc.1.2 hvs;obtain⟨hf,hcl⟩:=(hcall f vs h v h' e).1 hc.2;have hr:(execOp a.eval o).run P w=.ok (.enter f (List.toArray (args.toList.map a.eval))) w:=by
     have q:args.map a.eval=List.toArray (args.toList.map a.eval):=Array.ext' (by simp);simp only[execOp,hy,resolve,Act.eval,Deferred.ofValue,Sem.run_bind,Sem.run_pure,Result.andThen_ok,invoke];rw[show((#[]:Array Value)++args.map a.eval++(#[]:Array Value))=List.toArray (args.toList.map a.eval) by simp[q]];exact eU hf
    exact entered hr (hcl m w _ hv H hG).1
   ·cases e
  ·cases hc
 ·rename_i x xs;simp only[bP]at hc;split at hc
  ·rename_i y args ts hy;simp only[Bool.and_eq_true]at hc;split at e
   ·rename_i f first caps hx
    split at e
    ·rename_i vs hvs;have hv:=aV hO _ _ _ hc.2 hvs;have hfx:=hO _ _ _ hc.1 hx;obtain⟨f',c',hfe,rf,rc⟩:=hfx;cases hlt:Nat.blt f YB
     ·rw[hlt]at e;cases e
     ·rw[hlt]at e;simp only[cond_true]at e;obtain⟨hf,hcl⟩:=(hcall f _ h v h' e).1 ((Nat.blt_eq ..).mp hlt);have hr:(execOp a.eval o).run P w=.ok (.enter f (List.toArray (f'++args.toList.map a.eval++c'))) w:=by
       have q:args.map a.eval=List.toArray (args.toList.map a.eval):=Array.ext' (by simp);simp only[execOp,hy,resolve,hfe,Deferred.ofValue,Sem.run_bind,Sem.run_pure,Result.andThen_ok,invoke];rw[show(List.toArray f'++args.map a.eval++List.toArray c')=List.toArray (f'++args.toList.map a.eval++c') by simp[q]];exact eU hf
      exact entered hr (hcl m w _ (VsRel.append (VsRel.append rf hv) rc) H hG).1
    ·cases e
   ·rename_i b hx;split at e
    ·rename_i vs hvs;have hv:=aV hO _ _ _ hc.2 hvs;obtain⟨loc,hm,hfe⟩:=hO _ _ _ hc.1 hx;obtain⟨r,hr1,hr2,hr3⟩:=(hcall _ vs h v h' e).2 (Nat.le_add_right _ _) m w _ loc (by rw[Nat.add_sub_cancel_left];exact hm) hv H hG;refine⟨fun _ _=>trivial,?_⟩;show o.uponIn (FR ro) 0 P a K0 Q ((o.semAt ro a.eval).run P w);rw[hsem];have hr:(execOp a.eval o).run P w=.ok (.round loc.block r.fn ((r.params.zip (List.toArray (args.toList.map a.eval))).foldl (fun tmps (t,a)=>tmps.setIfInBounds t a) r.tmps) r.assign r.body) w:=by
      have q:args.map a.eval=List.toArray (args.toList.map a.eval):=Array.ext' (by simp);simp only[execOp,hy,resolve,hfe,Deferred.ofValue,Sem.run_bind,Sem.run_pure,Result.andThen_ok,invoke];rw[show((#[]:Array Value)++args.map a.eval)=List.toArray (args.toList.map a.eval) by simp[q]];exact run_yield hr1 (by simpa using hr2)
     rw[hr];refine⟨fun q=>absurd q (by simp[Fence.wide]),RoundIn.mono hr3 ?_⟩;rintro en w' ⟨x,m',rfl,r,H',E'⟩;exact hK x w' m' r H' E'
    ·cases e
   ·cases e
  ·cases hc
 ·simp only[bP,Bool.and_eq_true]at hc;split at e
  ·rename_i vs hvs;exact fin (zD H hc.1 (aV hO _ _ _ hc.2 hvs) e)
  ·cases e
 ·simp only[bP,Bool.and_eq_true]at hc;split at e
  ·rename_i x key hvs;split at e
   ·rename_i u hu;cases e;exact fin (zG H hc.1 (aV hO _ _ _ hc.2 hvs) hu)
   ·cases e
  ·cases e
 ·simp only[bP,Bool.and_eq_true]at hc;split at e
  ·rename_i x key val hvs;exact fin (zC H hc.1 (aV hO _ _ _ hc.2 hvs) e)
  ·cases e
 ·simp only[bP,Bool.and_eq_true]at hc;split at e
  ·rename_i d hd;exact fin (wH H hc.1 (one _ _ hc.2 hd) e)
  ·cases e
 ·simp only[bP,Bool.and_eq_true]at hc;split at e
  ·rename_i d hd;split at e
   ·rename_i u hu;cases e;exact fin (wK H hc.1 (one _ _ hc.2 hd) hu)
   ·cases e
  ·cases e
 ·simp only[bP,Bool.false_eq_true]at hc
 ·simp only[bP,Bool.and_eq_true]at hc;split at e
  ·rename_i d hd;exact fin (zJ H hc.1 (one _ _ hc.2 hd) e)
  ·cases e
 ·cases e
variable {K : LG → Prop}
theorem yO(σ:Sg)(t:Nat):dM (zy σ) t=(dM σ t).map pc:=by
 induction σ with
 |nil=>rfl
 |cons p r ih=>
  obtain⟨d,s⟩:=p;simp only[zy,dM];by_cases h:d=t
  ·rw[if_pos h,if_pos h];rfl
  ·rw[if_neg h,if_neg h];exact ih
theorem nU(d:Nat)(σ:Sg)(t:Nat):dM (tA d σ) t=(dM σ t).map (jR d t):=by
 induction σ with
 |nil=>rfl
 |cons p r ih=>
  obtain⟨e,s⟩:=p;simp only[tA,dM];by_cases h:e=t
  ·subst h;rw[if_pos rfl,if_pos rfl];rfl
  ·rw[if_neg h,if_neg h];exact ih
theorem dP(a:Act)(d:Nat)(x:Value)(t:Nat)(hd:d<a.tmps.size):(a.put (some d) x).tmps.getD t undef=if t=d then x else a.tmps.getD t undef:=by
 simp only[Act.put,Array.getD_eq_getD_getElem?];by_cases h:t=d
 ·subst h;rw[if_pos rfl];simp[hd]
 ·rw[if_neg h,Array.getElem?_setIfInBounds_ne (by omega)]
theorem kw(a:Act)(d:Option Nat)(x:Value):(a.put d x).tmps.size=a.tmps.size:=by
 cases d<;>simp[Act.put]
theorem Bp{G:Nat}{s:Src}{y:Opd}{loc:List V}{env:T V}{u v:V}(h:cE G (pc s) y=true)(e:evO (u::loc) env y=some v):
 ∃y',cE G s y'=true∧evO loc env y'=some v:=by
 cases s with
 |l k=>
  simp only[pc]at h;cases y with
  |l j=>
   simp only[cE]at h;have:=Nat.eq_of_beq_eq_true h;subst this;exact⟨.l k,by simp[cE],e⟩
  |_=>simp[cE]at h
 |v s=>
  refine⟨y,h,?_⟩;simp only[pc]at h;cases y<;>simp[cE]at h;exact e
 |x o=>
  refine⟨y,h,?_⟩;simp only[pc,cE]at h;cases y with
  |l k=>cases o<;>simp[mw]at h
  |v s=>cases o<;>simp[mw]at h
  |c x=>exact e
  |g n=>exact e
 |bad=>simp[pc,cE]at h
theorem qC{G:Nat}{d t:Nat}{s:Src}{y:Opd}{loc:List V}{env:T V}{u v:V}(h:cE G (jR d t s) y=true)(e:evO loc (env.set d u) y=some v):
 t≠d∧cE G s y=true∧evO loc env y=some v:=by
 cases s with
 |l k=>
  simp only[jR]at h;by_cases c:t=d
  ·rw[if_pos c]at h;simp[cE]at h
  ·rw[if_neg c]at h;refine⟨c,h,?_⟩;cases y<;>simp[cE]at h;exact e
 |v s=>
  simp only[jR]at h;by_cases c:t=d∨s=d
  ·rw[if_pos c]at h;simp[cE]at h
  ·rw[if_neg c]at h;refine⟨fun q=>c (.inl q),h,?_⟩;cases y<;>simp[cE]at h;subst h;show env.get s=some v;rw[←T.get_set_ne env u (fun q=>c (.inr q))];exact e
 |x o=>
  simp only[jR]at h;by_cases c:t=d
  ·rw[if_pos c]at h;simp[cE]at h
  ·rw[if_neg c]at h;refine⟨c,h,?_⟩;simp only[cE]at h;cases y with
   |l k=>cases o<;>simp[mw]at h
   |v s=>cases o<;>simp[mw]at h
   |c x=>exact e
   |g n=>exact e
 |bad=>
  simp only[jR]at h;by_cases c:t=d<;>simp[c,cE]at h
def iA(loc:List V)(v:V):Option Nat→List V
 |none=>v::loc
 |some _=>loc
noncomputable def fe(env:T V)(v:V):Option Nat→T V
 |none=>env
 |some d=>env.set d v
theorem mH{C:Cx}{m m':M}(hle:Le m m'){loc:List V}{env:T V}{a:Act}{σ:Sg}(hI:Inv C.G m loc env a σ)(hE:ERel C m env a){d s:Option Nat}(hd:uU C d s=true)
 {v:V} {x:Value} (r:VRel m' v x):Inv C.G m' (iA loc v s) (fe env v s) (a.put d x) (xL σ d s)∧ERel C m' (fe env v s) (a.put d x):=by
 have bumpI:∀t s',dM (zy σ) t=some s'→∀y u,cE C.G s' y=true→evO (v::loc) env y=some u→VRel m' u (a.tmps.getD t undef):=by
  intro t s' hs y u hy he;rw[yO]at hs;cases hl:dM σ t with
  |none=>rw[hl]at hs;cases hs
  |some s0=>
   rw[hl]at hs;cases hs;obtain⟨y',h1,h2⟩:=Bp hy he;exact VRel.mono hle _ _ (hI t s0 hl y' u h1 h2)
 unfold uU at hd;split at hd
 ·refine⟨bumpI,hE.1,fun s u hs=>(hE.2.1 s u hs).imp id fun q=>⟨q.1,VRel.mono hle _ _ q.2⟩,hE.2.2⟩
 ·rename_i d;simp only[Bool.and_eq_true,Bool.not_eq_true',Nat.blt_eq]at hd;have hlt:d<a.tmps.size:=by rw[hE.1];exact hd.2
  refine⟨?_,by rw[kw];exact hE.1,fun s u hs=>?_,hE.2.2⟩
  ·intro t s' hs y u hy he;simp only[xL,dM]at hs;rw[dP a d x t hlt];by_cases c:d=t
   ·rw[if_pos c]at hs;cases hs;rw[if_pos c.symm];cases y<;>simp[cE]at hy;subst hy;cases he;exact r
   ·rw[if_neg c]at hs;rw[if_neg (Ne.symm c)];exact bumpI t s' hs y u hy he
  ·rcases hE.2.1 s u hs with q|⟨h1,h2⟩
   ·exact .inl q
   refine .inr ⟨h1,?_⟩;rw[dP a d x s hlt,if_neg (by intro q;subst q;rw[h1]at hd;simp at hd)];exact VRel.mono hle _ _ h2
 ·rename_i d e;simp only[Bool.and_eq_true,Nat.blt_eq]at hd;have:=Nat.eq_of_beq_eq_true hd.1.1;subst this;have hlt:d<a.tmps.size:=by rw[hE.1];exact hd.2
  refine⟨?_,by rw[kw];exact hE.1,fun s u hs=>?_,hE.2.2⟩
  ·intro t s' hs y u hy he;simp only[xL]at hs;rw[nU]at hs;cases hl:dM σ t with
   |none=>rw[hl]at hs;cases hs
   |some s0=>
    rw[hl]at hs;cases hs;obtain⟨hne,h1,h2⟩:=qC hy he;rw[dP a d x t hlt,if_neg hne];exact VRel.mono hle _ _ (hI t s0 hl y u h1 h2)
  ·simp only[fe]at hs;rw[T.get_set]at hs;rw[dP a d x s hlt];by_cases c:s=d
   ·rw[if_pos c]at hs;cases hs;rw[if_pos c];subst c;exact .inr ⟨hd.1.2,r⟩
   ·rw[if_neg c]at hs;rw[if_neg c];exact(hE.2.1 s u hs).imp id fun q=>⟨q.1,VRel.mono hle _ _ q.2⟩
 ·cases hd
theorem uD{C:Cx}{m:M}{loc:List V}{env:T V}{a:Act}{σ:Sg}{ops:Array Oper}(hG:Glob K C.G m)(hI:Inv C.G m loc env a σ)(hE:ERel C m env a){o:Oper}{s:Option (Opd×Bool)}
 (hc:zu C σ ops o.guard s=true) {b:Bool} (e:evG loc env s=some b):Region.wanted o (yielded ops a.tmps)=b:=by
 unfold Region.wanted;unfold zu at hc;split at hc
 ·rename_i hg;rw[hg];cases e;rfl
 ·rename_i j want x want' hg;rw[hg];simp only[Bool.and_eq_true,beq_iff_eq]at hc;obtain⟨rfl,hc⟩:=hc;split at hc
  ·rename_i d hd;simp only[Bool.and_eq_true,Nat.blt_eq]at hc;unfold evG at e;simp only[]at e;split at e
   ·rename_i c hx;cases e;have hr:=eX hG hI hE hc.2 hx;simp only[VRel,Act.eval]at hr;have hlt:d<a.tmps.size:=by rw[hE.1];exact hc.1
    have:a.tmps[d]? =some (.bool c):=by
     rw[Array.getD_eq_getD_getElem?,Array.getElem?_eq_getElem hlt]at hr;rw[Array.getElem?_eq_getElem hlt];simpa using hr
    simp only[yielded,hd,Option.bind_some,this];cases c<;>cases want<;>rfl
   ·rename_i c hx;cases e;have hr:=eX hG hI hE hc.2 hx;simp only[VRel,Act.eval]at hr;obtain⟨c',hr,_⟩:=hr;have hlt:d<a.tmps.size:=by rw[hE.1];exact hc.1
    have:a.tmps[d]? =some (.tuple c'.toArray):=by
     rw[Array.getD_eq_getD_getElem?,Array.getElem?_eq_getElem hlt]at hr;rw[Array.getElem?_eq_getElem hlt];simpa using hr
    simp only[yielded,hd,Option.bind_some,this];cases want<;>rfl
   ·cases e
  ·cases hc
 ·cases hc
theorem vu{C:Cx}{m:M}{loc:List V}{env:T V}{a:Act}{σ:Sg}{ops:Array Oper}(hG:Glob K C.G m)(hI:Inv C.G m loc env a σ)(hE:ERel C m env a){o:Oper}{p:Nat×Src}
 (h:s9 C σ ops o=some p):∃x,o.op=.move x∧o.guard=none∧o.dst=some p.1∧Inv C.G m loc env (a.put o.dst (a.eval x)) (p::σ)∧ERel C m env (a.put o.dst (a.eval x)):=by
 unfold s9 at h;split at h
 ·rename_i x d hop hgd hds;split at h
  ·rename_i hcd;simp only[Bool.and_eq_true,Bool.not_eq_true',Nat.blt_eq]at hcd;have hlt:d<a.tmps.size:=by rw[hE.1];exact hcd.2
   have hE':ERel C m env (a.put (some d) (a.eval x)):=by
    refine⟨by rw[kw];exact hE.1,fun s u hs=>?_,hE.2.2⟩;rcases hE.2.1 s u hs with q|⟨h1,h2⟩
    ·exact .inl q
    refine .inr ⟨h1,?_⟩;rw[dP a d _ s hlt,if_neg (by intro q;subst q;rw[h1]at hcd;simp at hcd)];exact h2
   have hI':∀s0:Src,(∀y v,cE C.G s0 y=true→evO loc env y=some v→VRel m v (a.eval x))→Inv C.G m loc env (a.put (some d) (a.eval x)) ((d,s0)::σ):=by
    intro s0 hs0 t s' hs y u hy he;simp only[dM]at hs;rw[dP a d _ t hlt];by_cases c:d=t
    ·rw[if_pos c]at hs;cases hs;rw[if_pos c.symm];exact hs0 y u hy he
    ·rw[if_neg c]at hs;rw[if_neg (Ne.symm c)];exact hI t s' hs y u hy he
   split at h
   ·rename_i t;split at h
    ·rename_i s hl;split at h
     ·cases h
     ·cases h;exact⟨_,hop,hgd,hds,by rw[hds];exact hI' _ (fun y v hy he=>hI t _ hl y v hy he),by rw[hds];exact hE'⟩
    ·rename_i s hl;cases h;exact⟨_,hop,hgd,hds,by rw[hds];exact hI' _ (fun y v hy he=>hI t _ hl y v hy he),by rw[hds];exact hE'⟩
    ·rename_i hl;split at h
     ·cases h;have key:∀y v,cE C.G (.v t) y=true→evO loc env y=some v→VRel m v (a.eval (.tmp t)):=by
       intro y v hy he;cases y<;>simp[cE]at hy;subst hy;rename_i hcc;simp only[Bool.and_eq_true]at hcc;exact hE.var hcc.1 he
      exact⟨_,hop,hgd,hds,by rw[hds];exact hI' _ key,by rw[hds];exact hE'⟩
     ·cases h
   ·cases h;exact⟨_,hop,hgd,hds,by rw[hds];exact hI' _ (fun y v hy he=>lO hG hy he),by rw[hds];exact hE'⟩
  ·cases h
 ·cases h
theorem gL(a:Act)(d:Option Nat)(x:Value):(a.put d x).defers=a.defers:=by cases d<;>rfl
theorem bU(call:aD)(s:IStep)(l:List IStep)(loc:List V)(env:T V)(h:Heap):cU call (s::l) loc env h=
 match evG loc env s.gd with
  |some true=>(match aK call loc env h s.op with
   |some (v,h)=>cU call l (iA loc v s.dst) (fe env v s.dst) h
   |none=>.fail)
  |some false=>cU call l (iA loc (.tup []) s.dst) (fe env (.tup []) s.dst) h
  |none=>.fail:=by
 show(match evG loc env s.gd with
  |some true=>(match aK call loc env h s.op with
   |some (v,h)=>fV v fun v=>(match s.dst with
    |none=>cU call l (v::loc) env h
    |some d=>cU call l loc (env.set d v) h)
   |none=>.fail)
  |some false=>(match s.dst with
   |none=>cU call l (.tup []::loc) env h
   |some d=>cU call l loc (env.set d (.tup [])) h)
  |none=>.fail)=_
 cases evG loc env s.gd with
 |none=>rfl
 |some b=>
  cases b
  ·cases s.dst<;>rfl
  ·simp only[];cases aK call loc env h s.op with
   |none=>rfl
   |some p=>
    obtain⟨v,h'⟩:=p;simp only[uL];cases s.dst<;>rfl
def DefR(m:M)(v:V)(d:Deferred):Prop:=∃f first caps args A C',v=.tup (.func (.func f) first caps::args)∧f<YB∧
 d={target:=.fn (.func f) (List.toArray C'),args:=List.toArray A}∧VsRel m (first++args) A∧VsRel m caps C'
def DsR(C:Cx)(B:Nat)(m:M)(w:World)(env:T V)(ds:List Deferred):Prop:=
 match C.df,env.get DSL with
 |true,some v=>∃d1 d d2,ds=d1++d::d2∧DefR m v d∧Marks B m w (d1++d2)
 |_,_=>Marks B m w ds
theorem DefR.mono{m m':M}(l:Le m m'){v:V}{d:Deferred}:DefR m v d→DefR m' v d
 |⟨f,first,caps,args,A,C',h1,h2,h3,h4,h5⟩=>⟨f,first,caps,args,A,C',h1,h2,h3,VsRel.mono l _ _ h4,VsRel.mono l _ _ h5⟩
theorem DsR.ext{C:Cx}{B:Nat}{m m':M}{h h':Heap}{w w':World}(E:Ext m h w m' h' w'){env:T V}{ds:List Deferred}(D:DsR C B m w env ds):DsR C B m' w' env ds:=by
 unfold DsR at *;split
 ·rename_i v h1 h2;rw[h1,h2]at D;obtain⟨d1,d,d2,q1,q2,q3⟩:=D;exact⟨d1,d,d2,q1,q2.mono E.le,q3.ext E⟩
 ·rename_i hn;split at D
  ·rename_i v h1 h2;exact absurd h2 (hn v h1)
  ·exact Marks.ext E D
theorem DsR.congr{C:Cx}{B:Nat}{m:M}{w:World}{env env':T V}{ds:List Deferred}(e:env'.get DSL=env.get DSL)(D:DsR C B m w env ds):DsR C B m w env' ds:=by
 unfold DsR at *;rw[e];exact D
theorem DsR.push{C:Cx}{B:Nat}{m:M}{w:World}{env:T V}{ds:List Deferred}(D:DsR C B m w env ds){r:Nat}(h1:B≤r)(h2:w.heap[r]? =some (.deferred (some [])))(h3:Off m r)(h4:∀d∈ds,d.target≠.collected r):
 DsR C B m w env ({target:=.collected r,args:= #[]}::ds):=by
 unfold DsR at *;split
 ·rename_i v e1 e2;rw[e1,e2]at D;obtain⟨d1,d,d2,q1,q2,q3⟩:=D;refine⟨{target:=.collected r,args:= #[]}::d1,d,d2,by rw[q1];rfl,q2,⟨r,rfl,h1,h2,h3,fun d' hd=>h4 d' ?_⟩,q3⟩;rw[q1];have hd:d'∈d1++d2:=hd;rw[List.mem_append]at hd;rw[List.mem_append,List.mem_cons];rcases hd with q|q
  ·exact .inl q
  ·exact .inr (.inr q)
 ·rename_i hn;split at D
  ·rename_i v e1 e2;exact absurd e2 (hn v e1)
  ·exact⟨⟨r,rfl,h1,h2,h3,h4⟩,D⟩
theorem uV{C:Cx}{m:M}{env:T V}{a:Act}(hE:ERel C m env a){d s:Option Nat}(hd:uU C d s=true)(v:V):(fe env v s).get DSL=env.get DSL:=by
 cases s with
 |none=>rfl
 |some t=>
  cases d with
  |none=>cases hd
  |some d=>
   simp only[uU,Bool.and_eq_true]at hd;have:=Nat.eq_of_beq_eq_true hd.1.1;subst this;simp only[fe];rw[T.get_set_ne];intro q;rw[←q,hE.2.2]at hd;simp at hd
theorem tG{P:Program}{C:Cx}{call:aD}(hcall:dE P K C.G call){ops:Array Oper}{Q:Exit→Act→World→Prop}{ro:Option Nat}{B:Nat}(hro:C.df=true→ro=none):
 ∀(os:List Oper)(i:Nat)(steps:List IStep)(σ:Sg)(loc:List V)(env:T V)(h:Heap)(m:M)(a:Act)(w:World)(ex:Ex)(env':T V)(h':Heap),
  ops.toList.drop i=os→fw P C ops os steps σ=true→Glob K C.G m→Inv C.G m loc env a σ→ERel C m env a→HRel m h w→DsR C B m w env a.defers→
  cU call steps loc env h=.ok ex env' h'→
  (∀a' w' m',ex=.norm→ERel C m' env' a'→HRel m' h' w'→Ext m h w m' h' w'→DsR C B m' w' env' a'.defers→Q .normal a' w')→
  wpOpsIn (FR ro) 0 P ops Q (List.range' i os.length) a w:=by
 intro os;induction os with
 |nil=>
  intro i steps σ loc env h m a w ex env' h' hdrop hchk hG hI hE H hD e hQ;cases steps with
  |nil=>
   cases e;exact hQ a w m rfl hE H (Ext.refl _ _ _) hD
  |cons s l=>simp[fw]at hchk
 |cons o os ih=>
  intro i steps σ loc env h m a w ex env' h' hdrop hchk hG hI hE H hD e hQ;have hoi:ops[i]? =some o:=by
   have:(ops.toList.drop i)[0]? =some o:=by rw[hdrop];rfl
   rw[List.getElem?_drop]at this;simpa using this
  have hdrop':ops.toList.drop (i+1)=os:=by
   rw[←List.drop_drop,hdrop];rfl
  simp only[List.length_cons,List.range'_succ];rw[wpOpsIn_cons];unfold wpOpIn;rw[hoi];simp only[];unfold fw at hchk;split at hchk
  ·rename_i p hal;obtain⟨x,hop,hgd,hds,hI',hE'⟩:=vu hG hI hE hal;have hw:Region.wanted o (yielded ops a.tmps)=true:=by unfold Region.wanted;rw[hgd]
   rw[if_pos hw];refine⟨fun _ _=>trivial,?_⟩;show o.uponIn (FR ro) 0 P a _ Q ((o.semAt ro a.eval).run P w);have hr:(o.semAt ro a.eval).run P w=.ok (.value (a.eval x)) w:=by
    rw[Oper.semAt_eq ro a.eval o (fun c hcc=>by rw[hop]at hcc;cases hcc)];simp[execOp,hop]
   rw[hr];exact ih (i+1) steps (p::σ) loc env h m _ w ex env' h' hdrop' hchk hG hI' hE' H (by rw[gL];exact hD) e hQ
  ·split at hchk
   ·cases hchk
   ·rename_i s rest;simp only[Bool.or_eq_true,Bool.and_eq_true]at hchk;rw[bU]at e;rcases hchk with⟨⟨⟨hcg,hco⟩,hcd⟩,hrest⟩|⟨hcf,hrest⟩
    ·cases hg:evG loc env s.gd with
     |none=>rw[hg]at e;cases e
     |some b=>
      rw[hg]at e;have hw:=uD hG hI hE hcg hg;cases b
      ·simp only[]at e;rw[if_neg (by rw[hw];simp)];refine⟨fun _ _=>trivial,?_⟩;obtain⟨hI',hE'⟩:=mH (fun _ _ x=>x) hI hE hcd (v:=.tup []) (x:=undef) ⟨[],rfl,rfl⟩;exact ih (i+1) rest _ _ _ h m _ w ex env' h' hdrop' hrest hG hI' hE' H (by rw[gL];exact hD.congr (uV hE hcd _)) e hQ
      ·simp only[]at e;rw[if_pos hw];cases hop:aK call loc env h s.op with
       |none=>rw[hop]at e;cases e
       |some p=>
        obtain⟨v,h1⟩:=p;rw[hop]at e;simp only[]at e;refine nQ hcall hG (fun o y v h1 h2=>eX hG hI hE h1 h2) H hco hop (fun x w' m' r H' E'=>?_);obtain⟨hI',hE'⟩:=mH E'.le hI hE hcd r;exact ih (i+1) rest _ _ _ h1 m' _ w' ex env' h' hdrop' hrest (hG.ext E') hI' hE' H' (by rw[gL];exact(hD.ext E').congr (uV hE hcd _)) e
         (fun a' w'' m'' h1 h2 h3 h4 h5=>hQ a' w'' m'' h1 h2 h3 (E'.trans h4) h5)
    ·
     unfold EM at hcf;simp only[Bool.and_eq_true]at hcf;obtain⟨⟨⟨⟨hdf,hsd⟩,hod⟩,hgd⟩,hop⟩:=hcf;split at hop
     ·rename_i x xs hsop;split at hop
      ·rename_i y args ts hy;simp only[Bool.and_eq_true]at hop;split at hsd
       ·rename_i d hsd';have:=Nat.eq_of_beq_eq_true hsd;subst this;split at hod
        ·rename_i hod';split at hgd
         ·rename_i g1 g2;have hro':=hro hdf;subst hro';have hw:Region.wanted o (yielded ops a.tmps)=true:=by unfold Region.wanted;rw[g1]
          rw[if_pos hw];rw[g2,hsop]at e;simp only[evG,aK]at e;split at e
          ·rename_i v h1 hev;split at hev
           ·rename_i f first caps hx
            split at hev
            ·rename_i vs hvs;split at hev
             ·cases hev
             ·rename_i hnone;cases hlt:Nat.blt f YB
              ·rw[hlt]at hev;cases hev
              ·rw[hlt]at hev;simp only[cond_true,Option.some.injEq,Prod.mk.injEq]at hev;obtain⟨rfl,rfl⟩:=hev;have hO:zV C m σ loc env a:=fun o y v h1 h2=>eX hG hI hE h1 h2;have hv:=aV hO _ _ _ hop.2 hvs;obtain⟨f',c',hfe,rf,rc⟩:=hO _ _ _ hop.1 hx;refine⟨fun _ _=>trivial,?_⟩;show o.uponIn (FR none) 0 P a _ Q ((o.semAt none a.eval).run P w);have hr:(o.semAt none a.eval).run P w=.ok (.defer {target:=.fn (.func f) (List.toArray c'),args:=List.toArray (f'++args.toList.map a.eval)}) w:=by
                have q:args.map a.eval=List.toArray (args.toList.map a.eval):=Array.ext' (by simp);rw[Oper.semAt_none];simp only[execOp,hy,resolve,hfe,Deferred.ofValue,Sem.run_bind,Sem.run_pure,Result.andThen_ok];rw[show(List.toArray f'++args.map a.eval)=List.toArray (f'++args.toList.map a.eval) by simp[q]]
               rw[hr];show wpOpsIn (FR none) 0 P ops Q (List.range' (i+1) os.length) (Act.put _ o.dst undef) w;rw[hod',hsd']at *;have hI':Inv C.G m loc (env.set DSL (.tup (.func (.func f) first caps::vs))) {a with defers:={target:=.fn (.func f) (List.toArray c'),args:=List.toArray (f'++args.toList.map a.eval)}::a.defers} (xJ σ):=by
                intro t s' hs y u hy he;unfold xJ at hs;rw[nU]at hs;cases hl:dM σ t with
                |none=>rw[hl]at hs;cases hs
                |some s0=>
                 rw[hl]at hs;cases hs;obtain⟨hne,h1,h2⟩:=qC hy he;exact hI t s0 hl y u h1 h2
               have hE':ERel C m (env.set DSL (.tup (.func (.func f) first caps::vs))) {a with defers:={target:=.fn (.func f) (List.toArray c'),args:=List.toArray (f'++args.toList.map a.eval)}::a.defers}:=by
                refine⟨hE.1,fun s u hs=>?_,hE.2.2⟩;rw[T.get_set]at hs;by_cases c:s=DSL
                ·exact .inl c
                ·rw[if_neg c]at hs;exact hE.2.1 s u hs
               refine ih (i+1) rest (xJ σ) loc _ h m _ w ex env' h' hdrop' hrest hG hI' hE' H ?_ e hQ;unfold DsR at hD⊢;rw[hdf,T.get_set_self];rw[hdf,hnone]at hD;exact⟨[],_,a.defers,rfl,⟨f,first,caps,vs,_,c',rfl,(Nat.blt_eq ..).mp hlt,rfl,VsRel.append rf hv,rc⟩,hD⟩
            ·cases hev
           ·cases hev
          ·cases e
         ·cases hgd
        ·cases hod
       ·cases hsd
      ·cases hop
     ·cases hop
def yr(call:aD)(env:T V):List DS→List V→Heap→List V→List Heap→Prop
 |[],_,_,vs,hp=>vs=[]∧hp=[]
 |s::l,loc,h,vs,hp=>∃v vs' h',vs=v::vs'∧
  (((∃c,s.2=some (v,c)∧bI loc env s.1.op v c=true)∧h'=h)∨(s.2=none∧evG loc env s.1.gd=some true∧aK call loc env h s.1.op=some (v,h'))∨(s.2=none∧evG loc env s.1.gd=some false∧v=.tup []∧h'=h))∧
  ((dT s=true∧∃hp',hp=h'::hp'∧yr call env l (v::loc) h' vs' hp')∨(dT s=false∧h'=h∧yr call env l (v::loc) h vs' hp))
theorem qB{call:aD}{loc:List V}{env:T V}{h h':Heap}{o:IOp}{v:V}(he:eff o=false)(e:aK call loc env h o=some (v,h')):h'=h:=by
 cases o<;>simp[eff]at he<;>simp only[aK]at e;all_goals
  split at e
  ·split at e
   ·cases e;rfl
   ·cases e
  ·cases e
theorem zg{call:aD}{loc:List V}{env:T V}{h h':Heap}{k:PK}{xs:List Opd}{v:V}(e:aK call loc env h (.p k xs)=some (v,h'))(g:Heap):aK call loc env g (.p k xs)=some (v,g):=by
 simp only[aK]at e⊢;split at e
 ·rename_i vs hvs;split at e
  ·rename_i u hu;cases e;rfl
  ·cases e
 ·cases e
theorem qE(call:aD)(env:T V)(s:DS)(l:List DS)(loc:List V)(hs:List Heap)(h:Heap):fE call env (s::l) loc hs h=match s.2 with
      |some (u,c)=>bif bI loc env s.1.op u c then fE call env l (u::loc) hs h else none
      |none=>(match evG loc env s.1.gd with
       |some true=>(match aK call loc env h s.1.op with
        |some (v,h')=>fV v fun v=>bif eff s.1.op then fE call env l (v::loc) (h'::hs) h' else fE call env l (v::loc) hs h
        |none=>none)
       |some false=>bif eff s.1.op then fE call env l (.tup []::loc) (h::hs) h else fE call env l (.tup []::loc) hs h
       |none=>none):=rfl
theorem gq{call:aD}{env:T V}:∀(l:List DS)(loc:List V)(hs:List Heap)(h:Heap)(locF:List V)(hsF:List Heap),fE call env l loc hs h=some (locF,hsF)→
 ∃vs hp,yr call env l loc h vs hp∧locF=vs.reverse++loc∧hsF=hp.reverse++hs
 |[],loc,hs,h,locF,hsF,e=>by cases e;exact⟨[],[],⟨rfl,rfl⟩,rfl,rfl⟩
 |(s,some (u,cs))::l,loc,hs,h,locF,hsF,e=>by
  rw[qE]at e;simp only[]at e;cases hl:bI loc env s.op u cs
  ·rw[hl]at e;cases e
  ·rw[hl]at e;simp only[cond_true]at e;obtain⟨vs,hp,c,rfl,rfl⟩:=gq l _ _ _ _ _ e;exact⟨u::vs,hp,⟨u,vs,h,rfl,.inl ⟨⟨cs,rfl,hl⟩,rfl⟩,.inr ⟨rfl,rfl,c⟩⟩,by simp,rfl⟩
 |(s,none)::l,loc,hs,h,locF,hsF,e=>by
  rw[qE]at e;simp only[]at e;cases hg:evG loc env s.gd with
  |none=>rw[hg]at e;cases e
  |some b=>
   rw[hg]at e;cases b
   ·simp only[]at e;cases he:eff s.op
    ·rw[he]at e;simp only[cond_false]at e;obtain⟨vs,hp,c,rfl,rfl⟩:=gq l _ _ _ _ _ e;exact⟨.tup []::vs,hp,⟨.tup [],vs,h,rfl,.inr (.inr ⟨rfl,hg,rfl,rfl⟩),.inr ⟨he,rfl,c⟩⟩,by simp,rfl⟩
    ·rw[he]at e;simp only[cond_true]at e;obtain⟨vs,hp,c,rfl,rfl⟩:=gq l _ _ _ _ _ e;exact⟨.tup []::vs,h::hp,⟨.tup [],vs,h,rfl,.inr (.inr ⟨rfl,hg,rfl,rfl⟩),.inl ⟨he,hp,rfl,c⟩⟩,by simp,by simp⟩
   ·simp only[]at e;cases ho:aK call loc env h s.op with
    |none=>rw[ho]at e;cases e
    |some p=>
     obtain⟨v,h'⟩:=p;rw[ho]at e;simp only[uL]at e;cases he:eff s.op
     ·rw[he]at e;simp only[cond_false]at e;obtain⟨vs,hp,c,rfl,rfl⟩:=gq l _ _ _ _ _ e;have:=qB he ho;subst this;exact⟨v::vs,hp,⟨v,vs,h',rfl,.inr (.inl ⟨rfl,hg,ho⟩),.inr ⟨he,rfl,c⟩⟩,by simp,rfl⟩
     ·rw[he]at e;simp only[cond_true]at e;obtain⟨vs,hp,c,rfl,rfl⟩:=gq l _ _ _ _ _ e;exact⟨v::vs,h'::hp,⟨v,vs,h',rfl,.inr (.inl ⟨rfl,hg,ho⟩),.inl ⟨he,hp,rfl,c⟩⟩,by simp,by simp⟩
def fm(l:List DS)(i:Nat):Nat:=((l.take i).filter dT).length
theorem pa{call:aD}{env:T V}:∀(l:List DS)(loc:List V)(h:Heap)(vs:List V)(hp:List Heap),yr call env l loc h vs hp→
 vs.length=l.length∧hp.length=fm l l.length∧∀(i:Nat) s,l[i]? =some s→∃v hb ha,vs[i]? =some v∧(h::hp)[fm l i]? =some hb∧
  (((∃c,s.2=some (v,c)∧bI ((vs.take i).reverse++loc) env s.1.op v c=true)∧ha=hb)∨(s.2=none∧evG ((vs.take i).reverse++loc) env s.1.gd=some true∧aK call ((vs.take i).reverse++loc) env hb s.1.op=some (v,ha))∨(s.2=none∧evG ((vs.take i).reverse++loc) env s.1.gd=some false∧v=.tup []∧ha=hb))∧
  (dT s=true→(h::hp)[fm l i+1]? =some ha)∧(dT s=false→ha=hb)
 |[],loc,h,vs,hp,c=>by
  obtain⟨rfl,rfl⟩:=c;refine⟨rfl,rfl,fun i s hi=>by simp at hi⟩
 |s::l,loc,h,vs,hp,c=>by
  obtain⟨v,vs',h',rfl,hv,hc⟩:=c;rcases hc with⟨he,hp',rfl,c⟩|⟨he,rfl,c⟩
  ·obtain⟨l1,l2,l3⟩:=pa l (v::loc) h' vs' hp' c;refine⟨by simp[l1],by simp[fm,he]at l2⊢;exact l2,fun i t hi=>?_⟩;cases i with
   |zero=>
    simp at hi;subst hi;refine⟨v,h,h',rfl,by simp[fm],by simpa using hv,fun _=>by simp[fm],fun q=>by rw[he]at q;cases q⟩
   |succ i=>
    obtain⟨u,hb,ha,a1,a2,a3,a4,a5⟩:=l3 i t (by simpa using hi);refine⟨u,hb,ha,by simpa using a1,?_,by simpa using a3,fun q=>?_,a5⟩
    ·simpa[fm,he]using a2
    ·simpa[fm,he]using a4 q
  ·obtain⟨l1,l2,l3⟩:=pa l (v::loc) h' vs' hp c;refine⟨by simp[l1],by simp[fm,he]at l2⊢;exact l2,fun i t hi=>?_⟩;cases i with
   |zero=>
    simp at hi;subst hi;refine⟨v,h',h',rfl,by simp[fm],by simpa using hv,fun q=>(by rw[he]at q;cases q),fun _=>rfl⟩
   |succ i=>
    obtain⟨u,hb,ha,a1,a2,a3,a4,a5⟩:=l3 i t (by simpa using hi);refine⟨u,hb,ha,by simpa using a1,?_,by simpa using a3,fun q=>?_,a5⟩
    ·simpa[fm,he]using a2
    ·simpa[fm,he]using a4 q
theorem jZ{call:aD}{env:T V}{late:List Nat}:∀(l:List IStep)(i:Nat)(loc:List V)(h:Heap)(r:List DS)(h':Heap),lay call env late l i loc h=some (r,h')→r.length=l.length
 |[],i,loc,h,r,h',e=>by simp only[lay,Option.some.injEq,Prod.mk.injEq]at e;obtain⟨rfl,_⟩:=e;rfl
 |s::l,i,loc,h,r,h',e=>by
  simp only[lay]at e;cases hc:late.contains i
  ·rw[hc]at e;simp only[cond_false]at e;split at e
   ·rename_i r' h2 h3;cases e;simp[jZ l _ _ _ _ _ h3]
   ·cases e
  ·rw[hc]at e;simp only[cond_true]at e;split at e
   ·split at e
    ·rename_i r' h2 h3;cases e;simp[jZ l _ _ _ _ _ h3]
    ·cases e
   ·cases e
theorem yQ(id:Nat)(k:Option (Nat×Nat)):lid (dy id k)=id:=by cases k<;>rfl
theorem we{call:aD}{env:T V}{late:List Nat}:∀(l:List IStep)(i:Nat)(loc:List V)(h:Heap)(r:List DS)(h':Heap),lay call env late l i loc h=some (r,h')→
 (∀(j:Nat) s,l[j]? =some s→(late.contains (i+j)=false∧r[j]? =some (s,none))∨
  (late.contains (i+j)=true∧∃u c,r[j]? =some (s,some (u,c))∧h.next≤lid u∧lid u<h'.next∧h'.bl.get (lid u)=some (.row c (lid u) 0)))∧
 (∀(j k:Nat) s t u v cu cv,j<k→r[j]? =some (s,some (u,cu))→r[k]? =some (t,some (v,cv))→lid u<lid v)∧(∀(j:Nat) s u cu,r[j]? =some (s,some (u,cu))→h.next≤lid u)∧
 h.next≤h'.next∧(∀p,p<h.next→h'.bl.get p=h.bl.get p)∧∀m w,HRel m h w→HRel m h' w
 |[],i,loc,h,r,h',e=>by
  simp only[lay,Option.some.injEq,Prod.mk.injEq]at e;obtain⟨rfl,rfl⟩:=e;exact⟨fun j s hj=>by simp at hj,fun j k s t u v _ _ _ hj=>by simp at hj,fun j s u _ hj=>by simp at hj,Nat.le_refl _,fun _ _=>rfl,fun _ _ H=>H⟩
 |s::l,i,loc,h,r,h',e=>by
  simp only[lay]at e;cases hc:late.contains i
  ·rw[hc]at e;simp only[cond_false]at e;split at e
   ·rename_i r' h2 h3;cases e;obtain⟨a3,a4,a5,a1,a2,a6⟩:=we l _ _ _ _ _ h3;refine⟨fun j t hj=>?_,fun j k s' t u v cu cv hjk hj hk=>?_,fun j s' u cu hj=>?_,a1,a2,a6⟩
    ·cases j with
     |zero=>simp at hj;subst hj;exact .inl ⟨by simpa using hc,rfl⟩
     |succ j=>
      rcases a3 j t (by simpa using hj)with⟨b1,b2⟩|⟨b1,u,c,b2,b3⟩
      ·exact .inl ⟨by rw[show i+(j+1)=i+1+j by omega];exact b1,by simpa using b2⟩
      ·exact .inr ⟨by rw[show i+(j+1)=i+1+j by omega];exact b1,u,c,by simpa using b2,b3⟩
    ·cases j with
     |zero=>simp at hj
     |succ j=>cases k with
      |zero=>omega
      |succ k=>exact a4 j k s' t u v cu cv (by omega) (by simpa using hj) (by simpa using hk)
    ·cases j with
     |zero=>simp at hj
     |succ j=>exact a5 j s' u cu (by simpa using hj)
   ·cases e
  ·rw[hc]at e;simp only[cond_true]at e;split at e
   ·rename_i c kk hlc;split at e
    ·rename_i r' h2 h3;cases e;obtain⟨a3,a4,a5,a1,a2,a6⟩:=we l _ _ _ _ _ h3;have hnx:(halloc h c).next=h.next+1:=rfl;rw[hnx]at a1 a2 a5;have hlid:=yQ h.next kk;refine⟨fun j t hj=>?_,fun j k s' t u v cu cv hjk hj hk=>?_,fun j s' u cu hj=>?_,by omega,fun p hp=>?_,fun m w H=>a6 m w ?_⟩
     ·cases j with
      |zero=>
       simp at hj;subst hj;refine .inr ⟨by simpa using hc,dy h.next kk,c,rfl,by omega,by omega,?_⟩;rw[hlid,a2 _ (by omega),halloc,T.get_set_self]
      |succ j=>
       rcases a3 j t (by simpa using hj)with⟨b1,b2⟩|⟨b1,u,c',b2,b5,b6,b7⟩
       ·exact .inl ⟨by rw[show i+(j+1)=i+1+j by omega];exact b1,by simpa using b2⟩
       ·rw[hnx]at b5;exact .inr ⟨by rw[show i+(j+1)=i+1+j by omega];exact b1,u,c',by simpa using b2,by omega,b6,b7⟩
     ·cases j with
      |zero=>
       simp at hj;obtain⟨rfl,rfl,rfl⟩:=hj;cases k with
       |zero=>omega
       |succ k=>have:=a5 k t v cv (by simpa using hk);rw[hlid];omega
      |succ j=>cases k with
       |zero=>omega
       |succ k=>exact a4 j k s' t u v cu cv (by omega) (by simpa using hj) (by simpa using hk)
     ·cases j with
      |zero=>simp at hj;obtain⟨rfl,rfl,rfl⟩:=hj;rw[hlid];exact Nat.le_refl _
      |succ j=>have:=a5 j s' u cu (by simpa using hj);omega
     ·rw[a2 p (by omega),halloc,T.get_set_ne _ _ (by omega)]
     ·have hold:∀p loc,m p=some loc→p≠h.next:=fun p loc hp q=>by subst q;rw[H.unmapped (Nat.le_refl _)]at hp;cases hp
      refine⟨⟨?_,?_⟩,?_,H.inb,?_⟩
      ·intro p cp f k hp;show match h.fams.get f with|none=>f=p|some (_,e)=>k≤e
       rw[halloc,T.get_set]at hp;by_cases q:p=h.next
       ·rw[if_pos q]at hp;cases hp;rw[(H.wf.fresh h.next (Nat.le_refl _)).2];exact q.symm
       ·rw[if_neg q]at hp;exact H.wf.fam _ _ _ _ hp
      ·intro p hp;have hp':h.next+1≤p:=hp;refine⟨?_,(H.wf.fresh p (by omega)).2⟩;rw[halloc,T.get_set_ne _ _ (by omega)];exact(H.wf.fresh p (by omega)).1
      ·intro p loc hp;obtain⟨b,hb,rb⟩:=H.blk p loc hp;exact⟨b,by rw[halloc,T.get_set_ne _ _ (hold p loc hp)];exact hb,rb.mono (fun _ _ x=>x) (fun _ _ _ _ x=>x) rfl⟩
      ·intro p q lp lq hp hq he hne;obtain⟨cp,cq,f,kp,kq,b1,b2,b3⟩:=H.sep p q lp lq hp hq he hne;exact⟨cp,cq,f,kp,kq,by rw[halloc,T.get_set_ne _ _ (hold p lp hp)];exact b1,by rw[halloc,T.get_set_ne _ _ (hold q lq hq)];exact b2,b3⟩
    ·cases e
   ·cases e
def kC(late:List Nat):List IStep→Nat→List DS
 |[],_=>[]
 |s::l,i=>(s,bif late.contains i then some (.nilp,[])else none)::kC late l (i+1)
theorem jY{call:aD}{env:T V}{late:List Nat}:∀(l:List IStep)(i:Nat)(loc:List V)(h:Heap)(r:List DS)(h':Heap),lay call env late l i loc h=some (r,h')→(kC late l i).map dT=r.map dT
 |[],i,loc,h,r,h',e=>by simp only[lay,Option.some.injEq,Prod.mk.injEq]at e;obtain⟨rfl,_⟩:=e;rfl
 |s::l,i,loc,h,r,h',e=>by
  simp only[lay]at e;cases hc:late.contains i
  ·rw[hc]at e;simp only[cond_false]at e;split at e
   ·rename_i r' h2 h3;cases e;simp only[kC,hc,cond_false,List.map_cons,jY l _ _ _ _ _ h3]
   ·cases e
  ·rw[hc]at e;simp only[cond_true]at e;split at e
   ·split at e
    ·rename_i r' h2 h3;cases e;simp only[kC,hc,cond_true,List.map_cons,jY l _ _ _ _ _ h3];rfl
    ·cases e
   ·cases e
def bef(B:List Nat)(i j:Nat):Bool:=Nat.testBit (B.getD i 0) j
def FU(ops:Array Oper)(B:List Nat):Bool:=
 (List.range ops.size).all fun i=>(List.range ops.size).all fun j=> !bef B i j||
  (match ops[i]? with
   |some o=>o.after.toList.any fun e=>Region.binds .any e&&Nat.blt e.on i&&(Nat.beq e.on j||bef B e.on j)
   |none=>false)
def lF(md:Region.Mode)(ops:Array Oper)(R:Nat→Nat):Bool:=
 (List.range ops.size).all fun i=>match ops[i]? with
  |some o=>o.after.toList.all fun e=> !Region.binds md e||(Nat.blt (R e.on) (R i)&&Nat.blt e.on ops.size)
  |none=>false
def vf(ops:Array Oper)(R:List Nat):Bool:=lF .any ops id&&lF .text ops id&&lF .gc ops (fun i=>R.getD i 0)
def dN(ops:Array Oper)(B:List Nat)(i:Nat):List Nat→Sg
 |[]=>[]
 |j::js=>match(ops[j]?).bind (·.dst)with
  |some t=>if bef B i j then(t,.l (i-1-j))::dN ops B i js
              else if i=j∨bef B j i=true then dN ops B i js
              else(t,.bad)::dN ops B i js
  |none=>dN ops B i js
def sig(ops:Array Oper)(B:List Nat)(i:Nat):Sg:=dN ops B i (List.range ops.size)
def Hj:IOp→Bool
 |.ld _ _ _=>true
 |.lk _ _ _ _=>true
 |.b2s _=>true
 |_=>false
def bX(l:List DS):List Nat:=(List.range l.length).filter fun i=>match l[i]? with|some s=>dT s|none=>false
def Aw(l:List DS)(B:List Nat)(reads:List (Nat×Nat×Nat))(i:Nat):Bool:=
 reads.any fun(r:Nat×Nat×Nat)=>Nat.beq r.1 i&&Nat.ble r.2.1 ((bX l).filter fun e=>bef B i e).length&&Nat.ble ((bX l).length-((bX l).filter fun e=>bef B e i).length) r.2.2
def Bs(C:Cx)(ops:Array Oper)(sets:List (Nat×Nat)):Bool:=
 ((List.range ops.size).all fun i=>match(ops[i]?).bind (·.dst)with
  |some t=>Nat.blt t C.N&&(!C.vars.contains t||sets.contains (t,i))&&(List.range ops.size).all (fun j=>Nat.beq i j||(match(ops[j]?).bind (·.dst)with|some u=> !Nat.beq t u|none=>true))
  |none=>true)&&
 sets.all fun(p:Nat×Nat)=>Nat.blt p.2 ops.size&&C.vars.contains p.1&&(match(ops[p.2]?).bind (·.dst)with|some t=>Nat.beq t p.1|none=>false)
def Ioa(P:Program)(C:Cx)(ops:Array Oper)(l:List IStep)(late B R:List Nat)(reads:List (Nat×Nat×Nat))(sets:List (Nat×Nat)):Bool:=
 Nat.beq ops.size l.length&&vf ops R&&FU ops B&&Bs C ops sets&&
 ((List.range ops.size).all fun i=>match ops[i]?,l[i]? with
  |some o,some s=>zu C (sig ops B i) ops o.guard s.gd&&jN P C (sig ops B i) o s.op&&(!Hj s.op||Aw (kC late l 0) B reads i)&&(!late.contains i||o.guard.isNone)
  |_,_=>false)&&
 ((bX (kC late l 0)).all fun i=>(bX (kC late l 0)).all fun j=> !Nat.blt i j||bef B j i)
theorem cg{n:Nat}{p:Nat→Bool}(h:(List.range n).all p=true){i:Nat}(hi:i<n):p i=true:=List.all_eq_true.1 h i (by simpa using hi)
abbrev dn(L:Array Bool)(i:Nat):Prop:=L.getD i false=true
theorem gu{ops:Array Oper}{B:List Nat}(hB:FU ops B=true){L:Array Bool}(hcl:∀i o,ops[i]? =some o→dn L i→∀e∈o.after,Region.binds .any e=true→dn L e.on):
 ∀(i:Nat) o,ops[i]? =some o→(∀e∈o.after,Region.binds .any e=true→dn L e.on)→∀j,bef B i j=true→j<ops.size→dn L j:=by
 intro i;induction i using Nat.strongRecOn with
 |_ i ih=>
  intro o ho hed j hb hj;have hi:i<ops.size:=(Array.getElem?_eq_some_iff.1 ho).1;have h1:=cg (cg hB hi) hj;simp only[hb,Bool.not_true,Bool.false_or,ho]at h1;obtain⟨e,he,h2⟩:=List.any_eq_true.1 h1;simp only[Bool.and_eq_true,Nat.blt_eq,Bool.or_eq_true]at h2;have hde:=hed e (by simpa using he) h2.1.1;rcases h2.2 with q|q
  ·have:=Nat.eq_of_beq_eq_true q;subst this;exact hde
  ·have hle:e.on<ops.size:=by have:=h2.1.2;omega
   exact ih e.on h2.1.2 _ (Array.getElem?_eq_getElem hle) (hcl e.on _ (Array.getElem?_eq_getElem hle) hde) j q hj
theorem iB{ops:Array Oper}{B:List Nat}{i:Nat}:∀(js:List Nat) t s,dM (dN ops B i js) t=some s→∃j,j∈js∧(ops[j]?).bind (·.dst)=some t∧((bef B i j=true∧s=.l (i-1-j))∨s=.bad)
 |[],t,s,h=>by simp[dN,dM]at h
 |j::js,t,s,h=>by
  simp only[dN]at h;split at h
  ·rename_i u hu;split at h
   ·rename_i hb;simp only[dM]at h;by_cases c:u=t
    ·rw[if_pos c]at h;cases h;subst c;exact⟨j,by simp,hu,.inl ⟨hb,rfl⟩⟩
    ·rw[if_neg c]at h;obtain⟨j',h1,h2⟩:=iB js t s h;exact⟨j',by simp[h1],h2⟩
   ·split at h
    ·obtain⟨j',h1,h2⟩:=iB js t s h;exact⟨j',by simp[h1],h2⟩
    ·simp only[dM]at h;by_cases c:u=t
     ·rw[if_pos c]at h;cases h;subst c;exact⟨j,by simp,hu,.inr rfl⟩
     ·rw[if_neg c]at h;obtain⟨j',h1,h2⟩:=iB js t s h;exact⟨j',by simp[h1],h2⟩
  ·obtain⟨j',h1,h2⟩:=iB js t s h;exact⟨j',by simp[h1],h2⟩
theorem jI{ops:Array Oper}{B:List Nat}{i:Nat}:∀(js:List Nat) t,dM (dN ops B i js) t=none→∀j∈js,(ops[j]?).bind (·.dst)=some t→bef B i j=false∧(i=j∨bef B j i=true)
 |[],t,h,j,hj,_=>by simp at hj
 |k::js,t,h,j,hj,hd=>by
  simp only[dN]at h;rcases List.mem_cons.1 hj with rfl|hj
  ·rw[hd]at h;simp only[]at h;cases hb:bef B i j
   ·simp only[hb,Bool.false_eq_true,if_false]at h;by_cases c:i=j∨bef B j i=true
    ·exact⟨rfl,c⟩
    ·rw[if_neg c]at h;simp[dM]at h
   ·simp[hb,dM]at h
  ·have:dM (dN ops B i js) t=none:=by
    split at h
    ·rename_i u hu;split at h
     ·simp only[dM]at h;by_cases c:u=t
      ·rw[if_pos c]at h;cases h
      ·rw[if_neg c]at h;exact h
     ·split at h
      ·exact h
      ·simp only[dM]at h;by_cases c:u=t
       ·rw[if_pos c]at h;cases h
       ·rw[if_neg c]at h;exact h
    ·exact h
   exact jI js t this j hj hd
noncomputable def cnt(l:List DS)(L:Array Bool):Nat:=((bX l).filter fun e=>L.getD e false).length
theorem lL{α:Type}{p q:α→Bool}:∀(l:List α),(∀x∈l,p x=true→q x=true)→(l.filter p).length≤(l.filter q).length
 |[],_=>by simp
 |x::l,h=>by
  have ih:=lL l fun y hy=>h y (by simp[hy]);by_cases hp:p x=true
  ·have hq:=h x (by simp) hp;simp[hp,hq];exact ih
  ·by_cases hq:q x=true
   ·simp[hp,hq];omega
   ·simp[hp,hq];exact ih
theorem kK{α:Type}{p q:α→Bool}:∀(l:List α),(∀x∈l,p x=true→q x=false)→(l.filter p).length+(l.filter q).length≤l.length
 |[],_=>by simp
 |x::l,h=>by
  have ih:=kK l fun y hy=>h y (by simp[hy]);by_cases hp:p x=true
  ·have hq:=h x (by simp) hp;simp[hp,hq];omega
  ·by_cases hq:q x=true
   ·simp[hp,hq];omega
   ·simp[hp,hq];omega
theorem eY{l:List DS}{i:Nat}:i∈bX l↔∃s,l[i]? =some s∧dT s=true:=by
 unfold bX;rw[List.mem_filter];constructor
 ·rintro⟨_,h⟩;split at h
  ·rename_i s hs;exact⟨s,hs,h⟩
  ·cases h
 ·rintro⟨s,hs,he⟩;have:=(List.getElem?_eq_some_iff.1 hs).1;exact⟨by simpa using this,by rw[hs];exact he⟩
theorem uS{l:List DS}{a:Nat}(h:(match l[a]? with|some s=>dT s|none=>false)=true):a∈bX l:=by
 rw[eY];split at h
 ·rename_i s hs;exact⟨s,hs,h⟩
 ·cases h
theorem wu(l:List DS):∀i,i≤l.length→fm l i=((List.range i).filter fun j=>match l[j]? with|some s=>dT s|none=>false).length:=by
 intro i;induction i with
 |zero=>intro _;simp[fm]
 |succ i ih=>
  intro hi;have hlt:i<l.length:=by omega
  rw[List.range_succ,List.filter_append,List.length_append,←ih (by omega)];unfold fm;rw[List.take_succ_eq_append_getElem hlt,List.filter_append,List.length_append];congr 1;simp[List.filter_cons,hlt];split<;>simp
theorem wA {l : List DS} {L : Array Bool} {i : Nat} (hi : i ≤ l.length) (h1 : ∀ e ∈ bX l, e < i → dn L e) (h2 : ∀ e ∈ bX l, i ≤ e → ¬ dn L e) : cnt l L = fm l i := by
 rw [wu l i (by omega)]
 unfold cnt bX
 rw [List.filter_filter]
 have : ∀ n, i ≤ n → n ≤ l.length → ((List.range n).filter fun a => L.getD a false && (match l[a]? with | some s => dT s | none => false)).length = ((List.range i).filter fun j => match l[j]? with | some s => dT s | none => false).length := by
  intro n hn
  induction n with
  | zero => intro _; have : i = 0 := by omega
            subst this; rfl
  | succ n ih =>
   intro hnl
   by_cases c : i = n + 1
   · subst c
     congr 1
     apply List.filter_congr
     intro a ha
     have ha' : a < n + 1 := by simpa using ha
     cases hm : (match l[a]? with | some s => dT s | none => false)
     · simp
     · have : dn L a := h1 a (uS hm) ha'
       rw [this]; rfl
   · rw [List.range_succ, List.filter_append, List.length_append, ih (by omega) (by omega)]
     have : ((List.filter (fun a => L.getD a false && (match l[a]? with | some s => dT s | none => false)) [n]).length = 0) := by
      simp only [List.filter_cons, List.filter_nil]
      cases hm : (match l[n]? with | some s => dT s | none => false)
      · simp
      · have : ¬ dn L n := h2 n (uS hm) (by omega)
        have : L.getD n false = false := by simpa [dn] using this
        rw [this]; rfl
     omega
 exact this l.length (by omega) (Nat.le_refl _)
theorem zj{l r:List DS}(h:l.map dT=r.map dT):bX l=bX r:=by
 have hl:l.length=r.length:=by have:=congrArg List.length h;simpa using this
 unfold bX;rw[hl];apply List.filter_congr;intro i _;have:(l.map dT)[i]? =(r.map dT)[i]? :=by rw[h]
 rw[List.getElem?_map,List.getElem?_map]at this;cases h1:l[i]? <;>cases h2:r[i]? <;>simp_all
variable {K : LG → Prop}
theorem zh{l:List DS}{i:Nat}{s:DS}(hs:l[i]? =some s)(he:dT s=true):fm l (i+1)=fm l i+1:=by
 have hlt:=(List.getElem?_eq_some_iff.1 hs).1;have hg:l[i]=s:=by rw[List.getElem?_eq_getElem hlt]at hs;cases hs;rfl
 unfold fm;rw[List.take_succ_eq_append_getElem hlt,List.filter_append,List.length_append,hg];simp[he]
theorem wz{l:List DS}{L:Array Bool}{i:Nat}(h:i∉bX l):cnt l (L.setIfInBounds i true)=cnt l L:=by
 unfold cnt;congr 1;apply List.filter_congr;intro e he;exact getD_set_ne false (fun q=>h (q▸he))
theorem fu{L:Array Bool}{i j:Nat}(hi:i<L.size):dn (L.setIfInBounds i true) j↔j=i∨dn L j:=by
 by_cases c:i=j
 ·subst c;simp[dn,hi]
 ·unfold dn;rw[getD_set_ne false c];constructor
  ·exact fun h=>.inr h
  ·rintro(h|h)
   ·exact absurd h.symm c
   ·exact h
theorem Dd{vals:List V}{i j:Nat}(hi:i≤vals.length)(hj:j<i):((vals.take i).reverse++[])[i-1-j]? =vals[j]? :=by
 have hl:(vals.take i).length=i:=by simp;omega
 rw[List.append_nil,List.getElem?_reverse (by omega),hl,List.getElem?_take,if_pos (by omega)];congr 1;omega
theorem pT{n:Nat}{loc:List V}:∀(sets:List (Nat×Nat))(env env':T V),fG n loc sets env=some env'→∀s v,env'.get s=some v→
 (∃i,(s,i)∈sets∧loc[n-i-1]? =some v)∨((∀i,(s,i)∉sets)∧env.get s=some v)
 |[],env,env',e,s,v,h=>by cases e;exact .inr ⟨by simp,h⟩
 |(t,i)::r,env,env',e,s,v,h=>by
  simp only[fG]at e;split at e
  ·rename_i u hu;rcases pT r _ _ e s v h with⟨j,hj,hv⟩|⟨hn,hv⟩
   ·exact .inl ⟨j,by simp[hj],hv⟩
   ·rw[T.get_set]at hv;by_cases c:s=t
    ·subst c;rw[if_pos rfl]at hv;cases hv;exact .inl ⟨i,by simp,hu⟩
    ·rw[if_neg c]at hv;exact .inr ⟨fun j hj=>by
      rcases List.mem_cons.1 hj with q|q
      ·cases q;exact c rfl
      ·exact hn j q,hv⟩
  ·cases e
theorem qe{call:aD}{loc:List V}{env:T V}{o:IOp}{v:V}:∀(hs:List Heap),eQ call loc env o v hs=true→∀g∈hs,∃g',aK call loc env g o=some (v,g')
 |[],_,g,hg=>by simp at hg
 |h::hs,hr,g,hg=>by
  simp only[eQ,Bool.and_eq_true]at hr;rcases List.mem_cons.1 hg with rfl|hg
  ·obtain⟨h1,_⟩:=hr;split at h1
   ·rename_i u g' hu;have:=mZ _ _ h1;subst this;exact⟨g',hu⟩
   ·cases h1
  ·exact qe hs hr.2 g hg
section
variable {P : Program} {C : Cx} {call : aD} {ops : Array Oper} {l : List DS} {B : List Nat} {reads : List (Nat × Nat × Nat)} {sets : List (Nat × Nat)}
structure DI(C:Cx)(ops:Array Oper)(l:List DS)(env:T V)(vals:List V)(Hs:List Heap)(m0:M)(h:Heap)(w0:World)(a0:Act)(L:Array Bool)(a:Act)(w:World)(m:M)(hk:Heap):Prop where
 lsz:L.size=ops.size
 closed:∀i o,ops[i]? =some o→dn L i→∀e∈o.after,Region.binds .any e=true→dn L e.on
 size:a.tmps.size=C.N
 defers:a.defers=a0.defers
 old:∀t,(∀i,dn L i→(ops[i]?).bind (·.dst)≠some t)→a.tmps.getD t undef=a0.tmps.getD t undef
 at_:Hs[cnt l L]? =some hk
 rel:HRel m hk w
 ext:Ext m0 h w0 m hk w
 vals:∀i v t,dn L i→vals[i]? =some v→(ops[i]?).bind (·.dst)=some t→VRel m v (a.tmps.getD t undef)
 unm:∀(i:Nat) s u c,l[i]? =some (s,some (u,c))→¬dn L i→m (lid u)=none∧hk.bl.get (lid u)=some (.row c (lid u) 0)∧lid u<hk.next
theorem DI.next{env:T V}{vals:List V}{Hs:List Heap}{m0 m m':M}{h hk hk':Heap}{w0 w w':World}{a0 a:Act}{L:Array Bool}(D:DI C ops l env vals Hs m0 h w0 a0 L a w m hk)
 (hds:Bs C ops sets=true) {i:Nat} {o:Oper} (ho:ops[i]? =some o) (hni:¬dn L i) (hed:∀e∈o.after,Region.binds .any e=true→dn L e.on) {v:V} {x:Value} (hv:vals[i]? =some v) (r:VRel m' v x)
 (H':HRel m' hk' w') (hle:Le m m') (E0:Ext m0 h w0 m' hk' w') (hat:Hs[cnt l (L.setIfInBounds i true)]? =some hk')
 (hun:∀(j:Nat) s u c,l[j]? =some (s,some (u,c))→¬dn (L.setIfInBounds i true) j→m' (lid u)=none∧hk'.bl.get (lid u)=some (.row c (lid u) 0)∧lid u<hk'.next):
 DI C ops l env vals Hs m0 h w0 a0 (L.setIfInBounds i true) (a.put o.dst x) w' m' hk':=by
 have hi:i<ops.size:=(Array.getElem?_eq_some_iff.1 ho).1;have hiL:i<L.size:=by rw[D.lsz];exact hi
 have hds1:=cg (Bool.and_eq_true_iff.1 hds).1 hi;have hoi:(ops[i]?).bind (·.dst)=o.dst:=by rw[ho];rfl
 rw[hoi]at hds1;have hlt:∀t,o.dst=some t→t<a.tmps.size:=by
  intro t ht;rw[ht]at hds1;simp only[Bool.and_eq_true,Nat.blt_eq]at hds1;rw[D.size];exact hds1.1.1
 have huniq:∀t,o.dst=some t→∀j,j<ops.size→j≠i→(ops[j]?).bind (·.dst)≠some t:=by
  intro t ht j hj hne hd;rw[ht]at hds1;simp only[Bool.and_eq_true]at hds1;have:=cg hds1.2 hj;rw[hd]at this;simp only[Bool.or_eq_true]at this;rcases this with q|q
  ·exact hne (Nat.eq_of_beq_eq_true q).symm
  ·simp at q
 refine⟨by simpa using D.lsz,?_,by rw[kw];exact D.size,by rw[gL];exact D.defers,?_,hat,H',E0,?_,hun⟩
 ·intro j p hj hdj e he hbi;rw[fu hiL]at hdj⊢;rcases hdj with rfl|hdj
  ·rw[ho]at hj;cases hj;exact .inr (hed e he hbi)
  ·exact .inr (D.closed j p hj hdj e he hbi)
 ·intro t ht;have h1:o.dst≠some t:=by
   have:=ht i ((fu hiL).2 (.inl rfl));rwa[hoi]at this
  have h2:=D.old t (fun j hj=>ht j ((fu hiL).2 (.inr hj)));cases hd:o.dst with
  |none=>exact h2
  |some d=>
   rw[dP a d x t (hlt d hd),if_neg (by intro q;subst q;exact h1 hd)];exact h2
 ·intro j u t hj hu ht;rw[fu hiL]at hj;by_cases c:j=i
  ·subst c;rw[hoi]at ht;rw[hv]at hu;cases hu;rw[ht,dP a t x t (hlt t ht),if_pos rfl];exact r
  ·have hdj:dn L j:=hj.resolve_left c;have:=D.vals j u t hdj hu ht;cases hd:o.dst with
   |none=>exact VRel.mono hle _ _ this
   |some d=>
    have hjlt:j<ops.size:=by
     rcases Nat.lt_or_ge j ops.size with q|q
     ·exact q
     ·rw[Array.getElem?_eq_none q]at ht;cases ht
    rw[dP a d x t (hlt d hd),if_neg (by intro q;subst q;exact huniq t hd j hjlt c ht)];exact VRel.mono hle _ _ this
theorem DI.unm_next{env:T V}{vals:List V}{Hs:List Heap}{m0 m m':M}{h hk hk':Heap}{w0 w w':World}{a0 a:Act}{L:Array Bool}(D:DI C ops l env vals Hs m0 h w0 a0 L a w m hk)
 {i:Nat} (hi:i<L.size) (E':Ext m hk w m' hk' w'):∀(j:Nat) s u c,l[j]? =some (s,some (u,c))→¬dn (L.setIfInBounds i true) j→
  m' (lid u)=none∧hk'.bl.get (lid u)=some (.row c (lid u) 0)∧lid u<hk'.next:=by
 intro j s u c hj hnd;obtain⟨b1,b2,b3⟩:=D.unm j s u c hj (fun hd=>hnd ((fu hi).2 (.inr hd)));refine⟨?_,(E'.phan _ b1 b3).trans b2,Nat.lt_of_lt_of_le b3 E'.next⟩;cases hm:m' (lid u)with
 |none=>rfl
 |some loc=>have:=(E'.new _ _ hm b1).1;omega
theorem HRel.materialize{m:M}{h:Heap}{w:World}(H:HRel m h w){p:Nat}{c:List V}{f k:Nat}{X:Array Value}{elem:TypeId}(hm:m p=none)(hb:h.bl.get p=some (.row c f k))(hX:VsRel m c X.toList):
 HRel (dq m p ⟨w.heap.size,0,X.size,none⟩) h (w.alloc (.cells X elem)):=by
 have hle:Le m (dq m p ⟨w.heap.size,0,X.size,none⟩):=by
  intro q l hq;rw[aw]
  ·exact hq
  ·intro e;subst e;rw[hm]at hq;cases hq
 have hXl:=hX.length;refine⟨H.wf,?_,?_,?_⟩
 ·intro q loc hq;by_cases e:q=p
  ·subst e;rw[au]at hq;cases hq;refine⟨_,hb,fun _=>⟨X,elem,(0,0),heap_alloc_new w _,by simp,by simp at hXl;simp only[];omega,fun i v hi=>?_,fun i _=>by simp⟩⟩;obtain⟨x,hx,rx⟩:=hX.get i v hi;exact⟨x,by simpa using hx,VRel.mono hle _ _ rx⟩
  ·rw[aw _ _ e]at hq;obtain⟨b,hb',r⟩:=H.blk q loc hq;exact⟨b,hb',r.mono hle (fun _ _ _ _ x=>x) (heap_alloc_old w _ _ (H.inb q loc hq))⟩
 ·intro q loc hq;by_cases e:q=p
  ·subst e;rw[au]at hq;cases hq;simp
  ·rw[aw _ _ e]at hq;have:=H.inb q loc hq;simp;omega
 ·intro q r lq lr hq hr he hne;by_cases e:q=p
  ·subst e;rw[au]at hq;cases hq;rw[aw _ _ (Ne.symm hne)]at hr;have:=H.inb r lr hr;simp only[]at he;omega
  ·rw[aw _ _ e]at hq;by_cases e2:r=p
   ·subst e2;rw[au]at hr;cases hr;have:=H.inb q lq hq;simp only[]at he;omega
   ·rw[aw _ _ e2]at hr;exact H.sep q r lq lr hq hr he hne
theorem AT{m:M}{env:T V}{loc:List V}{a:Act}{σ:Sg}(hO:zV C m σ loc env a){o:Oper}{op:IOp}{c:List V}{k:Option (Nat×Nat)}(hco:jN P C σ o op=true)(hlc:fZ loc env op=some (c,k))(w:World):
 ∃x X elem,(execOp a.eval o).run P w=.ok (.value x) (w.alloc (.cells X elem))∧VsRel m c X.toList∧∀id m',m' id=some ⟨w.heap.size,0,X.size,none⟩→VRel m' (dy id k) x:=by
 unfold fZ at hlc;split at hlc
 ·rename_i zero;cases hlc;simp only[jN,bP,Bool.and_eq_true]at hco;replace hco:=hco.2;unfold kQ at hco;split at hco
  ·rename_i t hy;obtain⟨z,hz,hv⟩:=fX (w:=w) hco;have hnr:=cF (P:=P) (w:=w) z.cells t;refine⟨.pointer (some ⟨w.heap.size,0,none⟩),z.cells,t,?_,cI m _ _ hv,fun id m' hm=>⟨_,hm,rfl⟩⟩;simp[execOp,hy,Instr.alloc,hz,newVar,hnr]
  ·cases hco
 ·rename_i x;split at hlc
  ·rename_i v hv;cases hlc;simp only[jN,bP,Bool.and_eq_true]at hco;replace hco:=hco.2;have hvr:=aV hO _ _ _ hco.2 (oL hv);obtain⟨hcb,_⟩:=hco;unfold sT at hcb;split at hcb
   ·rename_i t ad hy;obtain⟨y,e,ry⟩:=bH hvr;rw[hy]at e;simp[Op.operands]at e;have hnr:=cF (P:=P) (w:=w) y.cells t;refine⟨.pointer (some ⟨w.heap.size,0,none⟩),y.cells,t,?_,ry.cells,fun id m' hm=>⟨_,hm,rfl⟩⟩;simp[execOp,hy,e,Instr.box,newVar,hnr]
   ·cases hcb
  ·cases hlc
 ·rename_i zero places len xs;split at hlc
  ·rename_i vs hvs;split at hlc
   ·rename_i c' hf;cases hlc;simp only[jN,bP,Bool.and_eq_true]at hco;replace hco:=hco.2;have hvr:=aV hO _ _ _ hco.2 hvs;obtain⟨X,elem,h1,h2⟩:=mI (P:=P) (m:=m) (w:=w) hco.1 hvr hf;exact⟨_,X,elem,h1,h2,fun id m' hm=>⟨_,hm,Nat.le_refl _,rfl⟩⟩
   ·cases hlc
  ·cases hlc
 ·rename_i zero bytes x y;split at hlc
  ·rename_i lv hl;split at hlc
   ·rename_i cv hcv;split at hlc
    ·rename_i n kk hn;cases hlc;simp only[jN,bP,Bool.and_eq_true]at hco;replace hco:=hco.2;have hvr:=aV hO _ _ _ hco.2 (uN hl hcv);obtain⟨X,elem,h1,h2,h3⟩:=zF (P:=P) (m:=m) (w:=w) hco.1 hvr hn;exact⟨_,X,elem,h1,h2,fun id m' hm=>⟨_,hm,h3,rfl⟩⟩
    ·cases hlc
   ·cases hlc
  ·cases hlc
 ·cases hlc
theorem DI.opds{vals:List V}{Hs:List Heap}{m0 m:M}{h hk:Heap}{w0 w:World}{a0 a:Act}{L:Array Bool}{env:T V}(D:DI C ops l env vals Hs m0 h w0 a0 L a w m hk)
 (hG:Glob K C.G m0) (hE:ERel C m0 env a0) (hB:FU ops B=true) (hlen:vals.length=ops.size)
 {i:Nat} {o:Oper} (ho:ops[i]? =some o) (hni:¬dn L i) (hed:∀e∈o.after,Region.binds .any e=true→dn L e.on):zV C m (sig ops B i) ((vals.take i).reverse++[]) env a:=by
 have hi:i<ops.size:=(Array.getElem?_eq_some_iff.1 ho).1;have hG':=hG.ext D.ext;intro od y v hok ev;unfold jG at hok;split at hok
 ·rename_i t;split at hok
  ·rename_i s hs;obtain⟨j,hj,hd,hcase⟩:=iB _ _ _ hs;have hj':j<ops.size:=by simpa using hj
   rcases hcase with⟨hb,rfl⟩|rfl
   ·have hdj:=gu hB D.closed i o ho hed j hb hj';cases y<;>simp[cE]at hok;subst hok;have hji:j<i:=by
     have h1:=cg (cg hB hi) hj';simp only[hb,Bool.not_true,Bool.false_or,ho]at h1;obtain⟨e,he,h2⟩:=List.any_eq_true.1 h1;simp only[Bool.and_eq_true,Nat.blt_eq,Bool.or_eq_true]at h2;have h21:=h2.1.2;rcases h2.2 with q|q
     ·have:=Nat.eq_of_beq_eq_true q;omega
     ·
      have key:∀k,k<ops.size→∀j,j<ops.size→bef B k j=true→j<k:=by
       intro k;induction k using Nat.strongRecOn with
       |_ k ih=>
        intro hk j hj hb;have h1:=cg (cg hB hk) hj;simp only[hb,Bool.not_true,Bool.false_or]at h1;split at h1
        ·obtain⟨e,he,h2⟩:=List.any_eq_true.1 h1;simp only[Bool.and_eq_true,Nat.blt_eq,Bool.or_eq_true]at h2;rcases h2.2 with q|q
         ·have:=Nat.eq_of_beq_eq_true q;have:=h2.1.2;omega
         ·have:=h2.1.2;have:=ih e.on h2.1.2 (by omega) j hj q;omega
        ·cases h1
      have:=key e.on (by omega) j hj' q;omega
    have ev':((vals.take i).reverse++[])[i-1-j]? =some v:=by rw[←iw];exact ev
    rw[Dd (by omega) hji]at ev';exact D.vals j v t hdj ev' hd
   ·cases y<;>simp[cE]at hok
  ·rename_i hs;split at hok
   ·rename_i s;simp only[Bool.and_eq_true]at hok;have:=Nat.eq_of_beq_eq_true hok.1;subst this;have hold:=D.old s (fun j hj hd=>by
     have hj':j<ops.size:=by
      rcases Nat.lt_or_ge j ops.size with q|q
      ·exact q
      ·rw[Array.getElem?_eq_none q]at hd;cases hd
     obtain⟨_,hc⟩:=jI _ _ hs j (by simpa using hj') hd;rcases hc with rfl|hc
     ·exact hni hj
     ·exact hni (gu hB D.closed j _ (Array.getElem?_eq_getElem hj') (D.closed j _ (Array.getElem?_eq_getElem hj') hj) i hc hi))
    show VRel m v (a.tmps.getD s undef);rw[hold];exact VRel.mono D.ext.le _ _ (hE.var hok.2 ev)
   ·cases hok
 ·exact lO hG' hok ev
end
end Go.Ev
