/- An evaluator of the program, and contracts over it: StaL to StaZd. -/
import Derived.Test.YtdbfhmneijcjbaaGreatP09
set_option linter.unusedSimpArgs false
set_option linter.unusedVariables false
set_option linter.constructorNameAsVariable false
set_option linter.unnecessarySimpa false
namespace Go.Ev.Lay
set_option maxRecDepth 4000
def Knd.same(q p:Knd):Prop:=q.k=p.k∧q.tg=p.tg∧q.ky=p.ky∧q.sl=p.sl∧q.tx=p.tx∧q.base=p.base∧q.sticky=p.sticky∧q.pool=p.pool∧PT.same q.sub p.sub
theorem Knd.same_okK{q p:Knd}(h:q.same p):okK q=okK p:=by
 obtain⟨h1,h2,h3,h4,h5,h6,_,_,h9⟩:=h;unfold okK;rw[h1,h2,h3,h4,h5,h6,PT.same_count _ _ _ _ _ h9]
def dm:List Knd→List Knd→Prop
 |[],[]=>True
 |q::l,p::m=>q.same p∧dm l m
 |_,_=>False
theorem dH:∀{a b:List Knd},dm a b→a.length=b.length
 |[],[],_=>rfl
 |_::_,_::_,h=>by simp[dH h.2]
 |[],_::_,h=>h.elim
 |_::_,[],h=>h.elim
theorem nD:∀{a b:List Knd},dm a b→a.all okK=b.all okK
 |[],[],_=>rfl
 |_::_,_::_,h=>by rw[List.all_cons,List.all_cons,Knd.same_okK h.1,nD h.2]
 |[],_::_,h=>h.elim
 |_::_,[],h=>h.elim
theorem vS{a b:List Knd}(h:dm a b)(cap:Int):okR a cap=okR b cap:=by
 unfold okR;rw[dH h,nD h]
theorem nC:∀{a b c d:List Knd},dm a b→dm c d→dm (a++c) (b++d)
 |[],[],_,_,_,g=>g
 |_::_,_::_,_,_,h,g=>⟨h.1,nC h.2 g⟩
 |[],_::_,_,_,h,_=>h.elim
 |_::_,[],_,_,h,_=>h.elim
theorem gJ:∀{a b:List Knd}{i:Nat}{q:Knd},dm a b→a[i]? =some q→∃p,b[i]? =some p∧q.same p
 |_::_,p::_,0,_,h,e=>by simp at e;subst e;exact⟨p,rfl,h.1⟩
 |_::_,_::_,i+1,_,h,e=>by simpa using gJ h.2 (by simpa using e)
 |[],[],_,_,_,e=>by simp at e
 |[],_::_,_,_,h,_=>h.elim
 |_::_,[],_,_,h,_=>h.elim
theorem _root_.Go.Ev.Fr.old{S:List Nat}{h h':Heap}(w:WF h)(f:Fr S h h'):Fr (S.filter fun x=>decide (x<h.next)) h h':=
 ⟨f.next,f.wf,fun b c hb o=>f.own b c (fun m=>hb (by have:=o.lt w;simp[m,this])) o,fun b c hb o=>f.pl b c (fun m=>hb (by have:=o.own.lt w;simp[m,this])) o,f.lp,f.ro⟩
theorem Bb{h:Heap}{b:Nat}(o:Own h b [.nils,.int .i64 0,.int .i64 0]):ao go 91 [.ptr b 0,.int .i64 0,.nils] h fun u h'=>u=.int .i64 0∧h=h':=by
 have k:GpT h b (b+1) .nils [] [] [] 0 0 0:=⟨o,⟨rfl,.inl ⟨rfl,rfl⟩⟩,rfl,rfl,rfl,rfl,rfl,by omega,by omega,by omega,fun x m=>by simp at m⟩;have e:sA (0+0) 0 0=0:=rfl;refine ah rfl rfl ?_;simp only[fn91,evs,seval];refine aa (ga k 0 0) ?_;rintro _ _ ⟨rfl,rfl⟩;rw[e];simp only[evs,seval];refine aa (dk k) ?_;rintro _ _ ⟨rfl,rfl⟩;simp(disch:=omega) only[evs,seval,ai,show¬((4096:Int)-((0+0:Nat):Int)<0) by omega]
theorem A9{h:Heap}(w:WF h):ao go 39 [.nils] h fun z h'=>∃b,z=.tup [.ptr b 0,.int .i64 0]∧h.next≤b∧Own h' b [.nils,.int .i64 0,.int .i64 0]∧Fr [] h h':=by
 obtain⟨h1,e_h1⟩:∃h1,h1=halloc h [.nils,.int .i64 0,.int .i64 0]:=⟨_,rfl⟩;have F_h1:Fr [] h h1:=e_h1▸Fr.halloc w _;have o_h1:Own h1 h.next [.nils,.int .i64 0,.int .i64 0]:=e_h1▸Own.new w _;refine ah rfl rfl ?_;simp only[fn39,evs,seval,←e_h1];refine aa (Bb o_h1) ?_;rintro _ _ ⟨rfl,rfl⟩;simp only[evs,seval];exact⟨h.next,rfl,Nat.le_refl _,o_h1,F_h1⟩
theorem Gu{h:Heap}{v:V}{L:List Knd}{cap:Int}(w:WF h)(a:Recs Knd.cells 9 h v L)(hL:∀q∈L,KndH h q)(hn:L.length≤4096)(ok:okR L cap=true):
 ao go 8 [.agg [v,.int .i64 cap]] h fun u h'=>∃b bg bm bl vK K,u=.tup [.ptr b 0,.int .i64 0]∧Fr [] h h'∧dm L K∧Own h' b [vK,.int .i64 cap,.ptr bg 0,.ptr bm 0,.ptr bl 0]∧
  Own h' bg [.nils,.int .i64 0,.int .i64 0]∧Km h' bm bm (fun _=>none) 0∧LoP h' bl none [] [] []∧h.next<bg∧bg<bm∧bm<bl∧bl<b∧h.next<h'.next∧Own h' h.next [v,.int .i64 cap]∧
  (∀(X:List Nat)(h2:Heap),(∀y∈X,y≤h.next∨y=b∨y=bg∨y=bm∨y=bl∨h'.next≤y)→Fr X h' h2→Recs Knd.cells 9 h2 vK K∧∀q∈K,KndH h2 q):=by
 have zv:nZ v=true:=by cases v<;>first|rfl|exact a.2.elim
 obtain⟨h1,e_h1⟩:∃h1,h1=halloc h [v,.int .i64 cap]:=⟨_,rfl⟩;have F_h1:Fr [] h h1:=e_h1▸Fr.halloc w _;have o_h1:Own h1 h.next [v,.int .i64 cap]:=e_h1▸Own.new w _;have l0:ag h1 h.next 0=some v:=o_h1.ld1 0;have l2:ak h1 h.next 0 2=some [v,.int .i64 cap]:=by rw[o_h1.ld];rfl
 refine ah rfl rfl ?_;simp only[fn8,evs,seval,←e_h1,l2];refine aa (tw F_h1.wf (Recs.fr a F_h1) (fun q m=>(hL q m).fr F_h1) hn) ?_;rintro _ h2 ⟨rfl,F2⟩;rw[ok,if_pos rfl];simp only[evs,seval];refine aa (A9 F2.wf) ?_;rintro _ h3 ⟨bg,rfl,hbg,g3,F3⟩;have F03:=(F_h1.then F2).then F3;have o3:=F3.get (F2.get o_h1);have l3:ag h3 h.next 0=some v:=o3.ld1 0;simp only[evs,seval,l3];refine aa (sP F3.wf (Sl.a (Recs.fr a F03)) zv (by omega)) ?_;rintro vK h4 ⟨gk,F4⟩;simp only[evs,seval,gk.sl.len];have F04:=F03.then F4;have vpl:∀y∈vb vK,h3.next≤y∧y<h4.next:=by
  obtain⟨_,⟨_,rfl|⟨b,_,rfl,_⟩⟩|⟨b,hb,rfl,o⟩⟩:=gk
  ·simp[vb]
  ·simp[vb]
  ·have:=o.lt F4.wf;simp only[vb,List.mem_singleton];rintro y rfl;exact⟨hb,this⟩
 refine aC (fun n env hh=>Fr [] h hh∧Fr [] h1 hh∧Fr [] h3 hh∧h4.next≤hh.next∧
  ∃(i:Nat)(D:List Knd),env.get 26=some (.int .i64 i)∧env.get 25=some (.int .i64 L.length)∧env.get 1=some (.ptr h.next 0)∧env.get 5=some (.ptr bg 0)∧env.get 7=some vK∧i≤L.length∧D.length=i∧dm (L.take i) D∧
  Gn 9 hh h3.next vK L.length ((D++L.drop i).flatMap Knd.cells)∧(∀(X:List Nat)(h2:Heap),(∀y∈X,y<h3.next∨y∈vb vK)→Fr X hh h2→∀q∈D,KndH h2 q)∧n=L.length-i) L.length (by omega) ?_ ?_
 ·exact⟨F04,(F2.then F3).then F4,F4,Nat.le_refl _,0,[],(by simp),(by simp),(by simp),(by simp),(by simp),by omega,rfl,trivial,by simpa using gk,by simp,rfl⟩
 ·rintro n env hh ⟨F,F1',F3',hn4,i,D,g26,g25,g1,g5,g7,hi,dl,ds,gph,dst,rfl⟩;by_cases hlt:i<L.length
  ·have hlt':(i:Int)<L.length:=by omega
   obtain⟨q,hq⟩:∃q,L[i]? =some q:=⟨_,List.getElem?_eq_getElem hlt⟩;have hqL:=hL q (List.mem_of_getElem? hq);obtain⟨_,⟨z,_⟩|⟨bp,hbp,rfl,obp⟩⟩:=gph
   ·omega
   have fl:∀M:List Knd,(M.flatMap Knd.cells).length=M.length*9:=aG dQ;have dc:(D.flatMap Knd.cells).length=i*9:=by rw[fl,dl]
   have eL:(D++L.drop i).flatMap Knd.cells=D.flatMap Knd.cells++(q.cells++(L.drop (i+1)).flatMap Knd.cells):=by
    rw[aJ hq];simp
   rw[eL]at obp;have ix:=kg 9 bp 0 L.length 9 .i64 (i:Int) (by omega) hlt';simp only[Int.toNat_natCast,Nat.zero_add]at ix;have lc:ak hh bp (i*9) 6=some q.part:=by
    rw[obp.ld,bq,←dc,List.drop_left];rfl
   have hb:=vpl bp (by simp[vb]);simp only[evs,seval,g26,g25,g7,hlt',ix,lc];refine aa (tD (pcs q.sub) hh F.wf (hqL.fr F)) ?_;rintro _ h7 ⟨vs2,vp2,sb2,rfl,sm,F7,st2⟩;have on:aq [.int .u8 (q.k:Int),.str q.tg,.str q.ky,vs2,.str q.tx,vp2]=true:=PH.ones (st2 [] h7 (by simp) (Fr.refl F7.wf));simp only[evs,seval,g7,ix];have eC:aY (D.flatMap Knd.cells++(q.cells++(L.drop (i+1)).flatMap Knd.cells)) (i*9) [.int .u8 (q.k:Int),.str q.tg,.str q.ky,vs2,.str q.tx,vp2]=some ((D++[(⟨q.k,q.tg,q.ky,q.sl,q.tx,vs2,vp2,sb2,q.base,q.sticky,q.pool⟩:Knd)]++L.drop (i+1)).flatMap Knd.cells):=by
    rw[bE _ _ _ (by rw[List.length_append,dc,List.length_append,dQ];simp only[List.length_cons,List.length_nil];omega)];congr 1;have q1:(D.flatMap Knd.cells++(q.cells++(L.drop (i+1)).flatMap Knd.cells)).take (i*9)=D.flatMap Knd.cells:=by rw[←dc,List.take_left]
    have q2:(D.flatMap Knd.cells++(q.cells++(L.drop (i+1)).flatMap Knd.cells)).drop (i*9+6)=[.int .i64 q.base,.bool q.sticky,.int .i64 q.pool]++(L.drop (i+1)).flatMap Knd.cells:=by
     rw[←dc,List.drop_length_add_append];rfl
    show _++_++(D.flatMap Knd.cells++(q.cells++(L.drop (i+1)).flatMap Knd.cells)).drop (i*9+6)=_;rw[q1,q2];simp[Knd.cells,Knd.part]
   refine ab F7.wf (F7.get obp) rfl on eC ?_;rintro h8 o8 F8 n8;have hn7:=F7.next;have hn3:=F4.next;simp(disch:=omega) only[evs,seval,ai,g26];refine(aj _ _ _).2 ⟨L.length-(i+1),by omega,(F.then F7).fresh F8 w ?_,(F1'.then F7).fresh F8 F_h1.wf ?_,(F3'.then F7).fresh F8 F3.wf (by omega),by omega,i+1,_,(by simp),(by simp[g25]),(by simp[g1]),(by simp[g5]),(by simp[g7]),by omega,?_,?_,⟨?_,.inr ⟨bp,hbp,rfl,o8⟩⟩,?_,rfl⟩
   ·have:=F03.next;omega
   ·have:=F2.next;have:=F3.next;omega
   ·simp[dl]
   ·rw[List.take_add_one,hq];exact nC ds ⟨⟨rfl,rfl,rfl,rfl,rfl,rfl,rfl,rfl,sm⟩,trivial⟩
   ·rw[fl];simp[dl];omega
   ·intro X h9 hX f9 p hp;have f79:Fr ([bp]++X) h7 h9:=Fr.trans F8 f9 F7.wf (fun y hy=>.inl (by simp at hy;simp[hy])) (fun y hy=>.inl (by simp[hy]));have fh9:Fr ([bp]++X) hh h9:=Fr.trans F7 f79 F.wf (by simp) (fun y hy=>.inl hy);have hX':∀y∈[bp]++X,y<h3.next∨y∈vb (.sliceU bp 0 L.length 9):=by
     intro y hy;simp at hy;rcases hy with rfl|hy
     ·exact .inr (by simp[vb])
     ·exact hX y hy
    rcases List.mem_append.1 hp with hp|hp
    ·exact dst _ h9 hX' fh9 p hp
    ·simp at hp;subst hp;refine st2 _ h9 (fun y hy=>?_) f79;rcases hX' y hy with q|q
     ·omega
     ·simp[vb]at q;omega
  ·have hi':i=L.length:=by omega
   subst hi';rw[List.take_of_length_le (Nat.le_refl _)]at ds;rw[List.drop_of_length_le (Nat.le_refl _),List.append_nil]at gph;have ob:=F1'.get o_h1;have l1:ag hh h.next 1=some (.int .i64 cap):=ob.ld1 1;simp only[evs,seval,eff,g26,g25,g1,g5,g7,show¬((L.length:Nat):Int)<(L.length:Nat) by omega,l1,aB gph.one];refine aa (Dh F.wf) ?_;rintro _ h5 ⟨bm,rfl,hbm,km,F5⟩;have l1':ag h5 h.next 1=some (.int .i64 cap):=(F5.get ob).ld1 1;simp only[evs,eff];refine aa (D7 F5.wf) ?_;rintro _ h6 ⟨bl,rfl,hbl,lo,ol,F6⟩;have l1'':ag h6 h.next 1=some (.int .i64 cap):=(F6.get (F5.get ob)).ld1 1;obtain⟨h9,e_h9⟩:∃h9,h9=halloc h6 [vK,.int .i64 cap,.ptr bg 0,.ptr bm 0,.ptr bl 0]:=⟨_,rfl⟩;have F_h9:Fr [] h6 h9:=e_h9▸Fr.halloc F6.wf _;have o_h9:Own h9 h6.next [vK,.int .i64 cap,.ptr bg 0,.ptr bm 0,.ptr bl 0]:=e_h9▸Own.new F6.wf _;have n9:h9.next=h6.next+1:=by rw[e_h9];rfl
   simp only[evs,seval,DF,eff,l1,l1',l1'',←e_h9];have n1:h1.next=h.next+1:=by rw[e_h1];rfl
   have nn2:=F2.next;have nn3:=F3.next;have nn4:=F4.next;have nn5:=F5.next;have nn6:=F6.next;have bg3:=g3.lt F3.wf;have bm5:bm<h5.next:=by
    rcases km with⟨o,_⟩|⟨v,sl,t,k,_⟩
    ·exact o.lt F5.wf
    ·exact k.ob.lt F5.wf
   have bl6:=ol.lt F6.wf;have F69:=(F5.then F6).then F_h9;refine⟨h6.next,bg,bm,bl,vK,D,rfl,F.then F69,ds,o_h9,?_,(km.fr F6).fr F_h9,?_,by omega,by omega,by omega,by omega,by omega,(F1'.then F69).get o_h1,fun X h10 hX f10=>?_⟩
   ·exact(F3'.then F69).get g3
   ·obtain⟨p,vk,pm,o,x⟩:=lo;have e:=o.uniq ol;cases pm with
    |none=>exact LoP.fr ⟨p,vk,o,x⟩ F_h9
    |some q=>simp[pv]at e
   ·have f:Fr X hh h10:=Fr.trans F69 f10 F.wf (by simp) (fun y hy=>.inl hy);have hX':∀y∈X,y<h3.next∨hh.next≤y:=fun y hy=>by
     rcases hX y hy with q|q|q|q|q|q<;>omega
    refine⟨?_,dst _ h10 (fun y hy=>?_) (f.old F.wf)⟩
    ·have:=(gph.frH F.wf f hX').sl;show Sl h10 9 vK D.length _;rw[dl];exact this
    ·simp at hy;rcases hX' y hy.1 with q|q
     ·exact .inl q
     ·omega
def Seen(h:Heap)(b:Nat)(ks:List Nat):Prop:=∃es c,h.bl.get b=some (.mp es c)∧es.map (·.1)=ks.map (fun k:Nat=>V.int .u64 (k:Int))∧∀e∈es,e.2.1=.bool true
theorem jW(k:Nat):∀(es:List (V×V×Nat))(ks:List Nat)(i:Nat),es.map (·.1)=ks.map (fun k:Nat=>V.int .u64 (k:Int))→(∀e∈es,e.2.1=.bool true)→
 (k∈ks→∃j,eK none (.int .u64 (k:Int)) es i=some (some (j,.bool true)))∧(k∉ks→eK none (.int .u64 (k:Int)) es i=some none)
 |[],[],_,_,_=>⟨by simp,fun _=>rfl⟩
 |[],_::_,_,e,_=>by simp at e
 |_::_,[],_,e,_=>by simp at e
 |(k',v,n)::es,q::ks,i,e,t=>by
  simp only[List.map_cons,List.cons.injEq]at e;obtain⟨e1,e2⟩:=e;have tv:v=.bool true:=t (k',v,n) (by simp);subst e1 tv;have ih:=jW k es ks (i+1) e2 (fun x hx=>t x (by simp[hx]));have ek:nX none (.int .u64 (k:Int)) (.int .u64 (q:Int))=some (decide (k=q)):=by
   simp only[nX,bF,cond_true,dR];congr 1;by_cases c:k=q
   ·simp[c]
   ·simp[c];omega
  by_cases c:k=q
  ·refine⟨fun _=>⟨i,?_⟩,fun m=>absurd (by simp[c]) m⟩;simp only[eK];rw[ek,decide_eq_true c]
  ·refine⟨fun m=>?_,fun m=>?_⟩
   ·obtain⟨j,hj⟩:=ih.1 (by simpa[c]using m);exact⟨j,by simp only[eK];rw[ek,decide_eq_false c];exact hj⟩
   ·simp only[eK];rw[ek,decide_eq_false c];exact ih.2 (fun m'=>m (by simp[m']))
theorem Seen.lt{h:Heap}{b:Nat}{ks:List Nat}(s:Seen h b ks)(w:WF h):b<h.next:=by
 obtain⟨es,c,e,_⟩:=s;rcases Nat.lt_or_ge b h.next with q|q
 ·exact q
 ·rw[(w b q).1]at e;cases e
theorem Eo{call:aD}{loc:List V}{env:T V}{h:Heap}(K:V→Heap→Prop):OQ (aK call loc env h (.mm [])) K↔K (.map h.next) (jB h):=by
 show OQ (some (V.map h.next,jB h)) K↔_;exact bZ _ _ _
def LkQ(h:Heap)(ks:Option (List Nat))(zero:V)(ok:Bool)(o:Option (List V))(K:V→Heap→Prop):Prop:=∃x k,o=some [x,k]∧VQ (alk h ks zero ok x k) K h
theorem pw{h:Heap}(ks:Option (List Nat))(zero:V)(ok:Bool)(x k:V)(K:V→Heap→Prop):LkQ h ks zero ok (some [x,k]) K↔VQ (alk h ks zero ok x k) K h:=
 ⟨fun⟨_,_,e,q⟩=>by cases e;exact q,fun q=>⟨x,k,rfl,q⟩⟩
theorem AF{call:aD}{loc:List V}{env:T V}{h:Heap}(ks:Option (List Nat))(zero:V)(ok:Bool)(x y:Opd)(K:V→Heap→Prop):OQ (aK call loc env h (.lk ks zero ok [x,y])) K↔LkQ h ks zero ok (de loc env [x,y]) K:=by
 simp only[aK,OQ,LkQ,VQ,eP,cL];cases evO loc env x with
 |none=>simp[iK]
 |some a=>
  cases evO loc env y with
  |none=>simp[iK]
  |some b=>
   simp only[iK];cases e:alk h ks zero ok a b with
   |none=>simp[e]
   |some v=>
    refine⟨fun⟨_,_,q,k⟩=>?_,fun⟨_,_,q,u,q2,k⟩=>?_⟩
    ·cases q;exact⟨a,b,rfl,v,e,k⟩
    ·cases q;rw[e]at q2;cases q2;exact⟨v,h,rfl,k⟩
def MuQ(h:Heap)(ks:Option (List Nat))(o:Option (List V))(K:V→Heap→Prop):Prop:=∃x k v,o=some [x,k,v]∧OQ (amu h ks x k v) K
theorem vD{h:Heap}(ks:Option (List Nat))(x k v:V)(K:V→Heap→Prop):MuQ h ks (some [x,k,v]) K↔OQ (amu h ks x k v) K:=
 ⟨fun⟨_,_,_,e,q⟩=>by cases e;exact q,fun q=>⟨x,k,v,rfl,q⟩⟩
theorem En{call:aD}{loc:List V}{env:T V}{h:Heap}(ks:Option (List Nat))(x y z:Opd)(K:V→Heap→Prop):OQ (aK call loc env h (.mu ks [x,y,z])) K↔MuQ h ks (de loc env [x,y,z]) K:=by
 simp only[aK,OQ,MuQ,eP,cL];cases evO loc env x with
 |none=>simp[iK]
 |some a=>
  cases evO loc env y with
  |none=>simp[iK]
  |some b=>
   cases evO loc env z with
   |none=>simp[iK]
   |some c=>
    simp only[iK];exact⟨fun q=>⟨a,b,c,rfl,q⟩,fun⟨_,_,_,e,q⟩=>by cases e;exact q⟩
theorem sf{h:Heap}{b k:Nat}{ks:List Nat}(s:Seen h b ks):alk h none (.bool false) false (.map b) (.int .u64 (k:Int))=some (.bool (decide (k∈ks))):=by
 obtain⟨es,c,e,e1,e2⟩:=s;have m:=jW k es ks 0 e1 e2;simp only[alk,wq,e,show jK none (.int .u64 (k:Int))=true from rfl,cond_true];by_cases q:k∈ks
 ·obtain⟨j,hj⟩:=m.1 q;rw[hj];simp[q]
 ·rw[m.2 q];simp[q]
theorem Seen.fr{h h':Heap}{b:Nat}{ks:List Nat}(s:Seen h b ks)(f:Fr [] h h'):Seen h' b ks:=by
 obtain⟨es,c,e,x⟩:=s;exact⟨es,c,f.lp _ _ rfl e,x⟩
theorem w9{h:Heap}{b k:Nat}{ks:List Nat}(w:WF h)(s:Seen h b ks)(hk:k∉ks){K:V→Heap→Prop}(q:∀h',Seen h' b (ks++[k])→FrB [] b h h'→h'.next=h.next→K (.tup []) h'):OQ (amu h none (.map b) (.int .u64 (k:Int)) (.bool true)) K:=by
 obtain⟨es,c,e,e1,e2⟩:=s;have m:=jW k es ks 0 e1 e2;refine⟨.tup [],hT h b (es++[(.int .u64 (k:Int),.bool true,c)]) (c+1),?_,q _ ⟨_,_,T.get_set_self _ _ _,by simp[e1],fun x hx=>?_⟩ (FrB.hset w e rfl _) rfl⟩
 ·simp only[amu,e,show jK none (.int .u64 (k:Int))=true from rfl,cond_true,m.2 hk]
 ·rcases List.mem_append.1 hx with h1|h1
  ·exact e2 x h1
  ·simp at h1;subst h1;rfl
def RulesAt(h:Heap)(b:Nat)(Ks:List Knd)(cap:Int):Prop:=∃vK c2 c3 c4,Own h b [vK,.int .i64 cap,c2,c3,c4]∧Recs Knd.cells 9 h vK Ks∧∀q∈Ks,KndH h q
theorem RulesAt.fr{h h':Heap}{b:Nat}{Ks:List Knd}{cap:Int}(r:RulesAt h b Ks cap)(f:Fr [] h h'):RulesAt h' b Ks cap:=by
 obtain⟨vK,c2,c3,c4,o,r,k⟩:=r;exact⟨vK,c2,c3,c4,f.get o,Recs.fr r f,fun q m=>(k q m).fr f⟩
def bQ(Ks:List Knd)(cap:Int)(x:Itm):Int:=match Ks[x.type]? with
 |some q=>dO q.k q.tg q.ky q.sl q.tx q.sub x cap
 |none=>0
def TreeS(N:Nat)(h':Heap)(Ks:List Knd)(x:Itm)(cs:List V):Prop:=∃q s va vc,Ks[x.type]? =some q∧cs=[.int .u8 1,.str q.tg,.str q.ky,va,.str [],vc]∧(∀(X:List Nat)(h2:Heap),(∀y∈X,y<N)→Fr X h' h2→NH h2 (.cons 1 q.tg q.ky (q.sl.map (att x)) [] va vc s .nil))∧
 s.sh=bK x q.sub∧ST.count 1 q.tg q.ky (q.sl.map (att x)) [] (bK x q.sub)≠0
theorem ma{k:Nat}{tg ky tx:Str}{sl:List Slo}{sub:PT}{x:Itm}{most:Int}(e:dO k tg ky sl tx sub x most=0):ST.count 1 tg ky (sl.map (att x)) [] (bK x sub)≠0:=by
 intro z;unfold dO at e;split at e
 ·cases e
 ·split at e
  ·cases e
  ·split at e
   ·cases e
   ·rw[if_pos (.inl z)]at e;cases e
theorem lW{h:Heap}{b:Nat}{Ks:List Knd}{cap:Int}{x:Itm}(w:WF h)(r:RulesAt h b Ks cap)(a:ItmH h x)(ht:x.type<Ks.length):
 ao go 72 [.ptr b 0,.agg x.cells] h fun u h'=>∃cs,u=.tup [.agg cs,.int .i64 (bQ Ks cap x)]∧Fr [] h h'∧aq cs=true∧cs.length=6∧(bQ Ks cap x=0→TreeS h.next h' Ks x cs):=by
 obtain⟨vK,c2,c3,c4,o,rk,kh⟩:=r;obtain⟨h1,e_h1⟩:∃h1,h1=halloc h x.cells:=⟨_,rfl⟩;have F_h1:Fr [] h h1:=e_h1▸Fr.halloc w _;have o_h1:Own h1 h.next x.cells:=e_h1▸Own.new w _;obtain⟨h2,e_h2⟩:∃h2,h2=halloc h1 [.int .u8 0,.str [],.str [],.nils,.str [],.nils]:=⟨_,rfl⟩;have F_h2:Fr [] h1 h2:=e_h2▸Fr.halloc F_h1.wf _;have o_h2:Own h2 h1.next [.int .u8 0,.str [],.str [],.nils,.str [],.nils]:=e_h2▸Own.new F_h1.wf _;have n1:h1.next=h.next+1:=by rw[e_h1];rfl
 have F02:=F_h1.then F_h2;have ob:=F02.get o;have ox:=F_h2.get o_h1;have l0:ag h2 b 0=some vK:=ob.ld1 0;have l1:ag h2 b 1=some (.int .i64 cap):=ob.ld1 1;have x1:ag h2 h.next 1=some (.int .u8 (x.type:Int)):=ox.ld1 1;have x4:ak h2 h.next 0 4=some x.cells:=by rw[ox.ld];rfl
 obtain⟨bk,ok',q,p1,p2,p3,p4⟩:=(Recs.fr rk F02).ix dQ .u8 (x.type:Int) (by omega) (by omega);rw[Int.toNat_natCast]at p4;have hq:=kh q (List.mem_of_getElem? p4);have er:bQ Ks cap x=dO q.k q.tg q.ky q.sl q.tx q.sub x cap:=by simp[bQ,p4]
 have p6:ak h2 bk ok' 6=some q.part:=by
  obtain⟨b',o',e1,_,g2⟩:=Sl.ix (Recs.fr rk F02) .u8 (x.type:Int) (by omega) (by omega);rw[p1]at e1;cases e1;simp only[ak]at p3⊢;cases cc:cW h2 bk with
  |none=>rw[cc]at p3;cases p3
  |some C=>
   rw[cc]at p3;simp only[bq]at p3⊢;have hl:9≤(C.drop ok').length:=by
    rcases Nat.lt_or_ge (C.drop ok').length 9 with z|z
    ·exfalso;have tk:∀(n:Nat)(l:List V),l.length<n→cJ n l=none:=by
      intro n;induction n with
      |zero=>intro l hl;omega
      |succ n ih=>
       intro l hl;cases l with
       |nil=>rfl
       |cons a l=>
        rw[dV,ih l (by simpa using hl)];rfl
     rw[tk 9 _ z]at p3;cases p3
    ·exact z
   rw[aU _ _ hl]at p3;rw[aU _ _ (by omega)];have p3':=Option.some.inj p3;have:(C.drop ok').take 6=((C.drop ok').take 9).take 6:=by rw[List.take_take];rfl
   rw[this,p3'];rfl
 refine ah rfl rfl ?_;simp only[fn72,evs,seval,eff,←e_h1,←e_h2,l0,x1,p1,p6,x4,l1];refine aa (qc (vs:=q.vs) (vp:=q.vp) F_h2.wf (hq.fr F02) (a.fr F02)) ?_;rintro _ h3 ⟨cs,rfl,F3,z1,z2⟩;have on:aq cs=true∧cs.length=6:=by
  by_cases z:dO q.k q.tg q.ky q.sl q.tx q.sub x cap=0
  ·obtain⟨s,va,vc,rfl,n,_⟩:=z2 z;exact⟨NH.ones (n [] h3 (by simp) (Fr.refl F3.wf)),rfl⟩
  ·rw[z1 z];exact⟨rfl,rfl⟩
 have oz3:=F3.get o_h2;simp only[evs,seval,eff];refine ab (c':=cs) F3.wf oz3 on.2 on.1 (by
  rw[bE _ _ _ (by show 0+cs.length≤6;omega)];simp[V.cells];omega) ?_
 rintro h4 o4 F4 n4;have l4:ak h4 h1.next 0 6=some cs:=by
  rw[o4.ld,bV,aU _ _ (by omega),List.take_of_length_le (by omega)]
 simp only[evs,seval,DF,eff,l0,x1,p6,x4,l1,l4];refine⟨cs,by rw[er],(F02.then F3).fresh F4 w (by omega),on.1,on.2,fun z=>?_⟩;rw[er]at z;obtain⟨s,va,vc,e,n,es⟩:=z2 z;refine⟨q,s,va,vc,p4,e,fun X hh hX f=>n ([h1.next]++X) hh (fun y m=>?_) (Fr.trans F4 f F3.wf (fun y m=>.inl (List.mem_append.2 (.inl m))) (fun y m=>.inl (List.mem_append.2 (.inr m)))),es,ma z⟩;have:=F_h2.next;have n2:h2.next=h1.next+1:=by rw[e_h2];rfl
 rcases List.mem_append.1 m with m|m
 ·simp at m;omega
 ·have:=hX y m;omega
theorem vQ{h:Heap}{b:Nat}{Ks:List Knd}{cap:Int}{x:Itm}(w:WF h)(r:RulesAt h b Ks cap)(a:ItmH h x)(ht:x.type<Ks.length):
 ao go 72 [.ptr b 0,.agg x.cells] h fun u h'=>∃cs,u=.tup [.agg cs,.int .i64 (bQ Ks cap x)]∧Fr [] h h'∧aq cs=true∧cs.length=6:=by
 refine OQ.mono (lW w r a ht) ?_;rintro _ h' ⟨cs,e,f,o,l,_⟩;exact⟨cs,e,f,o,l⟩
def Ck(h0:Heap)(g:Nat)(caps:List V)(p:Nat→Bool):Prop:=g<1099511627776∧∀(h:Heap)(k:Nat),Fr [] h0 h→k<18446744073709551616→ao go g (.int .u64 (k:Int)::caps) h fun u h'=>u=.bool (p k)∧Fr [] h h'
def kH(Ks:List Knd)(cap:Int)(p:Nat→Bool):List Nat→List Itm→Int
 |_,[]=>0
 |seen,x::r=>if okI x Ks.length=false then 6 else if x.key∈seen∨p x.key=true then 8 else if bQ Ks cap x≠0 then bQ Ks cap x else kH Ks cap p (seen++[x.key]) r
theorem ut{h:Heap}{b g:Nat}{Ks:List Knd}{cap:Int}{v:V}{X:List Itm}{caps:List V}{p:Nat→Bool}(w:WF h)(r:RulesAt h b Ks cap)(hK:Ks.length≤8)(sl:ARecs Itm.cells 4 h v X)(hX:∀x∈X,ItmH h x)(hn:X.length≤4096)(Th:Ck h g caps p):
 ao go 94 [.ptr b 0,v,.func (.func g) [] caps] h fun u h'=>u=.int .i64 (kH Ks cap p [] X)∧Fr [] h h':=by
 obtain⟨h1,e_h1⟩:∃h1,h1=jB h:=⟨_,rfl⟩;have F_h1:Fr [] h h1:=e_h1▸Fr.hnew w _;have s1:Seen h1 h.next []:=⟨[],0,by rw[e_h1];exact oG _ _,rfl,by simp⟩;refine ah rfl rfl ?_;simp only[fn94,evs,seval,Eo,←e_h1,sl.len];refine aC (fun n env hh=>Fr [] h hh∧∃(i:Nat)(seen:List Nat),env.get 16=some (.int .i64 i)∧env.get 15=some (.int .i64 X.length)∧env.get 14=some v∧env.get 0=some (.ptr b 0)∧env.get 2=some (.func (.func g) [] caps)∧env.get 7=some (.map h.next)∧
  i≤X.length∧Seen hh h.next seen∧kH Ks cap p seen (X.drop i)=kH Ks cap p [] X∧n=X.length-i) X.length (by omega) ?_ ?_
 ·exact⟨F_h1,0,[],(by simp),(by simp),(by simp),(by simp),(by simp),(by simp),by omega,s1,rfl,rfl⟩
 ·rintro n env hh ⟨F,i,seen,g16,g15,g14,g0,g2,g7,hi,S,e,rfl⟩;by_cases hlt:i<X.length
  ·have hlt':(i:Int)<X.length:=by omega
   obtain⟨bi,oi,x,p1,_,p3,p4⟩:=(sl.fr F).ix (f:=Itm.cells) (k:=4) (fun _=>rfl) .i64 (i:Int) (by omega) hlt';rw[Int.toNat_natCast]at p4;have a:=hX x (List.mem_of_getElem? p4);rw[aJ p4]at e;simp only[kH]at e;obtain⟨h3,e_h3⟩:∃h3,h3=halloc hh [.int .u64 0,.int .u8 0,.str [],.nils]:=⟨_,rfl⟩;have F_h3:Fr [] hh h3:=e_h3▸Fr.halloc F.wf _;have o_h3:Own h3 hh.next [.int .u64 0,.int .u8 0,.str [],.nils]:=e_h3▸Own.new F.wf _;simp only[evs,seval,g16,g15,g14,hlt',p1,p3,←e_h3];refine ab (c':=x.cells) F_h3.wf o_h3 rfl a.one rfl ?_;rintro h4 o4 F4 n4;have F04:Fr [] hh h4:=F_h3.fresh F4 F.wf (Nat.le_refl _);have F0:=F.then F04;obtain⟨vK,c2,c3,c4,ob,rk,kh⟩:=r.fr F0;have x4:ak h4 hh.next 0 4=some x.cells:=by rw[o4.ld];rfl
   have l0:ag h4 b 0=some vK:=ob.ld1 0;simp only[evs,seval,eff,g0,x4,l0,(Recs.len rk)];refine aa (vg F04.wf (a.fr F0) (by omega)) ?_;rintro _ h5 ⟨rfl,F5⟩;cases c1:okI x Ks.length
   ·rw[c1,if_pos rfl]at e;simp only[evs,seval,DF,eff,x4,l0];exact⟨by rw[←e],F0.then F5⟩
   rw[c1,if_neg (by simp)]at e;have F05:=F0.then F5;have o5:=F5.get o4;have k0:ag h5 hh.next 0=some (.int .u64 (x.key:Int)):=o5.ld1 0;have S5:=(S.fr F04).fr F5;by_cases c2:x.key∈seen
   ·rw[if_pos (.inl c2)]at e;simp only[evs,seval,DF,eff,g7,x4,l0,k0,AF,pw,sf S5,c2];exact⟨by rw[←e],F05⟩
   simp only[evs,seval,DF,eff,g2,g7,x4,l0,k0,AF,pw,sf S5,c2,Th.1];refine aa (Th.2 h5 x.key F05 a.k) ?_;rintro _ h6 ⟨rfl,F6⟩;have F06:=F05.then F6;have o6:=F6.get o5;have k0':ag h6 hh.next 0=some (.int .u64 (x.key:Int)):=o6.ld1 0;cases c3:p x.key
   ·rw[if_neg (by simp[c2,c3])]at e;simp only[evs,seval,g7,k0',En,vD];refine w9 F6.wf (S5.fr F6) c2 ?_;intro h7 S7 B7 n7;have F07:Fr [] h h7:=FrB.fr w F06 B7 (by simp) (Nat.le_refl _);have o7:=B7.own _ _ (by simp) o6;have x7:ak h7 hh.next 0 4=some x.cells:=by rw[o7.ld];rfl
    have ht:x.type<Ks.length:=by
     simp only[okI,Bool.and_eq_true,decide_eq_true_eq]at c1;exact c1.2.1
    simp only[evs,seval,g0,x7];refine aa (vQ F07.wf (r.fr F07) (a.fr F07) ht) ?_;rintro _ h8 ⟨cs,rfl,F8,on,cl⟩;obtain⟨h9,e_h9⟩:∃h9,h9=halloc h8 [.int .u8 0,.str [],.str [],.nils,.str [],.nils]:=⟨_,rfl⟩;have F_h9:Fr [] h8 h9:=e_h9▸Fr.halloc F8.wf _;have o_h9:Own h9 h8.next [.int .u8 0,.str [],.str [],.nils,.str [],.nils]:=e_h9▸Own.new F8.wf _;simp only[evs,←e_h9];refine ab (c':=cs) F_h9.wf o_h9 cl on (by
     rw[bE _ _ _ (by show 0+cs.length≤6;omega)];simp[V.cells];omega) ?_
    rintro h10 o10 F10 n10;have F8a:Fr [] h7 h10:=(F8.then F_h9).fresh F10 F07.wf (by have:=F8.next;omega);have F010:=F07.then F8a;by_cases c4:bQ Ks cap x=0
    ·rw[if_neg (by simp[c4])]at e;simp(disch:=omega) only[evs,seval,ai,g16,c4];refine(aj _ _ _).2 ⟨X.length-(i+1),by omega,F010,i+1,seen++[x.key],(by simp),(by simp[g15]),(by simp[g14]),(by simp[g0]),(by simp[g2]),(by simp[g7]),by omega,S7.fr F8a,e,rfl⟩
     done
    ·rw[if_pos c4]at e;simp only[evs,seval,c4];exact⟨by rw[←e],F010⟩
   ·rw[if_pos (.inr c3)]at e;simp only[evs,seval];exact⟨by rw[←e],F06⟩
  ·simp only[evs,seval,g16,g15,show¬(i:Int)<X.length by omega];rw[List.drop_of_length_le (by omega)]at e;exact⟨by rw[←e];rfl,F⟩
open Go.Ev.St
set_option maxRecDepth 4000
theorem dD(x:Itm):x.cells.length=4:=rfl
theorem wj{X:List Itm}{i:Nat}{x:Itm}(h:X[i]? =some x):((X.flatMap Itm.cells).drop (i*4)).take 4=x.cells:=by
 rw[d8 dD,aJ h];rfl
def Good(h:Heap)(B:Nat):Prop:=∃c,Own h B c∧c.length≠6∧∀L:List (Int×Int),0<L.length→c≠L.flatMap sp
theorem Good.fr{h h':Heap}{B:Nat}{S:List Nat}(g:Good h B)(f:Fr S h h')(hB:B∉S):Good h' B:=by
 obtain⟨c,o,x⟩:=g;exact⟨c,f.own _ _ hB o,x⟩
theorem Km.good{h:Heap}{b S c:Nat}{m:Nat→Option Nat}(k:Km h b S m c){key x:Nat}(hm:m key=some x):Good h S:=by
 rcases k with⟨_,_,z⟩|⟨v,sl,t,k,_⟩
 ·rw[z]at hm;cases hm
 ·have n8:=k.n8;have hl:=mg sl;refine⟨_,k.tb.2,by omega,?_⟩;intro L p e;cases sl with
  |nil=>simp at n8
  |cons s r=>
   cases L with
   |nil=>simp at p
   |cons q L=>
    rw[List.flatMap_cons,List.flatMap_cons]at e;simp[sc,sp]at e
abbrev ew:=(Nat→Option Nat)×Nat
def rV(mc:ew)(key i:Nat):ew:=(jH mc.1 key i,if(mc.1 key).isSome=true then mc.2 else mc.2+1)
def fc(mc:ew):List Itm→Nat→ew
 |[],_=>mc
 |x::r,i=>fc (rV mc x.key i) r (i+1)
theorem Dq{h:Heap}{b bg B bm S i:Nat}{vK vc vl:V}{X:List Itm}{mc:ew}(w:WF h)(ob:Own h b [vK,vc,.ptr bg 0,.ptr bm 0,vl])(g:Gp h bg B X.length (X.flatMap Itm.cells))(k:Km h bm S mc.1 mc.2)
 (hX:∀x∈X,0<x.key∧x.key<18446744073709551616) (hi:i≤X.length) (hc:mc.2+X.length≤4096) (d1:b≠bm) (d2:b≠S) (d3:bg≠bm) (d4:bg≠S) (d5:B≠bm) (d6:B≠S) (lt:B<h.next) (gS:Good h S):
 ao go 99 [.ptr b 0,.int .i64 (i:Int)] h fun u h'=>u=.tup []∧∃S',(S'=S∨h.next≤S')∧Km h' bm S' (fc mc (X.drop i) i).1 (fc mc (X.drop i) i).2∧Fr [bm,S] h h'∧Good h' S':=by
 have hn:=g.len.2.1;have blt:=ob.lt w;have glt:bg<h.next:=by
  obtain⟨v,c1,G,c2,a,gg,m,k,_⟩:=g;exact k.ob.lt w
 refine ah rfl rfl ?_;simp only[fn99,evs,seval];refine aC (fun n env hh=>∃(j S':Nat)(mc':ew),(S'=S∨h.next≤S')∧Km hh bm S' mc'.1 mc'.2∧Fr [bm,S] h hh∧Good hh S'∧env.get 0=some (.ptr b 0)∧env.get 1=some (.int .i64 (j:Int))∧j≤X.length∧
  fc mc' (X.drop j) j=fc mc (X.drop i) i∧mc'.2+(X.length-j)≤4096∧n=X.length-j) (X.length-i) (by omega) ?_ ?_
 ·exact⟨i,S,mc,.inl rfl,k,Fr.refl w,gS,(by simp),(by simp),hi,rfl,by omega,by omega⟩
 ·rintro n env hh ⟨j,S',mc',hS,km,F,gd,g0,g1,hj,e,hc',rfl⟩;have e1:S'≠b:=by rcases hS with rfl|q<;>omega
  have ob':=F.own b _ (by simp;exact⟨d1,d2⟩) ob;have gp':=g.fr F (by simp;exact⟨d3,d4⟩) (by simp;exact⟨d5,d6⟩);have l2:ag hh b 2=some (.ptr bg 0):=ob'.ld1 2;simp only[evs,g0,l2];refine aa (uG gp') ?_;rintro _ _ ⟨rfl,rfl⟩;by_cases hlt:j<X.length
  ·obtain⟨x,hx⟩:∃x,X[j]? =some x:=⟨_,List.getElem?_eq_getElem hlt⟩;have xk:=hX x (List.mem_of_getElem? hx);simp only[evs,seval,g0,g1,l2,show(j:Int)<(X.length:Nat) by omega];obtain⟨v,c1,G,c2,a,gg,m,gt,el,en⟩:=gp';refine aa (Bc F.wf gt (i:=j) (by omega)) ?_;rintro _ h4 ⟨F4,rfl⟩;rw[←el,wj hx];obtain⟨h5,e_h5⟩:∃h5,h5=halloc h4 [.int .u64 0,.int .u8 0,.str [],.nils]:=⟨_,rfl⟩;have F_h5:Fr [] h4 h5:=e_h5▸Fr.halloc F4.wf _;have o_h5:Own h5 h4.next [.int .u64 0,.int .u8 0,.str [],.nils]:=e_h5▸Own.new F4.wf _;simp only[evs,seval,←e_h5];have on:aq x.cells=true:=by
    rw[←wj hx];exact dZ 4 (dI _ g.len.2.2)
   refine ab (c':=x.cells) F_h5.wf o_h5 rfl on rfl ?_;rintro h6 o6 F6 n6;have Fa:Fr [] hh h6:=(F4.then F_h5).fresh F6 F.wf (by have:=F4.next;omega);have l3:ag h6 b 3=some (.ptr bm 0):=(Fa.get ob').ld1 3;have x0:ag h6 h4.next 0=some (.int .u64 (x.key:Int)):=o6.ld1 0;rw[aJ hx]at e;simp only[fc]at e;simp only[evs,seval,eff,g0,g1,l3,x0];refine aa (Dg Fa.wf (km.fr Fa) (.inl (by omega)) xk.1 xk.2 (by omega)) ?_;rintro _ h7 ⟨rfl,S2,hS2,km7,F7⟩;have F07:Fr [bm,S] h h7:=by
    refine Fr.trans (Fr.trans (T:=[bm,S]) F Fa w (fun y hy=>.inl hy) (by simp)) F7 w (fun y hy=>.inl hy) (fun y hy=>?_);simp at hy;rcases hy with rfl|rfl
    ·exact .inl (by simp)
    ·rcases hS with rfl|q
     ·exact .inl (by simp)
     ·exact .inr q
   have hS3:S2=S∨h.next≤S2:=by
    rcases hS2 with rfl|q
    ·exact hS
    ·exact .inr (Nat.le_trans (Nat.le_trans F.next Fa.next) q)
   simp(disch:=omega) only[evs,seval,DF,ai,g1,l3,x0];refine(aj _ _ _).2 ⟨X.length-(j+1),by omega,j+1,S2,rV mc' x.key j,hS3,km7,F07,km7.good (key:=x.key) (x:=j) (by simp[jH]),(by simp[g0]),(by simp),by omega,e,?_,rfl⟩;simp only[rV];split<;>omega
  ·simp only[evs,seval,g1,show¬(j:Int)<(X.length:Nat) by omega];rw[List.drop_of_length_le (by omega)]at e;simp only[fc]at e;refine⟨S',hS,?_,F,gd⟩;rw[←e];exact km
set_option maxRecDepth 4000
def aN(Ks:List Knd)(x:Itm):Int:=match Ks[x.type]? with
 |some q=>q.base
 |none=>0
def dJ(Ks:List Knd)(x:Itm):Bool:=match Ks[x.type]? with
 |some q=>q.sticky
 |none=>false
theorem cC{call:aD}{env:T V}{late:List Nat}{s:IStep}{l:List IStep}{i:Nat}{loc:List V}{h h':Heap}{v:V}(hi:late.contains i=false)(he:eff s.op=false)(e:aK call loc env h s.op=some (v,h')):
 lay call env late (s::l) i loc h=(lay call env late l (i+1) (v::loc) h).map fun r=>((s,none)::r.1,r.2):=by
 simp only[lay,hi,cond_false,qu,he,e];cases lay call env late l (i+1) (v::loc) h<;>rfl
theorem uk{call:aD}{env:T V}{late:List Nat}{s:IStep}{l:List IStep}{i:Nat}{loc:List V}{h:Heap}(hi:late.contains i=false)(he:eff s.op=true):
 lay call env late (s::l) i loc h=(lay call env late l (i+1) (.tup []::loc) h).map fun r=>((s,none)::r.1,r.2):=by
 simp only[lay,hi,cond_false,qu,he,cond_true];cases lay call env late l (i+1) (V.tup []::loc) h<;>rfl
theorem xj{call:aD}{env:T V}{late:List Nat}{s:IStep}{l:List IStep}{i:Nat}{loc:List V}{h:Heap}{c:List V}{k:Option (Nat×Nat)}(hi:late.contains i=true)(e:fZ loc env s.op=some (c,k)):
 lay call env late (s::l) i loc h=(lay call env late l (i+1) (dy h.next k::loc) (halloc h c)).map fun r=>((s,some (dy h.next k,c))::r.1,r.2):=by
 simp only[lay,hi,cond_true,e];cases lay call env late l (i+1) (dy h.next k::loc) (halloc h c)<;>rfl
theorem HY{env:T V}{h:Heap}{b8:Nat}{v4 v5:V}{base:Int}{st:Bool}(g4:env.get 4=some v4)(g5:env.get 5=some v5)(g8:env.get 8=some (.ptr b8 0))(l6:ag h b8 6=some (.int .i64 base))(l7:ag (halloc h [.int .i64 base]) b8 7=some (.bool st)):
 lay go env [3,8] [⟨none,.p .mv [.v 4],none⟩,⟨none,.p (.faddr 6) [.v 8],none⟩,⟨none,.ld 1 false (.l 0),none⟩,⟨none,.bs [(.int .i64 0)] [(0,1)] 1 [.l 0],none⟩,⟨none,.ap 1 8 (.l 3) (.l 0),none⟩,⟨none,.p .mv [.v 5],none⟩,⟨none,.p (.faddr 7) [.v 8],none⟩,⟨none,.ld 1 false (.l 0),none⟩,⟨none,.bs [(.bool false)] [(0,1)] 1 [.l 0],none⟩,⟨none,.ap 1 1 (.l 3) (.l 0),none⟩,⟨none,.p .mv [.l 5],none⟩,⟨none,.p .mv [.l 1],none⟩] 0 [] h=
  some ([(⟨none,.p .mv [.v 4],none⟩,none),(⟨none,.p (.faddr 6) [.v 8],none⟩,none),(⟨none,.ld 1 false (.l 0),none⟩,none),(⟨none,.bs [(.int .i64 0)] [(0,1)] 1 [.l 0],none⟩,some (.slice h.next 0 1 1,[.int .i64 base])),(⟨none,.ap 1 8 (.l 3) (.l 0),none⟩,none),(⟨none,.p .mv [.v 5],none⟩,none),(⟨none,.p (.faddr 7) [.v 8],none⟩,none),(⟨none,.ld 1 false (.l 0),none⟩,none),(⟨none,.bs [(.bool false)] [(0,1)] 1 [.l 0],none⟩,some (.slice (h.next+1) 0 1 1,[.bool st])),(⟨none,.ap 1 1 (.l 3) (.l 0),none⟩,none),(⟨none,.p .mv [.l 5],none⟩,none),(⟨none,.p .mv [.l 1],none⟩,none)],
   halloc (halloc h [.int .i64 base]) [.bool st]):=by
 have ev_mv:∀(loc:List V)(h:Heap)(x:Opd)(v:V),evO loc env x=some v→aK go loc env h (.p .mv [x])=some (v,h):=fun loc h x v e=>by
  simp only[aK,eP,cL,e,bW,aP]
 have ev_fa:∀(loc:List V)(h:Heap)(k:Nat),aK go loc env h (.p (.faddr k) [.v 8])=some (.ptr b8 k,h):=fun loc h k=>by
  simp only[aK,eP,cL,gh,g8,bW,gz,Nat.zero_add]
 have ev_ld:∀(loc:List V)(h:Heap)(k:Nat)(v:V),ag h b8 k=some v→aK go (.ptr b8 k::loc) env h (.ld 1 false (.l 0))=some (v,h):=fun loc h k v e=>by
  simp only[aK,mj,bv,eg,e]
 rw[cC rfl rfl (ev_mv _ _ _ _ (by rw[gh];exact g4)),cC rfl rfl (ev_fa _ _ _),cC rfl rfl (ev_ld _ _ _ _ l6)];rw[xj (c:=[.int .i64 base]) (k:=some (1,1)) rfl rfl,uk rfl rfl,cC rfl rfl (ev_mv _ _ _ _ (by rw[gh];exact g5)),cC rfl rfl (ev_fa _ _ _),cC rfl rfl (ev_ld _ _ _ _ l7)];rw[xj (c:=[.bool st]) (k:=some (1,1)) rfl rfl,uk rfl rfl,cC (v:=.tup []) rfl rfl (ev_mv _ _ _ _ rfl),cC (v:=.tup []) rfl rfl (ev_mv _ _ _ _ rfl)];rfl
theorem Ha(loc:List V)(env:T V)(n:Nat)(b:Int):bI (.int .i64 b::loc) env (.bs [.int .i64 0] [(0,1)] 1 [.l 0]) (.slice n 0 1 1) [.int .i64 b]=true:=by
 have e:fZ (.int .i64 b::loc) env (.bs [.int .i64 0] [(0,1)] 1 [.l 0])=some ([.int .i64 b],some (1,1)):=rfl;simp only[bI,e,lid,dy,du,jP,Bool.and_self]
theorem G8(loc:List V)(env:T V)(n:Nat)(b:Bool):bI (.bool b::loc) env (.bs [.bool false] [(0,1)] 1 [.l 0]) (.slice n 0 1 1) [.bool b]=true:=by
 have e:fZ (.bool b::loc) env (.bs [.bool false] [(0,1)] 1 [.l 0])=some ([.bool b],some (1,1)):=rfl;simp only[bI,e,lid,dy,du,jP,Bool.and_self]
theorem vj{h:Heap}{b:Nat}{Ks:List Knd}{cap:Int}{v:V}{X:List Itm}(w:WF h)(r:RulesAt h b Ks cap)(sl:ARecs Itm.cells 4 h v X)(hX:∀x∈X,ItmH h x∧x.type<Ks.length)(hn:X.length≤4096):
 ao go 103 [.ptr b 0,v] h fun u h'=>∃v4 v5,u=.tup [v4,v5]∧Gs h' h.next 1 v4 (X.map fun x=>.int .i64 (aN Ks x))∧Gs h' h.next 1 v5 (X.map fun x=>.bool (dJ Ks x))∧Fr [] h h':=by
 refine ah rfl rfl ?_;simp only[fn103,evs,seval,sl.len];refine aC (fun n env hh=>Fr [] h hh∧∃(i:Nat)(v4 v5:V),env.get 11=some (.int .i64 i)∧env.get 10=some (.int .i64 X.length)∧env.get 9=some v∧env.get 0=some (.ptr b 0)∧env.get 4=some v4∧env.get 5=some v5∧
  i≤X.length∧Gs hh h.next 1 v4 ((X.take i).map fun x=>.int .i64 (aN Ks x))∧Gs hh h.next 1 v5 ((X.take i).map fun x=>.bool (dJ Ks x))∧(∀y∈vb v4,y∉vb v5)∧n=X.length-i) X.length (by omega) ?_ ?_
 ·exact⟨Fr.refl w,0,.nils,.nils,(by simp),(by simp),(by simp),(by simp),(by simp),(by simp),by omega,.inl ⟨rfl,rfl⟩,.inl ⟨rfl,rfl⟩,by simp[vb],rfl⟩
 ·rintro n env hh ⟨F,i,v4,v5,g11,g10,g9,g0,g4,g5,hi,G4,G5,dj,rfl⟩;by_cases hlt:i<X.length
  ·have hlt':(i:Int)<X.length:=by omega
   obtain⟨bi,oi,x,p1,_,p3,p4⟩:=(sl.fr F).ix (f:=Itm.cells) (k:=4) (fun _=>rfl) .i64 (i:Int) (by omega) hlt';rw[Int.toNat_natCast]at p4;obtain⟨a,ht⟩:=hX x (List.mem_of_getElem? p4);obtain⟨h3,e_h3⟩:∃h3,h3=halloc hh [.int .u64 0,.int .u8 0,.str [],.nils]:=⟨_,rfl⟩;have F_h3:Fr [] hh h3:=e_h3▸Fr.halloc F.wf _;have o_h3:Own h3 hh.next [.int .u64 0,.int .u8 0,.str [],.nils]:=e_h3▸Own.new F.wf _;simp only[evs,seval,g11,g10,g9,hlt',p1,p3,←e_h3];refine ab (c':=x.cells) F_h3.wf o_h3 rfl a.one rfl ?_;rintro h4 o4 F4 n4;have F04:Fr [] hh h4:=F_h3.fresh F4 F.wf (Nat.le_refl _);have F0:=F.then F04;obtain⟨vK,c2,c3,c4,ob,rk,kh⟩:=r.fr F0;have l0:ag h4 b 0=some vK:=ob.ld1 0;have x1:ag h4 hh.next 1=some (.int .u8 (x.type:Int)):=o4.ld1 1;obtain⟨bk,ok',q,q1,_,q3,q4⟩:=(Recs.ix dQ rk .u8 (x.type:Int) (by omega) (by omega));rw[Int.toNat_natCast]at q4;have hq:=kh q (List.mem_of_getElem? q4);have e1:aN Ks x=q.base:=by simp[aN,q4]
   have e2:dJ Ks x=q.sticky:=by simp[dJ,q4]
   obtain⟨h5,e_h5⟩:∃h5,h5=halloc h4 [.int .u8 0,.str [],.str [],.nils,.str [],.nils,.int .i64 0,.bool false,.int .i64 0]:=⟨_,rfl⟩;have F_h5:Fr [] h4 h5:=e_h5▸Fr.halloc F04.wf _;have o_h5:Own h5 h4.next [.int .u8 0,.str [],.str [],.nils,.str [],.nils,.int .i64 0,.bool false,.int .i64 0]:=e_h5▸Own.new F04.wf _;simp only[evs,seval,eff,g0,l0,x1,q1,q3,←e_h5];have l0':ag h5 b 0=some vK:=(F_h5.get ob).ld1 0;refine ab (c':=q.cells) F_h5.wf o_h5 rfl hq.ones9 rfl ?_;rintro h6 o6 F6 n6;have F46:Fr [] h4 h6:=F_h5.fresh F6 F04.wf (Nat.le_refl _);have x1':ag h6 hh.next 1=some (.int .u8 (x.type:Int)):=(F46.get o4).ld1 1;have l0'':ag h6 b 0=some vK:=(F46.get ob).ld1 0;have q3f:∀h',Fr [] h4 h'→ak h' bk ok' 9=some q.cells:=by
    intro h' f;obtain⟨b9,o9,_,r1,_,r3,r4⟩:=(Recs.ix dQ (Recs.fr rk f) .u8 (x.type:Int) (by omega) (by omega));rw[Int.toNat_natCast,q4]at r4;cases r4;rw[q1]at r1;cases r1;exact r3
   have q5:=q3f h5 F_h5;have q6:=q3f h6 F46;have x5:ag h5 hh.next 1=some (.int .u8 (x.type:Int)):=(F_h5.get o4).ld1 1;simp only[evs,seval,DF,l0,x1,q3,l0',q5,x5];have F7:=Fr.halloc F46.wf [.int .i64 q.base];have o7:=F7.get o6;have F8:=Fr.halloc F7.wf [.bool q.sticky];have w1:=Own.new F46.wf [.int .i64 q.base];have w2:=Own.new F7.wf [.bool q.sticky];have l6:ag h6 h4.next 6=some (.int .i64 q.base):=o6.ld1 6;have l7:ag (halloc h6 [.int .i64 q.base]) h4.next 7=some (.bool q.sticky):=o7.ld1 7;refine(zP _ _ _ _ _ _ _).2 ?_;rw[HY (v4:=v4) (v5:=v5) (b8:=h4.next) (by simp[g4]) (by simp[g5]) (by simp) l6 l7,gC];have o8:=F8.get o7;have l68:ag (halloc (halloc h6 [.int .i64 q.base]) [.bool q.sticky]) h4.next 6=some (.int .i64 q.base):=o8.ld1 6;have l78:ag (halloc (halloc h6 [.int .i64 q.base]) [.bool q.sticky]) h4.next 7=some (.bool q.sticky):=o8.ld1 7;have w1':=F8.get w1;have w2':Own (halloc (halloc h6 [.int .i64 q.base]) [.bool q.sticky]) (h6.next+1) [.bool q.sticky]:=w2;have F68:Fr [] h6 (halloc (halloc h6 [.int .i64 q.base]) [.bool q.sticky]):=F7.then F8;have nx:(halloc (halloc h6 [.int .i64 q.base]) [.bool q.sticky]).next=h6.next+2:=rfl;generalize halloc (halloc h6 [.int .i64 q.base]) [.bool q.sticky]=h8 at l68 l78 w1' w2' F68 nx o8⊢;simp only[evs,seval,eff,g4,l68,c7,Ha];have Fh8:Fr [] hh h8:=(F04.then F46).then F68;have hnh:=Fh8.next;have h4n:=F46.next;have h0n:=F.next;have v4l:∀y∈vb v4,y<hh.next:=by
    rcases G4 with⟨rfl,_⟩|⟨b,n,rfl,_,_,_,o⟩
    ·simp[vb]
    ·have:=o.lt F.wf;simp only[vb,List.mem_singleton];rintro y rfl;exact this
   have v5l:∀y∈vb v5,y<hh.next:=by
    rcases G5 with⟨rfl,_⟩|⟨b,n,rfl,_,_,_,o⟩
    ·simp[vb]
    ·have:=o.lt F.wf;simp only[vb,List.mem_singleton];rintro y rfl;exact this
   have n4h:hh.next≤h4.next:=F04.next;refine Gs.append1 (n:=1) F68.wf (G4.fr Fh8) (Sl.lit w1' rfl) (by omega) (by omega) rfl (by omega) (by simp;omega) ?_;intro v4' h9 G9 e9 F9;have l69:ag h9 h4.next 6=some (.int .i64 q.base):=(F9.own _ _ (fun m=>by have:=v4l _ m;omega) o8).ld1 6;have l79:ag h9 h4.next 7=some (.bool q.sticky):=(F9.own _ _ (fun m=>by have:=v4l _ m;omega) o8).ld1 7;have w29:=F9.own _ _ (fun m=>by have:=v4l _ m;omega) w2';have G59:Gs h9 h.next 1 v5 ((X.take i).map fun x=>.bool (dJ Ks x)):=by
    rcases G5.fr Fh8 with⟨rfl,z⟩|⟨b,n,rfl,z1,z2,z3,o⟩
    ·exact .inl ⟨rfl,z⟩
    ·exact .inr ⟨b,n,rfl,z1,z2,z3,F9.own _ _ (fun m=>dj _ m (by simp[vb])) o⟩
   simp only[evs,seval,eff,g5,l79,c7,G8];have h9n:=F9.next;refine Gs.append1 (n:=1) F9.wf G59 (Sl.lit w29 rfl) (by omega) (by omega) rfl (by omega) (by simp;omega) ?_;intro v5' h10 G10 e10 F10;have F010:Fr [] h h10:=by
    refine Fr.new w (Fr.new w (F.then Fh8) F9 (fun y hy=>?_)) F10 (fun y hy=>?_)
    ·rcases G4 with⟨rfl,_⟩|⟨b,n,rfl,_,_,hb,o⟩
     ·simp[vb]at hy
     ·simp[vb]at hy;omega
    ·rcases G5 with⟨rfl,_⟩|⟨b,n,rfl,_,_,hb,o⟩
     ·simp[vb]at hy
     ·simp[vb]at hy;omega
   have G410:Gs h10 h.next 1 v4' ((X.take i).map (fun x=>.int .i64 (aN Ks x))++[.int .i64 q.base]):=by
    rcases G9 with⟨rfl,z⟩|⟨b,n,rfl,z1,z2,z3,o⟩
    ·exact .inl ⟨rfl,z⟩
    ·refine .inr ⟨b,n,rfl,z1,z2,z3,F10.own _ _ (fun m=>?_) o⟩;have:=v5l _ m;simp[vb]at e9;omega
   simp(disch:=omega) only[evs,seval,DF,eff,ai,g11,l68,l78,l79];refine(aj _ _ _).2 ⟨X.length-(i+1),by omega,F010,i+1,v4',v5',(by simp),(by simp[g10]),(by simp[g9]),(by simp[g0]),(by simp),(by simp),by omega,?_,?_,?_,rfl⟩
   ·rw[List.take_add_one,p4];simpa[e1]using G410
   ·rw[List.take_add_one,p4];simpa[e2]using G10
   ·have:h8.next<h9.next:=by
     rcases G9 with⟨rfl,_⟩|⟨b,n,rfl,_,_,_,o⟩
     ·simp[vb]at e9
     ·have:=o.lt F9.wf;simp[vb]at e9;omega
    rw[e9,e10];simp;omega
  ·simp only[evs,seval,g11,g10,g4,g5,show¬(i:Int)<X.length by omega];rw[List.take_of_length_le (by omega)]at G4 G5;exact⟨v4,v5,rfl,G4,G5,F⟩
def Oth(h:Heap)(S:List Nat):Prop:=∀b∈S,∀c,Own h b c→c.length≠6∧∀L:List (Int×Int),0<L.length→c≠L.flatMap sp
theorem At.frS{h h':Heap}{S:List Nat}(f:Fr S h h')(o:Oth h S):∀{t:Tr}{p:Option Nat},At h t p→At h' t p
 |.nil,_,a=>a
 |.node l s r,_,⟨q,pl,pr,e,oq,al,ar⟩=>⟨q,pl,pr,e,f.own _ _ (fun m=>(o q m _ oq).1 rfl) oq,At.frS f o al,At.frS f o ar⟩
theorem LoP.frS{h h':Heap}{b:Nat}{pm:Option Nat}{l:List Int}{ks bs:List Bool}{S:List Nat}(a:LoP h b pm l ks bs)(f:Fr S h h')(o:Oth h S)(hb:b∉S)(hp:∀q,pm=some q→q∉S):LoP h' b pm l ks bs:=by
 obtain⟨p,vk,ow,v1,⟨p',vk',L,e1,⟨t,p2,e2,at',tl,ft⟩,sL,x⟩,mk,e⟩:=a;refine⟨p,vk,f.own _ _ hb ow,v1,⟨p',vk',L,e1,⟨t,p2,e2,At.frS f o at',tl,ft⟩,?_,x⟩,?_,e⟩
 ·rcases sL with z|⟨q,e3,oq,lq⟩
  ·exact .inl z
  ·exact .inr ⟨q,e3,f.own _ _ (fun m=>(o q m _ oq).2 L lq rfl) oq,lq⟩
 ·cases pm with
  |none=>exact mk
  |some q=>
   obtain⟨ws,oq,y⟩:=mk;exact⟨ws,f.own _ _ (hp q rfl) oq,y⟩
theorem AL{c:List V}(n:NoI c):∀L:List (Int×Int),0<L.length→c≠L.flatMap sp:=by
 intro L p e;cases L with
 |nil=>simp at p
 |cons s L=>exact n (.int .i64 s.1) (by rw[e];simp[sp]) _ rfl
open Go.Ev.St
set_option maxRecDepth 4000
theorem Km.frS{h h':Heap}{b S c:Nat}{m:Nat→Option Nat}{X:List Nat}(k:Km h b S m c)(f:Fr X h h')(hb:b∉X)(hS:S∉X):Km h' b S m c:=by
 rcases k with⟨o,x⟩|⟨v,sl,t,k,x⟩
 ·exact .inl ⟨f.own _ _ hb o,x⟩
 ·exact .inr ⟨v,sl,t,{k with ob:=f.own _ _ hb k.ob,tb:=⟨k.tb.1,f.own _ _ hS k.tb.2⟩},x⟩
theorem Km.lt{h:Heap}{b S c:Nat}{m:Nat→Option Nat}(k:Km h b S m c)(w:WF h):b<h.next:=by
 rcases k with⟨o,x⟩|⟨v,sl,t,k,x⟩
 ·exact o.lt w
 ·exact k.ob.lt w
theorem iv{c:List V}{n:Nat}(h:c.length=2*n+1):∀L:List (Int×Int),0<L.length→c≠L.flatMap sp:=by
 rintro L _ rfl;have:=aG dF L;omega
theorem Oth.app{h:Heap}{A B:List Nat}(a:Oth h A)(b:Oth h B):Oth h (A++B):=fun x m=>(List.mem_append.1 m).elim (a x) (b x)
theorem Oth.own{h:Heap}{b:Nat}{c:List V}(o:Own h b c)(h6:c.length≠6)(hs:∀L:List (Int×Int),0<L.length→c≠L.flatMap sp):Oth h [b]:=by
 intro x m c' o';simp at m;subst m;rw[o'.uniq o];exact⟨h6,hs⟩
theorem Gp.oth{h:Heap}{b B n:Nat}{l:List V}(w:WF h)(g:Gp h b B n l)(hB:B<h.next→Own h B []∨∀c,Own h B c→c.length%4=0∧NoI c):Oth h [b,B]:=by
 obtain⟨v,c1,G,c2,a,gg,m,k,_⟩:=g;intro x mx c o;simp at mx;rcases mx with rfl|rfl
 ·rw[o.uniq k.ob];exact⟨by simp,iv (n:=1) rfl⟩
 ·rcases hB (o.lt w)with e|e
  ·rw[o.uniq e];exact⟨by simp,fun L p q=>by cases L with|nil=>simp at p|cons s L=>simp[sp]at q⟩
  ·obtain⟨e1,e2⟩:=e c o;exact⟨by omega,AL e2⟩
theorem Good.oth{h:Heap}{B:Nat}(g:Good h B):Oth h [B]:=by
 obtain⟨c,o,a,b⟩:=g;exact Oth.own o a b
theorem Gp.good{h:Heap}{b B n:Nat}{l:List V}(g:Gp h b B n l)(h0:0<n):Good h B:=by
 obtain⟨v,c1,G,c2,a,gg,m,k,_,rfl⟩:=g;obtain⟨hl,⟨_,z⟩|⟨_,o⟩⟩:=k.tb
 ·omega
 ·exact⟨_,o,by omega,AL k.n6⟩
theorem Gp.ob{h:Heap}{b B n:Nat}{l:List V}(g:Gp h b B n l):Good h b∧B≠b:=by
 obtain⟨v,c1,G,c2,a,gg,m,k,_,rfl⟩:=g;exact⟨⟨_,k.ob,by simp,iv (n:=1) rfl⟩,k.ne⟩
structure Dis(b bg B bm S bl:Nat)(pm:Option Nat):Prop where
 b1:b≠bg
 b2:b≠B
 b3:b≠bm
 b4:b≠S
 b5:b≠bl
 g1:bg≠bm
 g2:bg≠S
 g3:bg≠bl
 t1:B≠bm
 t2:B≠S
 t3:B≠bl
 m1:bm≠bl
 m2:S≠bl
 p:∀q,pm=some q→q≠b∧q≠bg∧q≠B∧q≠bm∧q≠S∧q≠bl
def Wr(b bg B bm S bl:Nat)(pm:Option Nat):List Nat:=[b,bg,B,bm,S,bl]++pm.toList
structure Sto(n0:Nat)(h:Heap)(b:Nat)(Ks:List Knd)(cap:Int)(X:List Itm)(l:List Int)(kn st:List Bool)(vK:V)(bg B bm S bl:Nat)(pm:Option Nat)(mc:ew):Prop where
 ob:Own h b [vK,.int .i64 cap,.ptr bg 0,.ptr bm 0,.ptr bl 0]
 g:Gp h bg B X.length (X.flatMap Itm.cells)
 gB:Good h B
 k:Km h bm S mc.1 mc.2
 gS:Good h S
 lo:LoP h bl pm l kn st
 len:l.length=X.length
 rd:∀(Z:List Nat)(h':Heap),(∀z∈Z,z∈Wr b bg B bm S bl pm∨h.next≤z∨z<n0)→Fr Z h h'→Recs Knd.cells 9 h' vK Ks∧(∀q∈Ks,KndH h' q)∧∀x∈X,ItmH h' x
 d:Dis b bg B bm S bl pm
 Sl':S<h.next
 pl:∀q,pm=some q→q<h.next
 bl':bl<h.next
 n0l:n0≤h.next
theorem Sl.noint{h:Heap}{e:Nat}{v:V}{n:Nat}{cs:List V}(a:Sl h e v n cs)(k:IntKind)(i:Int):v≠.int k i:=by
 rintro rfl;exact a.2.elim
theorem dY(x:Itm)(v:V):(x.own v).cells=[.int .u64 (x.key:Int),.int .u8 (x.type:Int),.str x.text,v]:=rfl
theorem Km.bmgood{h:Heap}{b S c:Nat}{m:Nat→Option Nat}(k:Km h b S m c):Good h b:=by
 rcases k with⟨o,x⟩|⟨v,sl,t,k,x⟩
 ·exact⟨_,o,by simp,iv (n:=1) rfl⟩
 ·exact⟨_,k.ob,by simp,iv (n:=1) rfl⟩
theorem Good.lt{h:Heap}{b:Nat}(g:Good h b)(w:WF h):b<h.next:=by
 obtain⟨c,o,_⟩:=g;exact o.lt w
theorem LoP.pmlt{h:Heap}{b:Nat}{pm:Option Nat}{l:List Int}{ks bs:List Bool}(a:LoP h b pm l ks bs)(w:WF h):(∀q,pm=some q→q<h.next)∧b<h.next:=by
 obtain⟨p,vk,o,_,_,mk,_⟩:=a;refine⟨?_,o.lt w⟩;rintro q rfl;obtain⟨ws,oq,_⟩:=mk;exact oq.lt w
theorem C8{x:Itm}{v:V}(h:∀n:Int,v≠.int .i64 n):NoI (x.own v).cells:=by
 intro y m n;rw[dY]at m;simp at m;rcases m with rfl|rfl|rfl|rfl
 ·simp
 ·simp
 ·simp
 ·exact h n
def Cps:List Itm→List Itm→Prop
 |[],[]=>True
 |x::l,y::m=>(∃v,y=x.own v∧nZ v=true)∧Cps l m
 |_,_=>False
theorem Cps.len:∀{a b:List Itm},Cps a b→a.length=b.length
 |[],[],_=>rfl
 |_::_,_::_,h=>by simp[Cps.len h.2]
 |[],_::_,h=>h.elim
 |_::_,[],h=>h.elim
theorem Cps.app:∀{a b c d:List Itm},Cps a b→Cps c d→Cps (a++c) (b++d)
 |[],[],_,_,_,g=>g
 |_::_,_::_,_,_,h,g=>⟨h.1,Cps.app h.2 g⟩
 |[],_::_,_,_,h,_=>h.elim
 |_::_,[],_,_,h,_=>h.elim
theorem Cps.mem:∀{a b:List Itm}{y:Itm},Cps a b→y∈b→∃x∈a,∃v,y=x.own v
 |x::a,z::b,y,h,m=>by
  rcases List.mem_cons.1 m with rfl|m
  ·obtain⟨⟨v,e,_⟩,_⟩:=h;exact⟨x,by simp,v,e⟩
  ·obtain⟨x',hx,e⟩:=Cps.mem h.2 m;exact⟨x',by simp[hx],e⟩
 |[],[],_,_,m=>by simp at m
 |[],_::_,_,h,_=>h.elim
 |_::_,[],_,h,_=>h.elim
theorem Sl.nz{h:Heap}{e:Nat}{v:V}{n:Nat}{cs:List V}(a:Sl h e v n cs):nZ v=true:=by
 cases v<;>first|rfl|exact a.2.elim
theorem Cps.nz:∀{a b:List Itm},Cps a b→∀y∈b,nZ y.vm=true
 |x::a,z::b,h,y,m=>by
  rcases List.mem_cons.1 m with rfl|m
  ·obtain⟨⟨v,rfl,z⟩,_⟩:=h;exact z
  ·exact Cps.nz h.2 y m
 |[],[],_,_,m=>by simp at m
 |[],_::_,h,_,_=>h.elim
theorem CL{n0:Nat}{h:Heap}{b bg B bm S bl p:Nat}{Ks:List Knd}{cap:Int}{X Y:List Itm}{l:List Int}{kn st:List Bool}{vK v:V}{pm:Option Nat}{mc:ew}(w:WF h)(s:Sto n0 h b Ks cap X l kn st vK bg B bm S bl pm mc)
 (hp:p≤X.length) (hn:X.length+Y.length≤1024) (hc:mc.2+(X.length+Y.length)≤4096)
 (sv:∀(Z:List Nat)(h':Heap),(∀z∈Z,z∈Wr b bg B bm S bl pm∨h.next≤z)→Fr Z h h'→ARecs Itm.cells 4 h' v Y∧∀y∈Y,ItmH h' y)
 (hY:∀y∈Y,nZ y.vm=true∧y.type<Ks.length∧0<y.key) (hX:∀x∈X,0<x.key) (e0:ce l p (Y.map (aN Ks))=0):
 ao go 96 [.ptr b 0,.int .i64 (p:Int),v] h fun u h'=>u=.int .i64 0∧∃Y' B' S' pm',Cps Y Y'∧
  Sto n0 h' b Ks cap (X.take p++Y'++X.drop p) (l.take p++Y.map (aN Ks)++l.drop p) (kn.take p++List.replicate Y.length false++kn.drop p) (st.take p++Y.map (dJ Ks)++st.drop p) vK bg B' bm S' bl pm'
   (fc mc ((X.take p++Y'++X.drop p).drop p) p)∧Fr (Wr b bg B bm S bl pm) h h'∧(B'=B∨h.next≤B')∧(S'=S∨h.next≤S')∧(pm'=pm∨∀q,pm'=some q→h.next≤q):=by
 obtain⟨sY,hYI⟩:=sv [] h (by simp) (Fr.refl w);obtain⟨rk,kh,xh⟩:=s.rd [] h (by simp) (Fr.refl w);refine ah rfl rfl ?_;simp only[fn96,evs,seval];refine aa (vj w ⟨vK,_,_,_,s.ob,rk,kh⟩ sY (fun y m=>⟨hYI y m,(hY y m).2.1⟩) (by omega)) ?_;rintro _ h1 ⟨v4,v5,rfl,G4,G5,F1⟩;have am:mJ h1 v4 (Y.map (aN Ks)):=by
  have:=G4.sl (n:=(Y.map (aN Ks)).length) (by simp) (by omega);unfold mJ Vals;rw[List.map_map];exact this
 have as:Bools h1 v5 (Y.map (dJ Ks)):=by
  have:=G5.sl (n:=(Y.map (dJ Ks)).length) (by simp) (by omega);unfold Bools Vals;rw[List.map_map];exact this
 have l4:ag h1 b 4=some (.ptr bl 0):=(F1.get s.ob).ld1 4;simp only[evs,seval,l4];refine aa (vF F1.wf (s.lo.fr F1) am as (by simp;omega) (by simp) (by omega) (by omega)) ?_;rintro _ h2 ⟨rfl,F2,pm',hpm,lo2⟩;rw[e0,if_pos rfl]at lo2;simp only[Int.toNat_natCast,List.length_map]at lo2;have d:=s.d;have hpm2:∀q,pm'=some q→pm=some q∨h.next≤q:=by
  intro q hq;rcases hpm with rfl|⟨_,x⟩
  ·exact .inl hq
  ·exact .inr (Nat.le_trans F1.next (x q hq))
 have F12:Fr (bl::pm.toList) h h2:=Fr.trans F1 F2 w (by simp) (fun x m=>.inl m);have npm:∀x,(∀q,pm=some q→q≠x)→bl≠x→x∉bl::pm.toList:=by
  intro x a c m;rcases List.mem_cons.1 m with q|q
  ·exact c q.symm
  ·simp at q;exact a _ q rfl
 have ob2:=F12.own b _ (npm b (fun q e=>(d.p q e).1) d.b5.symm) s.ob;have g2:=s.g.fr F12 (npm bg (fun q e=>(d.p q e).2.1) d.g3.symm) (npm B (fun q e=>(d.p q e).2.2.1) d.t3.symm);have gB2:=s.gB.fr F12 (npm B (fun q e=>(d.p q e).2.2.1) d.t3.symm);have k2:=s.k.frS F12 (npm bm (fun q e=>(d.p q e).2.2.2.1) d.m1.symm) (npm S (fun q e=>(d.p q e).2.2.2.2.1) d.m2.symm);have bgl:bg<h2.next:=by obtain⟨c,o,_⟩:=g2.ob.1;exact o.lt F2.wf
 have Bl:B<h2.next:=by obtain⟨c,o,_⟩:=gB2;exact o.lt F2.wf
 have bmW:∀x,x∈bl::pm.toList→x∈Wr b bg B bm S bl pm:=by
  intro x m;simp only[List.mem_cons]at m;simp only[Wr,List.mem_append,List.mem_cons];rcases m with m|m
  ·exact .inl (.inr (.inr (.inr (.inr (.inr (.inl m))))))
  ·exact .inr m
 have sv2:∀h',Fr [bg,B] h2 h'→ARecs Itm.cells 4 h' v Y∧∀y∈Y,ItmH h' y:=by
  intro h' f;refine sv ((bl::pm.toList)++[bg,B]) h' (fun z m=>?_) (Fr.trans F12 f w (fun x m=>.inl (List.mem_append.2 (.inl m))) (fun x m=>.inl (List.mem_append.2 (.inr m))));rcases List.mem_append.1 m with m|m
  ·exact .inl (bmW z m)
  ·simp only[List.mem_cons,List.not_mem_nil,or_false]at m;left;simp only[Wr,List.mem_append,List.mem_cons];rcases m with m|m<;>simp[m]
 have len2:=(sv2 h2 (Fr.refl F2.wf)).1.len;simp only[evs,seval,len2,e0];refine aC (fun n env hh=>∃(i B':Nat)(D:List Itm),Fr [bg,B] h2 hh∧(B'=B∨h2.next≤B')∧B'<hh.next∧env.get 32=some (.int .i64 i)∧env.get 31=some (.int .i64 (Y.length:Nat))∧env.get 30=some v∧env.get 0=some (.ptr b 0)∧env.get 1=some (.int .i64 (p:Int))∧
  i≤Y.length∧Cps (Y.take i) D∧Gp hh bg B' (X.length+i) ((X.take p++D++X.drop p).flatMap Itm.cells)∧Good hh B'∧
  (∀(Z:List Nat)(h':Heap),(∀z∈Z,z<h2.next∨z=B'∨hh.next≤z)→Fr Z hh h'→∀x∈D,Recs sS 1 h' x.vm x.marks)∧n=Y.length-i) Y.length (by omega) ?_ ?_
 ·exact⟨0,B,[],Fr.refl F2.wf,.inl rfl,Bl,(by simp),(by simp),(by simp),(by simp),(by simp),by omega,trivial,by simpa using g2,gB2,by simp,rfl⟩
 ·rintro n env hh ⟨i,B',D,F,hB',B'l,g32,g31,g30,g0,g1,hi,cp,gp,gd,st',rfl⟩;have obh:=F.own b _ (by simp;exact⟨d.b1,d.b2⟩) ob2;have dl:=cp.len;rw[List.length_take,Nat.min_eq_left hi]at dl;by_cases hlt:i<Y.length
  ·have hlt':(i:Int)<Y.length:=by omega
   obtain⟨sYh,hYh⟩:=sv2 hh F;obtain⟨bi,oi,y,p1,_,p3,p4⟩:=sYh.ix (f:=Itm.cells) (k:=4) (fun _=>rfl) .i64 (i:Int) (by omega) hlt';rw[Int.toNat_natCast]at p4;have ym:=List.mem_of_getElem? p4;have ay:=hYh y ym;obtain⟨h3,e_h3⟩:∃h3,h3=halloc hh [.int .u64 0,.int .u8 0,.str [],.nils]:=⟨_,rfl⟩;have F_h3:Fr [] hh h3:=e_h3▸Fr.halloc F.wf _;have o_h3:Own h3 hh.next [.int .u64 0,.int .u8 0,.str [],.nils]:=e_h3▸Own.new F.wf _;simp only[evs,seval,g32,g31,g30,hlt',p1,p3,←e_h3];refine ab (c':=y.cells) F_h3.wf o_h3 rfl ay.one rfl ?_;rintro h4 o4 F4 n4;have F04:Fr [] hh h4:=F_h3.fresh F4 F.wf (Nat.le_refl _);have l2:ag h4 b 2=some (.ptr bg 0):=(F04.get obh).ld1 2;have y4:ak h4 hh.next 0 4=some y.cells:=by rw[o4.ld];rfl
   simp(disch:=omega) only[evs,seval,eff,ai,g0,g1,l2,y4];refine aa (zr F04.wf (ay.fr F04) (hY y ym).1) ?_;rintro _ h5 ⟨vy,rfl,F5,nE,v1,stb⟩;have F05:=F04.then F5;have l25:ag h5 b 2=some (.ptr bg 0):=(F05.get obh).ld1 2;obtain⟨h6,e_h6⟩:∃h6,h6=halloc h5 [.int .u64 (y.key:Int),.int .u8 (y.type:Int),.str y.text,vy]:=⟨_,rfl⟩;have F_h6:Fr [] h5 h6:=e_h6▸Fr.halloc F5.wf _;have o_h6:Own h6 h5.next [.int .u64 (y.key:Int),.int .u8 (y.type:Int),.str y.text,vy]:=e_h6▸Own.new F5.wf _;have n6:h6.next=h5.next+1:=by rw[e_h6];rfl
   have l26:ag h6 b 2=some (.ptr bg 0):=(F_h6.get (F05.get obh)).ld1 2;simp only[evs,seval,eff,dY,←e_h6];have F06:=F05.then F_h6;have h2n:=F.next;have h4n:=F04.next;have h5n:=F5.next;have s6:Sl h6 4 (.slice h5.next 0 1 1) 1 (y.own vy).cells:=Sl.lit o_h6 rfl;have on6:aq (y.own vy).cells=true:=by rw[dY];simp only[aA,aF,v1];rfl
   have sv0:=stb [] h5 (by simp) (Fr.refl F5.wf);have gp6:=gp.fr F06 (by simp) (by simp);refine aa (wp (p:=p+i) (q:=1) F_h6.wf gp6 (fun h' f=>Sl.lit (f.own _ _ (by simp;omega) o_h6) rfl) on6 (C8 fun n=>Sl.noint sv0 _ _) (by omega) (by omega)) ?_;rintro _ h7 ⟨rfl,B2,hB2,gp7,F7⟩;have l27:ag h7 b 2=some (.ptr bg 0):=(F7.own _ _ (by simp;exact⟨d.b1,by rcases hB' with rfl|q;exact d.b2;have:=ob2.lt F2.wf;omega⟩) (F_h6.get (F05.get obh))).ld1 2
   simp(disch:=omega) only[evs,seval,DF,eff,ai,g32,l2,y4,l25,l26];have gd7:=gp7.good (by omega);have B2l:B2<h7.next:=by obtain⟨c,o,_⟩:=gd7;exact o.lt F7.wf
   have F27:Fr [bg,B] h2 h7:=by
    refine Fr.trans (Fr.trans (T:=[bg,B]) F F06 F2.wf (fun x m=>.inl m) (by simp)) F7 F2.wf (fun x m=>.inl m) (fun x m=>?_);simp at m;rcases m with rfl|rfl
    ·exact .inl (by simp)
    ·rcases hB' with rfl|q
     ·exact .inl (by simp)
     ·exact .inr q
   have lA:(X.take p++D).length=p+i:=by simp;omega
   have eA:((X.take p++D++X.drop p).flatMap Itm.cells).take ((p+i) *4)++(y.own vy).cells++((X.take p++D++X.drop p).flatMap Itm.cells).drop ((p+i) *4)=(X.take p++(D++[y.own vy])++X.drop p).flatMap Itm.cells:=by
    rw[qA dD,d8 dD,←lA,List.take_left,List.drop_left];simp
   rw[←dY y vy,eA,Nat.add_assoc]at gp7;have f7:∀(Z:List Nat)(h':Heap),Fr Z h7 h'→Fr ([bg,B']++Z) h6 h':=fun Z h' f=>Fr.trans F7 f F_h6.wf (fun x m=>.inl (List.mem_append.2 (.inl m))) (fun x m=>.inl (List.mem_append.2 (.inr m)));have h7n:=F7.next;refine(aj _ _ _).2 ⟨Y.length-(i+1),by omega,i+1,B2,D++[y.own vy],F27,?_,B2l,(by simp),(by simp[g31]),(by simp[g30]),(by simp[g0]),(by simp[g1]),by omega,?_,gp7,gd7,?_,rfl⟩
   ·rcases hB2 with rfl|q
    ·exact hB'
    ·exact .inr (by omega)
   ·rw[List.take_add_one,p4];exact Cps.app cp ⟨⟨vy,rfl,Sl.nz sv0⟩,trivial⟩
   ·intro Z h' hZ f x hx;have f6:=f7 Z h' f;rcases List.mem_append.1 hx with hx|hx
    ·refine st' _ h' (fun z m=>?_) (Fr.trans F06 f6 F.wf (by simp) (fun x m=>.inl m)) x hx;rcases List.mem_append.1 m with m|m
     ·simp at m;rcases m with rfl|rfl
      ·exact .inl bgl
      ·exact .inr (.inl rfl)
     ·rcases hZ z m with q|q|q
      ·exact .inl q
      ·subst q;rcases hB2 with q|q
       ·exact .inr (.inl q)
       ·exact .inr (.inr (by omega))
      ·exact .inr (.inr (by omega))
    ·simp at hx;subst hx;have f5:=(Fr.trans (T:=[bg,B']++Z) F_h6 f6 F5.wf (by simp) (fun x m=>.inl m)).old F5.wf;refine stb _ h' (fun z m=>?_) f5;simp only[List.mem_filter,decide_eq_true_eq]at m;obtain⟨m,m2⟩:=m;rcases List.mem_append.1 m with m|m
     ·simp at m;rcases m with rfl|rfl<;>omega
     ·rcases hZ z m with q|q|q
      ·omega
      ·subst q;rcases hB2 with q|q<;>omega
      ·omega
  ·have hi':i=Y.length:=by omega
   subst hi';rw[List.take_of_length_le (Nat.le_refl _)]at cp;have kh2:Km hh bm S mc.1 mc.2:=k2.frS F (by simp;exact⟨d.g1.symm,d.t1.symm⟩) (by simp;exact⟨d.g2.symm,d.t2.symm⟩);have gSh:Good hh S:=(s.gS.fr F12 (npm S (fun q e=>(d.p q e).2.2.2.2.1) d.m2.symm)).fr F (by simp;exact⟨d.g2.symm,d.t2.symm⟩);have lX:(X.take p++D++X.drop p).length=X.length+Y.length:=by simp;omega
   rw[←lX]at gp;have bm2:bm<h.next:=s.k.lt w;have key:∀x∈X.take p++D++X.drop p,0<x.key∧x.key<18446744073709551616:=by
    intro x m;rcases List.mem_append.1 m with m|m
    ·rcases List.mem_append.1 m with m|m
     ·have m:=List.mem_of_mem_take m;exact⟨hX x m,(xh x m).k⟩
     ·obtain⟨y,ym,vy,rfl⟩:=cp.mem m;exact⟨(hY y ym).2.2,(hYI y ym).k⟩
    ·have m:=List.mem_of_mem_drop m;exact⟨hX x m,(xh x m).k⟩
   have h1n:=F1.next;have h2n:=F2.next;have hhn:=F.next;have Sln:=s.Sl';have neB:∀x,x<h.next→x≠B→B'≠x:=fun x a c=>by
    rcases hB' with rfl|q
    ·exact c.symm
    ·omega
   simp only[evs,seval,g32,g31,g0,g1,show¬((Y.length:Nat):Int)<(Y.length:Nat) by omega];refine aa (Dq (mc:=mc) F.wf obh gp kh2 key (by omega) (by rw[lX];exact hc) d.b3 d.b4 d.g1 d.g2 (neB bm bm2 d.t1.symm) (neB S Sln d.t2.symm) B'l gSh) ?_;rintro _ h3 ⟨rfl,S',hS',k3,F3,gS3⟩;simp only[evs,seval];have b0:=s.ob.lt w;have bg0:=s.g.ob.1.lt w;have B0:=s.gB.lt w;have bl0:=s.bl';have S3:=gS3.lt F3.wf;have h3n:=F3.next;obtain⟨pl2,bl2⟩:=lo2.pmlt F2.wf;have pm2:∀q,pm'=some q→(pm=some q∧q<h.next)∨(h1.next≤q∧q<h2.next):=by
    intro q hq;rcases hpm with e|⟨_,x⟩
    ·rw[e]at hq;exact .inl ⟨hq,s.pl q hq⟩
    ·exact .inr ⟨x q hq,pl2 q hq⟩
   have npS:∀q,pm'=some q→q≠b∧q≠bg∧q≠B∧q≠B'∧q≠bm∧q≠S∧q≠S'∧q≠bl:=by
    intro q hq;rcases pm2 q hq with⟨e,z⟩|⟨z1,z2⟩
    ·obtain⟨y1,y2,y3,y4,y5,y6⟩:=d.p q e;refine⟨y1,y2,y3,?_,y4,y5,?_,y6⟩
     ·rcases hB' with rfl|r
      ·exact y3
      ·omega
     ·rcases hS' with rfl|r
      ·exact y5
      ·omega
    ·refine⟨by omega,by omega,by omega,?_,by omega,by omega,?_,by omega⟩
     ·rcases hB' with rfl|r<;>omega
     ·rcases hS' with rfl|r<;>omega
   have nS:∀x,x<hh.next→x≠S→S'≠x:=fun x a c=>by
    rcases hS' with rfl|q
    ·exact c.symm
    ·omega
   have lo3:LoP h3 bl pm' (l.take p++Y.map (aN Ks)++l.drop p) (kn.take p++List.replicate Y.length false++kn.drop p) (st.take p++Y.map (dJ Ks)++st.drop p):=by
    refine LoP.frS (LoP.frS lo2 F (Oth.app (A:=[bg]) g2.ob.1.oth gB2.oth) (by simp;exact⟨d.g3.symm,d.t3.symm⟩) (fun q e=>?_)) F3 (Oth.app (A:=[bm]) kh2.bmgood.oth gSh.oth) (by simp;exact⟨d.m1.symm,d.m2.symm⟩) (fun q e=>?_)
    ·obtain⟨y1,y2,y3,y4,y5,y6,y7,y8⟩:=npS q e;simp;exact⟨y2,y3⟩
    ·obtain⟨y1,y2,y3,y4,y5,y6,y7,y8⟩:=npS q e;simp;exact⟨y5,y6⟩
   refine⟨D,B',S',pm',cp,⟨F3.own b _ (by simp;exact⟨d.b3,d.b4⟩) obh,gp.fr F3 (by simp;exact⟨d.g1,d.g2⟩) (by simp;exact⟨neB bm bm2 d.t1.symm,neB S Sln d.t2.symm⟩),gd.fr F3 (by simp;exact⟨neB bm bm2 d.t1.symm,neB S Sln d.t2.symm⟩),k3,gS3,lo3,?_,?_,?_,S3,fun q e=>by have:=pl2 q e;omega,by omega,by have:=s.n0l;omega⟩,?_,?_,?_,?_⟩
   ·have:=s.len;simp;omega
   ·intro Z h' hZ f;have f23:Fr ([bg,B]++[bm,S]++Z) h2 h':=by
     refine Fr.trans (Fr.trans (T:=[bg,B]++[bm,S]) F F3 F2.wf (fun x m=>.inl (List.mem_append.2 (.inl m))) (fun x m=>.inl (List.mem_append.2 (.inr m)))) f F2.wf (fun x m=>.inl (List.mem_append.2 (.inl m))) (fun x m=>.inl (List.mem_append.2 (.inr m)))
    have f0:Fr ((bl::pm.toList)++([bg,B]++[bm,S]++Z)) h h':=Fr.trans F12 f23 w (fun x m=>.inl (List.mem_append.2 (.inl m))) (fun x m=>.inl (List.mem_append.2 (.inr m)));have hZ0:∀z∈(bl::pm.toList)++([bg,B]++[bm,S]++Z),z∈Wr b bg B bm S bl pm∨h.next≤z∨z<n0:=by
     intro z m;rcases List.mem_append.1 m with m|m
     ·exact .inl (bmW z m)
     rcases List.mem_append.1 m with m|m
     ·left;simp only[Wr,List.mem_append,List.mem_cons,List.not_mem_nil,or_false]at m⊢;rcases m with(m|m)|(m|m)<;>simp[m]
     ·rcases hZ z m with q|q|q
      ·simp only[Wr,List.mem_append,List.mem_cons,List.not_mem_nil,or_false]at q;rcases q with(q|q|q|q|q|q)|q
       ·exact .inl (by simp[Wr,q])
       ·exact .inl (by simp[Wr,q])
       ·subst q;rcases hB' with r|r
        ·exact .inl (by simp[Wr,r])
        ·exact .inr (.inl (by omega))
       ·exact .inl (by simp[Wr,q])
       ·subst q;rcases hS' with r|r
        ·exact .inl (by simp[Wr,r])
        ·exact .inr (.inl (by omega))
       ·exact .inl (by simp[Wr,q])
       ·simp at q;rcases pm2 z q with⟨e,_⟩|⟨z1,_⟩
        ·exact .inl (by simp[Wr,e])
        ·exact .inr (.inl (by omega))
      ·exact .inr (.inl (by omega))
      ·exact .inr (.inr q)
    obtain⟨rk',kh',xh'⟩:=s.rd _ h' hZ0 f0;refine⟨rk',kh',fun x m=>?_⟩;rcases List.mem_append.1 m with m|m
    ·rcases List.mem_append.1 m with m|m
     ·exact xh' x (List.mem_of_mem_take m)
     ·have fh:Fr ([bm,S]++Z) hh h':=Fr.trans F3 f F.wf (fun x m=>.inl (List.mem_append.2 (.inl m))) (fun x m=>.inl (List.mem_append.2 (.inr m)));have r:=st' _ h' (fun z m=>?_) fh x m
      ·obtain⟨y,ym,vy,rfl⟩:=cp.mem m;have ay:=hYI y ym;exact⟨ay.k,ay.t,Sl.a r,ay.n,ay.l⟩
      ·rcases List.mem_append.1 m with m|m
       ·simp at m;rcases m with rfl|rfl
        ·exact .inl (by omega)
        ·exact .inl (by omega)
       ·rcases hZ z m with q|q|q
        ·simp only[Wr,List.mem_append,List.mem_cons,List.not_mem_nil,or_false]at q;rcases q with(q|q|q|q|q|q)|q
         ·exact .inl (by omega)
         ·exact .inl (by omega)
         ·exact .inr (.inl q)
         ·exact .inl (by omega)
         ·rcases hS' with r|r
          ·exact .inl (by omega)
          ·exact .inr (.inr (by omega))
         ·exact .inl (by omega)
         ·simp at q;rcases pm2 z q with⟨_,z1⟩|⟨_,z2⟩
          ·exact .inl (by omega)
          ·exact .inl (by omega)
        ·exact .inr (.inr (by omega))
        ·exact .inl (by have:=s.n0l;omega)
    ·exact xh' x (List.mem_of_mem_drop m)
   ·exact⟨d.b1,(neB b b0 d.b2).symm,d.b3,(nS b (by omega) d.b4).symm,d.b5,d.g1,(nS bg (by omega) d.g2).symm,d.g3,neB bm bm2 d.t1.symm,by
     rcases hS' with rfl|q
     ·exact neB _ Sln d.t2.symm
     ·omega,neB bl bl0 d.t3.symm,d.m1,nS bl (by omega) d.m2.symm,fun q e=>by
     obtain⟨y1,y2,y3,y4,y5,y6,y7,y8⟩:=npS q e;exact⟨y1,y2,y4,y5,y7,y8⟩⟩
   ·refine Fr.trans (Fr.trans (T:=Wr b bg B bm S bl pm) F12 F w (fun x m=>.inl (bmW x m)) (fun x m=>.inl ?_)) F3 w (fun x m=>.inl m) (fun x m=>.inl ?_)
    ·simp only[Wr,List.mem_append,List.mem_cons,List.not_mem_nil,or_false]at m⊢;rcases m with m|m<;>simp[m]
    ·simp only[Wr,List.mem_append,List.mem_cons,List.not_mem_nil,or_false]at m⊢;rcases m with m|m<;>simp[m]
   ·rcases hB' with r|r
    ·exact .inl r
    ·exact .inr (by omega)
   ·rcases hS' with r|r
    ·exact .inl r
    ·exact .inr (by omega)
   ·rcases hpm with e|⟨_,x⟩
    ·exact .inl e
    ·exact .inr fun q hq=>by have:=x q hq;omega
open Go.Ev.St
set_option maxRecDepth 4000
theorem CU{h:Heap}{v:V}{L:List Knd}{cap:Int}(w:WF h)(a:Recs Knd.cells 9 h v L)(hL:∀q∈L,KndH h q)(hn:L.length≤4096)(ok:okR L cap=true):
 ao go 8 [.agg [v,.int .i64 cap]] h fun u h'=>∃b bg bm bl vK K,u=.tup [.ptr b 0,.int .i64 0]∧Fr [] h h'∧dm L K∧Sto h.next h' b K cap [] [] [] [] vK bg h.next bm bm bl none (fun _=>none,0)∧(∀y∈Wr b bg h.next bm bm bl none,h.next≤y):=by
 have nv:∀n:Int,v≠.int .i64 n:=fun n=>Sl.noint a _ _;refine OQ.mono (Gu w a hL hn ok) ?_;rintro u h' ⟨b,bg,bm,bl,vK,K,rfl,F,sK,ob,obg,km,lo,c1,c2,c3,c4,c5,oB,st⟩;have w':=F.wf;have gB:Good h' h.next:=⟨_,oB,by simp,by
  intro L p e;cases L with
  |nil=>simp at p
  |cons q L=>
   simp[sp]at e;exact nv _ e.1⟩
 have pl:=lo.pmlt w';refine⟨b,bg,bm,bl,vK,K,rfl,F,sK,⟨ob,?_,gB,km,km.bmgood,lo,rfl,?_,?_,km.lt w',by simp,pl.2,F.next⟩,?_⟩
 ·exact⟨.nils,[],[],[],0,0,0,⟨obg,⟨rfl,.inl ⟨rfl,rfl⟩⟩,rfl,rfl,rfl,rfl,rfl,by omega,by omega,by omega,fun x m=>by simp at m⟩,rfl,rfl⟩
 ·intro Z h2 hZ f;obtain⟨x1,x2⟩:=st Z h2 (fun y m=>by
   rcases hZ y m with q|q|q
   ·simp[Wr]at q;rcases q with q|q|q|q|q
    ·exact .inr (.inl q)
    ·exact .inr (.inr (.inl q))
    ·exact .inl (by omega)
    ·exact .inr (.inr (.inr (.inl q)))
    ·exact .inr (.inr (.inr (.inr (.inl q))))
   ·exact .inr (.inr (.inr (.inr (.inr q))))
   ·exact .inl (by omega)) f
  exact⟨x1,x2,by simp⟩
 ·exact⟨by omega,by omega,by omega,by omega,by omega,by omega,by omega,by omega,by omega,by omega,by omega,by omega,by omega,by simp⟩
 ·intro y m;simp[Wr]at m;omega
section
variable {n0 : Nat} {h : Heap} {b : Nat} {Ks : List Knd} {cap : Int} {X : List Itm} {l : List Int} {kn st : List Bool} {vK : V} {bg B bm S bl : Nat} {pm : Option Nat} {mc : ew}
theorem iZ(s:Sto n0 h b Ks cap X l kn st vK bg B bm S bl pm mc):ao go 44 [.ptr b 0] h fun u h'=>u=.bool false∧h=h':=by
 have l2:ag h b 2=some (.ptr bg 0):=s.ob.ld1 2;refine ah rfl rfl ?_;simp only[fn44,evs,seval,l2]
theorem ko(s:Sto n0 h b Ks cap X l kn st vK bg B bm S bl pm mc):ao go 11 [.ptr b 0] h fun u h'=>u=.int .i64 (X.length:Nat)∧h=h':=by
 have l2:ag h b 2=some (.ptr bg 0):=s.ob.ld1 2;refine ah rfl rfl ?_;simp only[fn11,evs,seval];refine aa (iZ s) ?_;rintro _ _ ⟨rfl,rfl⟩;simp only[evs,seval,l2];refine aa (uG s.g) ?_;rintro _ _ ⟨rfl,rfl⟩;simp only[evs,seval]
end
open Go.Ev.St
set_option maxRecDepth 4000
theorem Sto.move{n0 m0:Nat}{h h':Heap}{b b' bg B bm S bl:Nat}{Ks:List Knd}{cap:Int}{X:List Itm}{l:List Int}{kn st:List Bool}{vK:V}{pm:Option Nat}{mc:ew}{c0:List V}(w:WF h)(s:Sto n0 h b' Ks cap X l kn st vK bg B bm S bl pm mc)
 (ge:∀y∈Wr b' bg B bm S bl pm,n0≤y) (o0:Own h b c0) (h5:c0.length=5) (hb:b<n0) (hm:m0≤n0) (f:Fr [b] h h') (ob:Own h' b [vK,.int .i64 cap,.ptr bg 0,.ptr bm 0,.ptr bl 0]):
 Sto m0 h' b Ks cap X l kn st vK bg B bm S bl pm mc:=by
 have g:∀y∈Wr b' bg B bm S bl pm,y≠b:=fun y m=>by have:=ge y m;omega
 simp only[Wr,List.mem_append,List.mem_cons,List.not_mem_nil,or_false]at g;have g1:=g bg (by simp);have g2:=g B (by simp);have g3:=g bm (by simp);have g4:=g S (by simp);have g5:=g bl (by simp);have g6:∀q,pm=some q→q≠b:=fun q e=>g q (by simp[e]);have d:=s.d;have fn:=f.next;have n0l:=s.n0l;refine⟨ob,s.g.fr f (by simpa using g1) (by simpa using g2),s.gB.fr f (by simpa using g2),s.k.frS f (by simpa using g3) (by simpa using g4),s.gS.fr f (by simpa using g4),?_,s.len,?_,?_,by have:=s.Sl';omega,fun q e=>by have:=s.pl q e;omega,by have:=s.bl';omega,by omega⟩
 ·exact s.lo.frS f (Oth.own o0 (by omega) (iv (n:=2) h5)) (by simpa using g5) (fun q e=>by simpa using g6 q e)
 ·intro Z h2 hZ f2;refine s.rd ([b]++Z) h2 (fun z m=>?_) (Fr.trans f f2 w (fun x m=>.inl (List.mem_append.2 (.inl m))) (fun x m=>.inl (List.mem_append.2 (.inr m))));rcases List.mem_append.1 m with m|m
  ·simp at m;subst m;exact .inr (.inr hb)
  ·rcases hZ z m with q|q|q
   ·simp only[Wr,List.mem_append,List.mem_cons,List.not_mem_nil,or_false]at q⊢;rcases q with(q|q|q|q|q|q)|q
    ·exact .inr (.inr (by omega))
    all_goals exact .inl (by simp[q])
   ·exact .inr (.inl (by omega))
   ·exact .inr (.inr (by omega))
 ·exact⟨g1.symm,g2.symm,g3.symm,g4.symm,g5.symm,d.g1,d.g2,d.g3,d.t1,d.t2,d.t3,d.m1,d.m2,fun q e=>⟨g6 q e,(d.p q e).2⟩⟩
theorem xo{Ks:List Knd}{cap:Int}{p:Nat→Bool}:∀{seen:List Nat}{Y:List Itm},kH Ks cap p seen Y=0→∀y∈Y,okI y Ks.length=true
 |_,[],_,y,m=>by simp at m
 |seen,x::r,e,y,m=>by
  simp only[kH]at e;by_cases c1:okI x Ks.length=false
  ·rw[if_pos c1]at e;cases e
  rw[if_neg c1]at e;by_cases c2:x.key∈seen∨p x.key=true
  ·rw[if_pos c2]at e;cases e
  rw[if_neg c2]at e;by_cases c3:bQ Ks cap x≠0
  ·rw[if_pos c3]at e;exact absurd e c3
  rw[if_neg c3]at e;rcases List.mem_cons.1 m with rfl|m
  ·simpa using c1
  ·exact xo e y m
theorem yD{Ks K:List Knd}(h:dm Ks K)(y:Itm):aN K y=aN Ks y∧dJ K y=dJ Ks y:=by
 unfold aN dJ;cases e:Ks[y.type]? with
 |none=>
  have:K[y.type]? =none:=by rw[List.getElem?_eq_none_iff]at e⊢;rw[←dH h];exact e
  rw[this];exact⟨rfl,rfl⟩
 |some q=>
  obtain⟨p,e2,s⟩:=gJ h e;rw[e2];obtain⟨_,_,_,_,_,h6,h7,_⟩:=s;exact⟨h6.symm,h7.symm⟩
theorem Sto.fr{n0:Nat}{h h':Heap}{b bg B bm S bl:Nat}{Ks:List Knd}{cap:Int}{X:List Itm}{l:List Int}{kn st:List Bool}{vK:V}{pm:Option Nat}{mc:ew}(w:WF h)(s:Sto n0 h b Ks cap X l kn st vK bg B bm S bl pm mc)(f:Fr [] h h'):
 Sto n0 h' b Ks cap X l kn st vK bg B bm S bl pm mc:=by
 have fn:=f.next;refine⟨f.get s.ob,s.g.fr f (by simp) (by simp),s.gB.fr f (by simp),s.k.fr f,s.gS.fr f (by simp),s.lo.fr f,s.len,?_,s.d,by have:=s.Sl';omega,fun q e=>by have:=s.pl q e;omega,by have:=s.bl';omega,by have:=s.n0l;omega⟩;intro Z h2 hZ f2;refine s.rd Z h2 (fun z m=>?_) (Fr.trans f f2 w (fun x m=>by simp at m) (fun x m=>.inl m));rcases hZ z m with q|q|q
 ·exact .inl q
 ·exact .inr (.inl (by omega))
 ·exact .inr (.inr q)
theorem Sto.lay{n0:Nat}{h h':Heap}{b bg B bm S bl:Nat}{Ks:List Knd}{cap:Int}{X:List Itm}{l l':List Int}{kn st kn' st':List Bool}{vK:V}{pm pm':Option Nat}{mc:ew}(w:WF h)(s:Sto n0 h b Ks cap X l kn st vK bg B bm S bl pm mc)(f:Fr (bl::pm.toList) h h')
 (a:LoP h' bl pm' l' kn' st') (hl:l'.length=X.length) (hp:pm'=pm∨∀q,pm'=some q→h.next≤q):Sto n0 h' b Ks cap X l' kn' st' vK bg B bm S bl pm' mc:=by
 have d:=s.d;have fn:=f.next;have n0l:=s.n0l;have nb:∀y,y≠bl→(∀q,pm=some q→q≠y)→y∉bl::pm.toList:=by
  intro y h1 h2 m;rcases List.mem_cons.1 m with m|m
  ·exact h1 m
  ·exact h2 y (by simpa using m) rfl
 have lb:=s.ob.lt w;have lg:bg<h.next:=s.g.ob.1.lt w;have lB:=s.gB.lt w;have lm:=s.k.lt w;have lS:=s.Sl';have ll:=s.bl';have pl:=a.pmlt f.wf;have dp:=d.p;have xb:=nb b d.b5 fun q e=>(dp q e).1;have xg:=nb bg d.g3 fun q e=>(dp q e).2.1;have xB:=nb B d.t3 fun q e=>(dp q e).2.2.1;have xm:=nb bm d.m1 fun q e=>(dp q e).2.2.2.1;have xS:=nb S d.m2 fun q e=>(dp q e).2.2.2.2.1;refine⟨f.own _ _ xb s.ob,s.g.fr f xg xB,s.gB.fr f xB,s.k.frS f xm xS,s.gS.fr f xS,a,hl,?_,?_,by omega,pl.1,by omega,by omega⟩
 ·intro Z h2 hZ f2;refine s.rd ((bl::pm.toList)++Z) h2 (fun z m=>?_) (Fr.trans f f2 w (fun x m=>.inl (List.mem_append.2 (.inl m))) (fun x m=>.inl (List.mem_append.2 (.inr m))));rcases List.mem_append.1 m with m|m
  ·refine .inl ?_;rcases List.mem_cons.1 m with rfl|m
   ·simp[Wr]
   ·exact List.mem_append.2 (.inr m)
  ·rcases hZ z m with q|q|q
   ·rcases List.mem_append.1 q with q|q
    ·exact .inl (List.mem_append.2 (.inl q))
    ·rcases hp with rfl|hp
     ·exact .inl (List.mem_append.2 (.inr q))
     ·exact .inr (.inl (hp z (by simpa using q)))
   ·exact .inr (.inl (by omega))
   ·exact .inr (.inr q)
 ·refine⟨d.b1,d.b2,d.b3,d.b4,d.b5,d.g1,d.g2,d.g3,d.t1,d.t2,d.t3,d.m1,d.m2,fun q e=>?_⟩;rcases hp with rfl|hp
  ·exact dp q e
  ·have:=hp q e;omega
theorem CM{n0:Nat}{h:Heap}{b bg B bm S bl p:Nat}{Ks:List Knd}{cap:Int}{X Y:List Itm}{l:List Int}{kn st:List Bool}{vK v:V}{pm:Option Nat}{mc:ew}(w:WF h)(s:Sto n0 h b Ks cap X l kn st vK bg B bm S bl pm mc)
 (hp:p≤X.length) (hn:Y.length≤1024) (hx:X.length≤1024) (sY:ARecs Itm.cells 4 h v Y) (hYI:∀y∈Y,ItmH h y∧y.type<Ks.length) (e0:ce l p (Y.map (aN Ks))≠0):
 ao go 96 [.ptr b 0,.int .i64 (p:Int),v] h fun u h'=>u=.int .i64 (ce l p (Y.map (aN Ks)))∧Fr (bl::pm.toList) h h'∧∃pm',(pm'=pm∨∀q,pm'=some q→h.next≤q)∧Sto n0 h' b Ks cap X l kn st vK bg B bm S bl pm' mc:=by
 obtain⟨rk,kh,xh⟩:=s.rd [] h (by simp) (Fr.refl w);refine ah rfl rfl ?_;simp only[fn96,evs,seval];refine aa (vj w ⟨vK,_,_,_,s.ob,rk,kh⟩ sY hYI (by omega)) ?_;rintro _ h1 ⟨v4,v5,rfl,G4,G5,F1⟩;have am:mJ h1 v4 (Y.map (aN Ks)):=by
  have:=G4.sl (n:=(Y.map (aN Ks)).length) (by simp) (by omega);unfold mJ Vals;rw[List.map_map];exact this
 have as:Bools h1 v5 (Y.map (dJ Ks)):=by
  have:=G5.sl (n:=(Y.map (dJ Ks)).length) (by simp) (by omega);unfold Bools Vals;rw[List.map_map];exact this
 have l4:ag h1 b 4=some (.ptr bl 0):=(F1.get s.ob).ld1 4;simp only[evs,seval,l4];refine aa (vF F1.wf (s.lo.fr F1) am as (by simp;omega) (by simp) (by omega) (by omega)) ?_;rintro _ h2 ⟨rfl,F2,pm',hp,a⟩;rw[if_neg e0]at a;have n1:=F1.next;have hp':pm'=pm∨∀q,pm'=some q→h1.next≤q:=by
  rcases hp with hp|hp
  ·exact .inl hp
  ·exact .inr hp.2
 have s2:=(s.fr w F1).lay F1.wf F2 a s.len hp';simp only[evs,seval,eq_false e0];refine⟨Fr.trans F1 F2 w (by simp) (fun x m=>.inl m),pm',?_,s2⟩;rcases hp' with hp|hp
 ·exact .inl hp
 ·exact .inr fun q e=>by have:=hp q e;omega
theorem CJ{h:Heap}{g b bm S c:Nat}{m:Nat→Option Nat}{k0 k1 k3:V}{k2:V}(og:Own h g [.ptr b 0])(ob:Own h b [k0,k1,k2,.ptr bm 0,k3])(k:Km h bm S m c):Ck h 95 [.ptr g 0] (fun x=>(m x).isSome):=⟨by decide,fun h1 x f hx=>by
 have l0:ag h1 g 0=some (.ptr b 0):=(f.get og).ld1 0;have l3:ag h1 b 3=some (.ptr bm 0):=(f.get ob).ld1 3;refine ah rfl rfl ?_;simp only[fn95,evs,seval,l0,l3];refine aa (sy f.wf (k.fr f) hx) ?_;rintro _ h2 ⟨rfl,F2⟩;cases e:m x with
 |none=>
  simp only[evs,seval,eR];exact F2
 |some i=>
  simp only[evs,seval,eR];exact F2⟩
def jA(Ks:List Knd)(cap at_:Int)(X Y:List Itm)(l:List Int)(p:Nat→Bool):Int:=
 if at_<0∨(X.length:Int)<at_ then 4 else if(1024:Int)-X.length<Y.length then 3 else if kH Ks cap p [] Y≠0 then kH Ks cap p [] Y else ce l at_.toNat (Y.map (aN Ks))
theorem yW{n0:Nat}{h:Heap}{b bg B bm S bl:Nat}{Ks:List Knd}{cap a:Int}{X Y:List Itm}{l:List Int}{kn st:List Bool}{vK v:V}{pm:Option Nat}{mc:ew}{k0 c0 t0:V}(w:WF h)(s:Sto n0 h b Ks cap X l kn st vK bg B bm S bl pm mc)(ha:-9223372036854775808≤a∧a<9223372036854775808)
 (ok:okR Ks cap=true) (hX:∀x∈X,0<x.key) (hx:X.length≤1024) (hc:mc.2+1024≤4096)
 (sv:∀(Z:List Nat)(h':Heap),(∀z∈Z,z∈Wr b bg B bm S bl pm∨h.next≤z)→Fr Z h h'→ARecs Itm.cells 4 h' v Y∧∀y∈Y,ItmH h' y) (hY:∀y∈Y,nZ y.vm=true) (hl:Y.length≤4096) (ones:aq [k0,.int .i64 a,c0,t0,v]=true):
 ao go 46 [.ptr b 0,.agg [k0,.int .i64 a,c0,t0,v]] h fun u h'=>u=.int .i64 (jA Ks cap a X Y l (fun x=>(mc.1 x).isSome))∧
  (jA Ks cap a X Y l (fun x=>(mc.1 x).isSome)≠0→Fr (bl::pm.toList) h h'∧∃pm',(pm'=pm∨∀q,pm'=some q→h.next≤q)∧Sto n0 h' b Ks cap X l kn st vK bg B bm S bl pm' mc)∧
  (jA Ks cap a X Y l (fun x=>(mc.1 x).isSome)=0→0≤a∧a≤X.length∧X.length+Y.length≤1024∧∃Y' B' S' pm',Cps Y Y'∧
   Sto n0 h' b Ks cap (X.take a.toNat++Y'++X.drop a.toNat) (l.take a.toNat++Y.map (aN Ks)++l.drop a.toNat) (kn.take a.toNat++List.replicate Y.length false++kn.drop a.toNat) (st.take a.toNat++Y.map (dJ Ks)++st.drop a.toNat) vK bg B' bm S' bl pm'
    (fc mc ((X.take a.toNat++Y'++X.drop a.toNat).drop a.toNat) a.toNat)∧Fr (Wr b bg B bm S bl pm) h h'∧(B'=B∨h.next≤B')∧(S'=S∨h.next≤S')∧(pm'=pm∨∀q,pm'=some q→h.next≤q)):=by
 obtain⟨rk,kh,xh⟩:=s.rd [] h (by simp) (Fr.refl w);obtain⟨sY,hYI⟩:=sv [] h (by simp) (Fr.refl w);have hK:Ks.length≤8:=by
  simp only[okR,Bool.and_eq_true,decide_eq_true_eq]at ok;exact ok.2.1
 have same:∀{h'},Fr [] h h'→Fr (bl::pm.toList) h h'∧∃pm',(pm'=pm∨∀q,pm'=some q→h.next≤q)∧Sto n0 h' b Ks cap X l kn st vK bg B bm S bl pm' mc:=fun f=>⟨frQ f,pm,.inl rfl,s.fr w f⟩;obtain⟨h0,e_h0⟩:∃h0,h0=halloc h [.ptr b 0]:=⟨_,rfl⟩;have F_h0:Fr [] h h0:=e_h0▸Fr.halloc w _;have o_h0:Own h0 h.next [.ptr b 0]:=e_h0▸Own.new w _;obtain⟨h1,e_h1⟩:∃h1,h1=halloc h0 [k0,.int .i64 a,c0,t0,v]:=⟨_,rfl⟩;have F_h1:Fr [] h0 h1:=e_h1▸Fr.halloc F_h0.wf _;have o_h1:Own h1 h0.next [k0,.int .i64 a,c0,t0,v]:=e_h1▸Own.new F_h0.wf _;have F01:=F_h0.then F_h1;have s1:=s.fr w F01;have l0:ag h1 h.next 0=some (.ptr b 0):=(F_h1.get o_h0).ld1 0;have l1:ag h1 h0.next 1=some (.int .i64 a):=o_h1.ld1 1;have l4:ag h1 h0.next 4=some v:=o_h1.ld1 4;by_cases c1:a<0
 ·refine ah rfl rfl ?_;simp only[fn46,evs,↓reduceIte,Nat.reduceEqDiff,Nat.reduceAdd,DF,eff,Nat.reduceSub,←e_h0,←e_h1,l0,l1,eq_true c1];have e:jA Ks cap a X Y l (fun x=>(mc.1 x).isSome)=4:=by rw[jA,if_pos (.inl c1)]
  rw[e];exact⟨rfl,fun _=>same F01,fun e=>by cases e⟩
 refine ah rfl rfl ?_;simp only[fn46,evs,↓reduceIte,Nat.reduceEqDiff,Nat.reduceAdd,eff,←e_h0,←e_h1,l0,l1,eq_false c1];refine aa (ko s1) ?_;rintro _ _ ⟨rfl,rfl⟩;by_cases c2:(X.length:Int)<a
 ·simp only[evs,↓reduceIte,Nat.reduceEqDiff,Nat.reduceAdd,DF,eff,Nat.reduceSub,eq_true c2,l0,l1];have e:jA Ks cap a X Y l (fun x=>(mc.1 x).isSome)=4:=by rw[jA,if_pos (.inr c2)]
  rw[e];exact⟨rfl,fun _=>same F01,fun e=>by cases e⟩
 simp only[evs,↓reduceIte,Nat.reduceEqDiff,Nat.reduceAdd,DF,eff,Nat.reduceSub,eq_false c2,l0,l1,l4,(sY.fr F01).len];refine aa (ko s1) ?_;rintro _ _ ⟨rfl,rfl⟩;have ne12:¬(a<0∨(X.length:Int)<a):=by omega
 by_cases c3:(1024:Int)-X.length<Y.length
 ·simp(disch:=omega) only[evs,↓reduceIte,Nat.reduceEqDiff,Nat.reduceAdd,DF,eff,Nat.reduceSub,ai,eq_true c3,l0,l4];have e:jA Ks cap a X Y l (fun x=>(mc.1 x).isSome)=3:=by rw[jA,if_neg ne12,if_pos c3]
  rw[e];exact⟨rfl,fun _=>same F01,fun e=>by cases e⟩
 have th:Ck h1 95 [.ptr h.next 0] (fun x=>(mc.1 x).isSome):=CJ (F_h1.get o_h0) s1.ob s1.k;simp(disch:=omega) only[evs,↓reduceIte,Nat.reduceEqDiff,Nat.reduceAdd,DF,eff,Nat.reduceSub,ai,eq_false c3,l0,l4];refine aa (ut F_h1.wf (RulesAt.fr ⟨vK,_,_,_,s.ob,rk,kh⟩ F01) hK (sY.fr F01) (fun y m=>(hYI y m).fr F01) hl th) ?_;rintro _ h2 ⟨rfl,F2⟩;have F02:=F01.then F2;have l0:=(F2.get (F_h1.get o_h0)).ld1 0;have l1:ag h2 h0.next 1=some (.int .i64 a):=(F2.get o_h1).ld1 1;have l4:ag h2 h0.next 4=some v:=(F2.get o_h1).ld1 4;by_cases c4:kH Ks cap (fun x=>(mc.1 x).isSome) [] Y=0
 ·have good:=xo c4;obtain⟨p,rfl⟩:∃p:Nat,a=p:=⟨a.toNat,by omega⟩;have hp:p≤X.length:=by omega
  have hn:X.length+Y.length≤1024:=by omega
  have e:jA Ks cap p X Y l (fun x=>(mc.1 x).isSome)=ce l p (Y.map (aN Ks)):=by rw[jA,if_neg ne12,if_neg c3,if_neg (by simp[c4])];rfl
  have ht:∀y∈Y,y.type<Ks.length∧0<y.key:=by
   intro y m;have:=good y m;simp only[okI,Bool.and_eq_true,decide_eq_true_eq]at this;exact⟨this.2.1,by omega⟩
  simp only[evs,↓reduceIte,Nat.reduceEqDiff,c4,l0,l1,l4];rw[e];have s2:=s.fr w F02;have n2:=F02.next;by_cases c5:ce l p (Y.map (aN Ks))=0
  ·refine aa (CL (p:=p) F2.wf s2 hp hn (by omega) (fun Z x hZ f=>?_) (fun y m=>⟨hY y m,ht y m⟩) hX c5) ?_
   ·refine sv Z x (fun z m=>?_) (Fr.trans F02 f w (fun x m=>by simp at m) (fun x m=>.inl m));rcases hZ z m with q|q
    ·exact .inl q
    ·exact .inr (by omega)
   rintro _ h4 ⟨rfl,Y',B',S',pm',cp,s4,F4,hB',hS',hp'⟩;have f4:Fr (Wr b bg B bm S bl pm) h h4:=Fr.trans F02 F4 w (fun x m=>by simp at m) (fun x m=>.inl m);rw[c5];simp only[evs,↓reduceIte];have q1:B'=B∨h.next≤B':=by omega
   have q2:S'=S∨h.next≤S':=by omega
   have q3:pm'=pm∨∀q,pm'=some q→h.next≤q:=by
    rcases hp' with z|z
    ·exact .inl z
    ·exact .inr fun q e=>by have:=z q e;omega
   exact⟨fun e=>absurd rfl e,fun _=>⟨by omega,by omega,hn,Y',B',S',pm',cp,s4,f4,q1,q2,q3⟩⟩
  ·refine aa (CM (p:=p) F2.wf s2 hp (by omega) hx (sY.fr F02) (fun y m=>⟨(hYI y m).fr F02,(ht y m).1⟩) c5) ?_;rintro _ h4 ⟨rfl,F4,pm',hp',s4⟩;have f4:Fr (bl::pm.toList) h h4:=Fr.trans F02 F4 w (fun x m=>by simp at m) (fun x m=>.inl m);simp only[evs,↓reduceIte,eq_false c5];have q3:pm'=pm∨∀q,pm'=some q→h.next≤q:=by
    rcases hp' with z|z
    ·exact .inl z
    ·exact .inr fun q e=>by have:=z q e;omega
   exact⟨fun _=>⟨f4,pm',q3,s4⟩,fun e=>e.elim⟩
 ·have e:jA Ks cap a X Y l (fun x=>(mc.1 x).isSome)=kH Ks cap (fun x=>(mc.1 x).isSome) [] Y:=by rw[jA,if_neg ne12,if_neg c3,if_pos c4]
  simp only[evs,↓reduceIte,Nat.reduceEqDiff,eq_false c4];rw[e];exact⟨rfl,fun _=>same F02,fun e=>absurd e c4⟩
open Go.Ev.St
set_option maxRecDepth 4000
section
variable {n0 : Nat} {h : Heap} {b bg B bm S bl : Nat} {Ks : List Knd} {cap : Int} {X : List Itm} {l : List Int} {kn st : List Bool} {vK : V} {pm : Option Nat} {mc : ew}
theorem tQ{key:Nat}(w:WF h)(s:Sto n0 h b Ks cap X l kn st vK bg B bm S bl pm mc)(hk:key<18446744073709551616):ao go 10 [.ptr b 0,.int .u64 (key:Int)] h fun u h'=>u=eR (mc.1 key)∧Fr [] h h':=by
 have l3:ag h b 3=some (.ptr bm 0):=s.ob.ld1 3;refine ah rfl rfl ?_;simp only[fn10,evs,seval];refine aa (iZ s) ?_;rintro _ _ ⟨rfl,rfl⟩;simp only[evs,seval,l3];refine aa (sy w s.k hk) ?_;rintro _ h2 ⟨rfl,F2⟩;cases e:mc.1 key with
 |none=>
  simp only[evs,seval,eR];exact F2
 |some i=>
  simp only[evs,seval,eR];exact F2
theorem nJ(w:WF h)(s:Sto n0 h b Ks cap X l kn st vK bg B bm S bl pm mc):ao go 13 [.ptr b 0] h fun u h'=>∃c pm',u=.ptr c 0∧h.next≤c∧(∀q,pm'=some q→h.next≤q)∧LoP h' c pm' l kn st∧Fr [] h h':=by
 have l4:ag h b 4=some (.ptr bl 0):=s.ob.ld1 4;refine ah rfl rfl ?_;simp only[fn13,evs,seval];refine aa (iZ s) ?_;rintro _ _ ⟨rfl,rfl⟩;simp only[evs,seval,l4];refine aa (rA w s.lo) ?_;rintro _ h2 ⟨c,pm',rfl,hc,hp,a,F2⟩;simp only[evs,seval];exact⟨c,pm',rfl,hc,hp,a,F2⟩
end
open Go.Ev.St
set_option maxRecDepth 4000
theorem Sto.relay{n0:Nat}{h h':Heap}{b bg B bm S bl c:Nat}{Ks:List Knd}{cap:Int}{X:List Itm}{l l':List Int}{kn st kn' st':List Bool}{vK:V}{pm pm':Option Nat}{mc:ew}(w:WF h)(s:Sto n0 h b Ks cap X l kn st vK bg B bm S bl pm mc)(f:Fr (b::bl::pm.toList) h h')
 (ob:Own h' b [vK,.int .i64 cap,.ptr bg 0,.ptr bm 0,.ptr c 0]) (a:LoP h' c pm' l' kn' st') (hl:l'.length=X.length) (hc:h.next≤c) (hp:∀q,pm'=some q→h.next≤q∧q≠c):Sto n0 h' b Ks cap X l' kn' st' vK bg B bm S c pm' mc:=by
 have d:=s.d;have fn:=f.next;have n0l:=s.n0l;have nb:∀y,b≠y→y≠bl→(∀q,pm=some q→q≠y)→y∉b::bl::pm.toList:=by
  intro y h0 h1 h2 m;rcases List.mem_cons.1 m with m|m
  ·exact h0 m.symm
  rcases List.mem_cons.1 m with m|m
  ·exact h1 m
  ·exact h2 y (by simpa using m) rfl
 have lb:=s.ob.lt w;have lg:bg<h.next:=s.g.ob.1.lt w;have lB:=s.gB.lt w;have lm:=s.k.lt w;have lS:=s.Sl';have ll:=s.bl';have pl:=a.pmlt f.wf;have dp:=d.p;have xg:=nb bg d.b1 d.g3 fun q e=>(dp q e).2.1;have xB:=nb B d.b2 d.t3 fun q e=>(dp q e).2.2.1;have xm:=nb bm d.b3 d.m1 fun q e=>(dp q e).2.2.2.1;have xS:=nb S d.b4 d.m2 fun q e=>(dp q e).2.2.2.2.1;refine⟨ob,s.g.fr f xg xB,s.gB.fr f xB,s.k.frS f xm xS,s.gS.fr f xS,a,hl,?_,?_,by omega,pl.1,pl.2,by omega⟩
 ·intro Z h2 hZ f2;refine s.rd ((b::bl::pm.toList)++Z) h2 (fun z m=>?_) (Fr.trans f f2 w (fun x m=>.inl (List.mem_append.2 (.inl m))) (fun x m=>.inl (List.mem_append.2 (.inr m))));rcases List.mem_append.1 m with m|m
  ·refine .inl ?_;rcases List.mem_cons.1 m with rfl|m
   ·simp[Wr]
   rcases List.mem_cons.1 m with rfl|m
   ·simp[Wr]
   ·exact List.mem_append.2 (.inr m)
  ·rcases hZ z m with q|q|q
   ·rcases List.mem_append.1 q with q|q
    ·simp only[List.mem_cons,List.not_mem_nil,or_false]at q;rcases q with q|q|q|q|q|q
     ·exact .inl (by simp[Wr,q])
     ·exact .inl (by simp[Wr,q])
     ·exact .inl (by simp[Wr,q])
     ·exact .inl (by simp[Wr,q])
     ·exact .inl (by simp[Wr,q])
     ·exact .inr (.inl (by omega))
    ·exact .inr (.inl (hp z (by simpa using q)).1)
   ·exact .inr (.inl (by omega))
   ·exact .inr (.inr q)
 ·refine⟨d.b1,d.b2,d.b3,d.b4,by omega,d.g1,d.g2,by omega,d.t1,d.t2,by omega,by omega,by omega,fun q e=>?_⟩;have:=hp q e;omega
theorem LoP.ne{h:Heap}{b:Nat}{pm:Option Nat}{l:List Int}{ks bs:List Bool}(a:LoP h b pm l ks bs):∀q,pm=some q→q≠b:=by
 obtain⟨p,vk,o,v1,ix,mk,e⟩:=a;rintro q rfl;obtain⟨ws,oq,x⟩:=mk;refine Own.ne oq o fun e=>?_;unfold flc at e;cases p<;>simp[pv]at e
theorem LoP.oth{h:Heap}{b:Nat}{pm:Option Nat}{l:List Int}{ks bs:List Bool}(a:LoP h b pm l ks bs):Oth h (b::pm.toList):=by
 obtain⟨p,vk,o,v1,ix,mk,e⟩:=a;refine Oth.app (A:=[b]) (Oth.own o (by simp) (iv (n:=1) rfl)) ?_;cases pm with
 |none=>exact fun x m=>by simp at m
 |some q=>
  obtain⟨ws,oq,x,_⟩:=mk;have wl:=x.len;refine Oth.own oq (by simp[flc];omega) ?_;intro L hL e;match ws,wl,L with
  |w1::w2::ws,_,(x1,x2)::(y1,y2)::L=>simp[flc,sp,uw]at e
  |w1::w2::ws,_,[(x1,x2)]=>simp[flc,sp,uw]at e
def htC(x:Nat×Int):List V:=[.int .u64 (x.1:Int),.int .i64 x.2]
def gM(m:Nat→Option Nat):List (Nat×Int)→Nat→List Int→List Bool→Int×Nat×List Int×List Bool
 |[],i,l,kn=>(0,i,l,kn)
 |x::r,i,l,kn=>match m x.1 with
  |none=>(11,i,l,kn)
  |some j=>if eZ l j x.2=0 then gM m r (i+1) (l.set j x.2) (kn.set j true)else(eZ l j x.2,i,l,kn)
theorem tN{n0:Nat}{h:Heap}{b bg B bm S bl:Nat}{Ks:List Knd}{cap:Int}{X:List Itm}{l:List Int}{kn st:List Bool}{vK v:V}{pm:Option Nat}{mc:ew}{H:List (Nat×Int)}(w:WF h)(s:Sto n0 h b Ks cap X l kn st vK bg B bm S bl pm mc)
 (sv:∀(Z:List Nat)(h':Heap),(∀z∈Z,z∈Wr b bg B bm S bl pm∨h.next≤z)→Fr Z h h'→ARecs htC 2 h' v H) (hH:∀x∈H,x.1<18446744073709551616∧-9223372036854775808≤x.2∧x.2≤9223372036854775807) (hl:H.length≤4096) (hm:∀k j,mc.1 k=some j→j≤4096):
 ao go 12 [.ptr b 0,v] h fun u h'=>u=.tup [.int .i64 ((gM mc.1 H 0 l kn).2.1:Int),.int .i64 (gM mc.1 H 0 l kn).1]∧
  ((gM mc.1 H 0 l kn).1=0→Fr (bl::pm.toList) h h'∧Sto n0 h' b Ks cap X (gM mc.1 H 0 l kn).2.2.1 (gM mc.1 H 0 l kn).2.2.2 st vK bg B bm S bl pm mc)∧
  ((gM mc.1 H 0 l kn).1≠0→Fr (b::bl::pm.toList) h h'∧∃c pm',h.next≤c∧(∀q,pm'=some q→h.next≤q)∧Sto n0 h' b Ks cap X l kn st vK bg B bm S c pm' mc):=by
 have l4:ag h b 4=some (.ptr bl 0):=s.ob.ld1 4;have sH:=sv [] h (by simp) (Fr.refl w);refine ah rfl rfl ?_;simp only[fn12,evs,seval];refine aa (iZ s) ?_;rintro _ _ ⟨rfl,rfl⟩;simp only[evs,seval,l4];refine aa (rA w s.lo) ?_;rintro _ h1 ⟨c,pm1,rfl,hc,hp,a1,F1⟩;simp only[evs,seval,(sH.fr F1).len];have mk1:=LoP.ne a1;have n1:=F1.next;have wm:∀z,z∈bl::pm.toList→z∈Wr b bg B bm S bl pm:=by
  intro z m;rcases List.mem_cons.1 m with rfl|m
  ·simp[Wr]
  ·exact List.mem_append.2 (.inr m)
 have wl:∀z,z∈bl::pm.toList→z<h.next:=by
  intro z m;rcases List.mem_cons.1 m with rfl|m
  ·exact s.bl'
  ·exact s.pl z (by simpa using m)
 have bn:=s.ob.lt w;refine aC (fun n env hh=>Fr (bl::pm.toList) h1 hh∧∃(i:Nat)(l2:List Int)(kn2:List Bool),LoP hh c pm1 l kn st∧Sto n0 hh b Ks cap X l2 kn2 st vK bg B bm S bl pm mc∧
  env.get 21=some (.int .i64 i)∧env.get 20=some (.int .i64 H.length)∧env.get 19=some v∧env.get 0=some (.ptr b 0)∧env.get 1=some v∧env.get 6=some (.ptr c 0)∧i≤H.length∧gM mc.1 (H.drop i) i l2 kn2=gM mc.1 H 0 l kn∧n=H.length-i) H.length (by omega) ?_ ?_
 ·exact⟨frQ (Fr.refl F1.wf),0,l,kn,a1,s.fr w F1,(by simp),(by simp),(by simp),(by simp),(by simp),(by simp),by omega,rfl,rfl⟩
 ·rintro n env hh ⟨F,i,l2,kn2,ac,ss,g21,g20,g19,g0,g1,g6,hi,em,rfl⟩;have Fh:Fr (bl::pm.toList) h hh:=Fr.trans F1 F w (by simp) (fun x m=>.inl m);have sHh:=sv (bl::pm.toList) hh (fun z m=>.inl (wm z m)) Fh;by_cases hlt:i<H.length
  ·have hlt':(i:Int)<H.length:=by omega
   obtain⟨bi,oi,x,p1,_,p3,p4⟩:=sHh.ix (f:=htC) (k:=2) (fun _=>rfl) .i64 (i:Int) (by omega) hlt';rw[Int.toNat_natCast]at p4;obtain⟨k0,z0,z1⟩:=hH x (List.mem_of_getElem? p4);have hd:H.drop i=x::H.drop (i+1):=aJ p4;obtain⟨h3,e_h3⟩:∃h3,h3=halloc hh [.int .u64 0,.int .i64 0]:=⟨_,rfl⟩;have F_h3:Fr [] hh h3:=e_h3▸Fr.halloc F.wf _;have o_h3:Own h3 hh.next [.int .u64 0,.int .i64 0]:=e_h3▸Own.new F.wf _;simp only[evs,seval,g21,g20,g19,hlt',p1,p3,←e_h3];refine ab (c':=htC x) F_h3.wf o_h3 rfl rfl rfl ?_;rintro h4 o4 F4 n4;have F04:Fr [] hh h4:=F_h3.fresh F4 F.wf (Nat.le_refl _);have s4:=ss.fr F.wf F04;have x0:ag h4 hh.next 0=some (.int .u64 (x.1:Int)):=o4.ld1 0;have x1:ag h4 hh.next 1=some (.int .i64 x.2):=o4.ld1 1;have b3:ag h4 b 3=some (.ptr bm 0):=s4.ob.ld1 3;simp only[evs,seval,eff,g0,x0,b3];refine aa (sy F04.wf s4.k k0) ?_;rintro _ h5 ⟨rfl,F5⟩;have F05:=F04.then F5;have s5:=ss.fr F.wf F05;have x1:ag h5 hh.next 1=some (.int .i64 x.2):=(F5.get o4).ld1 1;have b4:ag h5 b 4=some (.ptr bl 0):=s5.ob.ld1 4;cases ek:mc.1 x.1 with
   |none=>
    have e:gM mc.1 H 0 l kn=(11,i,l2,kn2):=by rw[←em,hd];simp[gM,ek]
    rw[e];simp only[evs,seval,DF,eff,eR,x0,b3,g0,g6,show¬(11:Int)=0 by decide];refine ab (c':=[vK,.int .i64 cap,.ptr bg 0,.ptr bm 0,.ptr c 0]) F05.wf s5.ob rfl rfl rfl ?_;rintro h6 o6 F6 n6;have ac6:LoP h6 c pm1 l kn st:=(ac.fr F05).frS F6 (Oth.own s5.ob (by simp) (iv (n:=2) rfl)) (by simp;omega) (fun q e=>by have:=hp q e;simp;omega);have f6:Fr (b::bl::pm.toList) h h6:=Fr.trans (Fr.trans Fh F05 w (fun x m=>.inl m) (fun x m=>by simp at m)) F6 w (fun x m=>.inl (List.mem_cons_of_mem _ m)) (fun x m=>.inl (by simp at m;simp[m]));have s6:=s.relay w f6 o6 ac6 s.len hc (fun q e=>⟨hp q e,mk1 q e⟩);simp only[evs,seval];exact⟨fun e=>e.elim,fun _=>⟨f6,c,pm1,hc,hp,s6⟩⟩
   |some j=>
    have jl:=hm _ _ ek;simp only[evs,seval,DF,eff,eR,x0,b3,x1,b4,g0];refine aa (CB F05.wf s5.lo z0 z1 (by omega) (by omega)) ?_;rintro _ h6 ⟨rfl,a6,F6⟩;have b46:ag h6 b 4=some (.ptr bl 0):=(F6.own b _ (fun m=>by have:=s.d;rcases List.mem_cons.1 m with m|m;exact this.b5 m;exact(this.p b (by simpa using m)).1 rfl) s5.ob).ld1 4
    have x16:ag h6 hh.next 1=some (.int .i64 x.2):=(F6.own _ _ (fun m=>by have:=F.next;have:=wl _ m;omega) (F5.get o4)).ld1 1;have ac6:LoP h6 c pm1 l kn st:=(ac.fr F05).frS F6 s5.lo.oth (fun m=>by have:=wl _ m;omega) (fun q e m=>by have:=hp q e;have:=wl _ m;omega);by_cases c5:eZ l2 j x.2=0
    ·rw[if_pos c5]at a6;have s6:=s5.lay F05.wf F6 a6 (by simp[ss.len]) (.inl rfl);have F16:Fr (bl::pm.toList) h1 h6:=Fr.trans (Fr.trans F F05 F1.wf (fun x m=>.inl m) (fun x m=>by simp at m)) F6 F1.wf (fun x m=>.inl m) (fun x m=>.inl m);have e:gM mc.1 (H.drop (i+1)) (i+1) (l2.set j x.2) (kn2.set j true)=gM mc.1 H 0 l kn:=by
      rw[←em,hd];simp[gM,ek,c5]
     simp(disch:=omega) only[evs,seval,DF,eff,ai,x1,b4,g21,eq_true c5];refine(aj _ _ _).2 ⟨H.length-(i+1),by omega,F16,i+1,_,_,ac6,s6,(by simp),(by simp[g20]),(by simp[g19]),(by simp[g0]),(by simp[g1]),(by simp[g6]),by omega,e,rfl⟩
    ·rw[if_neg c5]at a6;have s6:=s5.lay F05.wf F6 a6 ss.len (.inl rfl);have e:gM mc.1 H 0 l kn=(eZ l2 j x.2,i,l2,kn2):=by rw[←em,hd];simp[gM,ek,c5]
     rw[e];simp only[evs,seval,DF,eff,x1,b4,g0,g6,eq_false c5];refine ab (c':=[vK,.int .i64 cap,.ptr bg 0,.ptr bm 0,.ptr c 0]) F6.wf s6.ob rfl rfl rfl ?_;rintro h7 o7 F7 n7;have ac7:LoP h7 c pm1 l kn st:=ac6.frS F7 (Oth.own s6.ob (by simp) (iv (n:=2) rfl)) (by simp;omega) (fun q e=>by have:=hp q e;simp;omega);have f7:Fr (b::bl::pm.toList) h h7:=Fr.trans (Fr.trans (Fr.trans Fh F05 w (fun x m=>.inl m) (fun x m=>by simp at m)) F6 w (fun x m=>.inl m) (fun x m=>.inl m)) F7 w (fun x m=>.inl (List.mem_cons_of_mem _ m)) (fun x m=>.inl (by simp at m;simp[m]));have s7:=s.relay w f7 o7 ac7 s.len hc (fun q e=>⟨hp q e,mk1 q e⟩);simp only[evs,seval];exact⟨fun e=>e.elim,fun _=>⟨f7,c,pm1,hc,hp,s7⟩⟩
  ·have:i=H.length:=by omega
   subst this;rw[List.drop_length]at em;rw[←em];have hlt':¬(H.length:Int)<H.length:=by omega
   simp only[evs,seval,g21,g20,g1,eq_false hlt',sHh.len];exact⟨rfl,fun _=>⟨Fh,ss⟩,fun e=>absurd rfl e⟩
def iE:List V:=[.str [],.bool false,.bool false,.bool false,.bool false,.nilf,.str [105,110,115,101,114,116],.bool true,.bool false,.bool false,.bool true,.func (.func 128) [] [],.str [114,101,109,111,118,101],.bool true,.bool true,.bool false,.bool false,.func (.func 130) [] [],
 .str [109,111,118,101],.bool true,.bool true,.bool true,.bool false,.func (.func 131) [] [],.str [99,104,97,110,103,101],.bool true,.bool false,.bool false,.bool true,.func (.func 133) [] [],.str [114,101,115,101,116],.bool false,.bool false,.bool false,.bool true,.func (.func 135) [] []]
theorem AY{h:Heap}(w:WF h):ao go 67 [] h fun u h'=>u=.agg iE∧Fr [] h h':=by
 obtain⟨h1,e_h1⟩:∃h1,h1=halloc h [.str [],.bool false,.bool false,.bool false,.bool false,.nilf,.str [],.bool false,.bool false,.bool false,.bool false,.nilf,.str [],.bool false,.bool false,.bool false,.bool false,.nilf,.str [],.bool false,.bool false,.bool false,.bool false,.nilf,.str [],.bool false,.bool false,.bool false,.bool false,.nilf,.str [],.bool false,.bool false,.bool false,.bool false,.nilf]:=⟨_,rfl⟩;have F_h1:Fr [] h h1:=e_h1▸Fr.halloc w _;have o_h1:Own h1 h.next [.str [],.bool false,.bool false,.bool false,.bool false,.nilf,.str [],.bool false,.bool false,.bool false,.bool false,.nilf,.str [],.bool false,.bool false,.bool false,.bool false,.nilf,.str [],.bool false,.bool false,.bool false,.bool false,.nilf,.str [],.bool false,.bool false,.bool false,.bool false,.nilf,.str [],.bool false,.bool false,.bool false,.bool false,.nilf]:=e_h1▸Own.new w _;refine ah rfl rfl ?_;simp only[fn67,evs,seval,←e_h1];refine ab (c':=iE) F_h1.wf o_h1 rfl rfl rfl ?_;rintro h2 o2 F2 n2;have l2:ak h2 h.next 0 36=some iE:=by rw[o2.ld];rfl
 have F02:Fr [] h h2:=F_h1.fresh F2 w (Nat.le_refl _);simp only[evs,seval,l2];exact F02
def dB(k:Nat)(a c t:Int)(n:Nat):Int:=
 if k<1∨5<k then 1 else if(k=5∧a≠0)∨(¬(k=2∨k=3)∧c≠0)∨(k≠3∧t≠0)∨((k=2∨k=3)∧0<n)then 5 else 0
theorem GX{call:aD}{env:T V}{late:List Nat}{s:IStep}{l:List IStep}{i:Nat}{loc:List V}{h:Heap}(hi:late.contains i=false)(he:eff s.op=false)(e:aK call loc env h s.op=none):
 lay call env late (s::l) i loc h=(lay call env late l (i+1) (.tup []::loc) h).map fun r=>((s,none)::r.1,r.2):=by
 simp only[lay,hi,cond_false,qu,he,e];cases lay call env late l (i+1) (V.tup []::loc) h<;>rfl
abbrev rR:List V:=[.str [],.bool false,.bool false,.bool false,.bool false,.nilf]
theorem HM{env:T V}{h:Heap}{b1:Nat}{k:Nat}(g1:env.get 1=some (.ptr b1 0))(l0:ag h b1 0=some (.int .u8 (k:Int))):
 lay go env [4] [⟨none,.cf 67 [],none⟩,⟨none,.p (.faddr 0) [.v 1],none⟩,⟨none,.ld 1 false (.l 0),none⟩,⟨none,.p (.ixarr 6 6 true) [.l 2,.l 0],none⟩,⟨none,.al rR,none⟩,⟨none,.st 6 (.l 0) (.l 1),none⟩] 0 [] h=
  some ([(⟨none,.cf 67 [],none⟩,none),(⟨none,.p (.faddr 0) [.v 1],none⟩,none),(⟨none,.ld 1 false (.l 0),none⟩,none),(⟨none,.p (.ixarr 6 6 true) [.l 2,.l 0],none⟩,none),(⟨none,.al rR,none⟩,some (.ptr h.next 0,rR)),(⟨none,.st 6 (.l 0) (.l 1),none⟩,none)],halloc h rR):=by
 have ev_fa:∀(loc:List V)(h:Heap)(k:Nat),aK go loc env h (.p (.faddr k) [.v 1])=some (.ptr b1 k,h):=fun loc h k=>by
  simp only[aK,eP,cL,gh,g1,bW,gz,Nat.zero_add]
 have ev_ld:∀(loc:List V)(h:Heap)(k:Nat)(v:V),ag h b1 k=some v→aK go (.ptr b1 k::loc) env h (.ld 1 false (.l 0))=some (v,h):=fun loc h k v e=>by
  simp only[aK,mj,bv,eg,e]
 rw[uk rfl rfl,cC rfl rfl (ev_fa _ _ _),cC rfl rfl (ev_ld _ _ _ _ l0),GX rfl rfl rfl,xj (c:=rR) (k:=none) rfl rfl,uk rfl rfl];rfl
theorem um(loc:List V)(env:T V)(n:Nat):bI loc env (.al rR) (.ptr n 0) rR=true:=by
 simp[bI,fZ,jP,vEq,dy,lid]
theorem yM{h:Heap}{k n:Nat}{a c t:Int}{v:V}{cs:List V}(w:WF h)(hk:k<256)(sl:Sl h 4 v n cs):
 ao go 45 [.agg [.int .u8 (k:Int),.int .i64 a,.int .i64 c,.int .i64 t,v]] h fun u h'=>u=.int .i64 (dB k a c t n)∧Fr [] h h':=by
 have v1:v.one=true:=Sl.one sl;obtain⟨h1,e_h1⟩:∃h1,h1=halloc h [.int .u8 (k:Int),.int .i64 a,.int .i64 c,.int .i64 t,v]:=⟨_,rfl⟩;have F_h1:Fr [] h h1:=e_h1▸Fr.halloc w _;have o_h1:Own h1 h.next [.int .u8 (k:Int),.int .i64 a,.int .i64 c,.int .i64 t,v]:=e_h1▸Own.new w _;have l0:ag h1 h.next 0=some (.int .u8 (k:Int)):=o_h1.ld1 0;by_cases c1:k<1
 ·have c1':(k:Int)<1:=by omega
  refine ah rfl rfl ?_;simp only[fn45,evs,seval,←e_h1,l0,eq_true c1'];rw[dB,if_pos (.inl c1)];exact⟨rfl,F_h1⟩
 have c1':¬(k:Int)<1:=by omega
 by_cases c2:5<k
 ·have c2':(5:Int)<k:=by omega
  refine ah rfl rfl ?_;simp only[fn45,evs,seval,←e_h1,l0,eq_false c1',eq_true c2'];rw[dB,if_pos (.inr c2)];exact⟨rfl,F_h1⟩
 have c2':¬(5:Int)<k:=by omega
 refine ah rfl rfl ?_;simp only[fn45,evs,seval,←e_h1,l0,eq_false c1',eq_false c2'];refine(zP _ _ _ _ _ _ _).2 ?_;rw[HM (b1:=h.next) (by simp) l0,gC];obtain⟨h3,e_h3⟩:∃h3,h3=halloc h1 rR:=⟨_,rfl⟩;have F_h3:Fr [] h1 h3:=e_h3▸Fr.halloc F_h1.wf _;have o_h3:Own h3 h1.next rR:=e_h3▸Own.new F_h1.wf _;simp only[evs,eff,←e_h3];refine aa (AY F_h3.wf) ?_;rintro _ h4 ⟨rfl,F4⟩;have l0:ag h4 h.next 0=some (.int .u8 (k:Int)):=((F_h3.then F4).get o_h1).ld1 0;have ob:=F4.get o_h3;have l03:ag h3 h.next 0=some (.int .u8 (k:Int)):=(F_h3.get o_h1).ld1 0;have nq:h1.next≠h.next:=by rw[e_h1];simp[halloc]
 obtain rfl|rfl|rfl|rfl|rfl:k=1∨k=2∨k=3∨k=4∨k=5:=by omega
 ·have ax:aP (PK.ixarr 6 6 true) [.agg iE,.int .u8 ((1:Nat):Int)]=some (.agg [.str [105,110,115,101,114,116],.bool true,.bool false,.bool false,.bool true,.func (.func 128) [] []]):=rfl;simp only[evs,↓reduceIte,Nat.reduceEqDiff,eff,l0,c7,um,ax];refine ab (c':=[.str [105,110,115,101,114,116],.bool true,.bool false,.bool false,.bool true,.func (.func 128) [] []]) F4.wf ob rfl rfl rfl ?_;rintro h5 o5 F5 n5;have F35:Fr [] h1 h5:=(F_h3.then F4).fresh F5 F_h1.wf (Nat.le_refl _);have F15:=F_h1.then F35;have om:=F35.get o_h1;have m0:=om.ld1 0;have m1:=om.ld1 1;have m2:=om.ld1 2;have m3:=om.ld1 3;have m4:=om.ld1 4;have r1:=o5.ld1 1;have r2:=o5.ld1 2;have r3:=o5.ld1 3;have r4:=o5.ld1 4;simp only[bv,bT]at m0 m1 m2 m3 m4 r1 r2 r3 r4;by_cases hc:c=0
  ·by_cases ht:t=0
   ·simp only[evs,seval,DF,l0,l03,m2,m3,r1,r2,r3,r4,eq_true hc,eq_true ht];exact⟨by rw[dB,if_neg (by omega)];split<;>first|rfl|omega,F15⟩
   ·simp only[evs,seval,DF,l0,l03,m2,m3,r1,r2,r3,eq_true hc,eq_false ht];exact⟨by rw[dB,if_neg (by omega)];split<;>first|rfl|omega,F15⟩
  ·by_cases ht:t=0
   ·simp only[evs,seval,DF,l0,l03,m2,r1,r2,eq_false hc];exact⟨by rw[dB,if_neg (by omega)];split<;>first|rfl|omega,F15⟩
   ·simp only[evs,seval,DF,l0,l03,m2,r1,r2,eq_false hc];exact⟨by rw[dB,if_neg (by omega)];split<;>first|rfl|omega,F15⟩
 ·have ax:aP (PK.ixarr 6 6 true) [.agg iE,.int .u8 ((2:Nat):Int)]=some (.agg [.str [114,101,109,111,118,101],.bool true,.bool true,.bool false,.bool false,.func (.func 130) [] []]):=rfl;simp only[evs,↓reduceIte,Nat.reduceEqDiff,eff,l0,c7,um,ax];refine ab (c':=[.str [114,101,109,111,118,101],.bool true,.bool true,.bool false,.bool false,.func (.func 130) [] []]) F4.wf ob rfl rfl rfl ?_;rintro h5 o5 F5 n5;have F35:Fr [] h1 h5:=(F_h3.then F4).fresh F5 F_h1.wf (Nat.le_refl _);have F15:=F_h1.then F35;have om:=F35.get o_h1;have m0:=om.ld1 0;have m1:=om.ld1 1;have m2:=om.ld1 2;have m3:=om.ld1 3;have m4:=om.ld1 4;have r1:=o5.ld1 1;have r2:=o5.ld1 2;have r3:=o5.ld1 3;have r4:=o5.ld1 4;simp only[bv,bT]at m0 m1 m2 m3 m4 r1 r2 r3 r4;by_cases ht:t=0
  ·by_cases hn:(0:Int)<(n:Int)
   ·simp only[evs,seval,DF,l0,l03,m3,m4,r1,r2,r3,r4,(sl.fr F15).len,eq_true ht,eq_true hn];exact⟨by rw[dB,if_neg (by omega)];split<;>first|rfl|omega,F15⟩
   ·simp only[evs,seval,DF,l0,l03,m3,m4,r1,r2,r3,r4,(sl.fr F15).len,eq_true ht,eq_false hn];exact⟨by rw[dB,if_neg (by omega)];split<;>first|rfl|omega,F15⟩
  ·by_cases hn:(0:Int)<(n:Int)
   ·simp only[evs,seval,DF,l0,l03,m3,r1,r2,r3,eq_false ht];exact⟨by rw[dB,if_neg (by omega)];split<;>first|rfl|omega,F15⟩
   ·simp only[evs,seval,DF,l0,l03,m3,r1,r2,r3,eq_false ht];exact⟨by rw[dB,if_neg (by omega)];split<;>first|rfl|omega,F15⟩
 ·have ax:aP (PK.ixarr 6 6 true) [.agg iE,.int .u8 ((3:Nat):Int)]=some (.agg [.str [109,111,118,101],.bool true,.bool true,.bool true,.bool false,.func (.func 131) [] []]):=rfl;simp only[evs,↓reduceIte,Nat.reduceEqDiff,eff,l0,c7,um,ax];refine ab (c':=[.str [109,111,118,101],.bool true,.bool true,.bool true,.bool false,.func (.func 131) [] []]) F4.wf ob rfl rfl rfl ?_;rintro h5 o5 F5 n5;have F35:Fr [] h1 h5:=(F_h3.then F4).fresh F5 F_h1.wf (Nat.le_refl _);have F15:=F_h1.then F35;have om:=F35.get o_h1;have m0:=om.ld1 0;have m1:=om.ld1 1;have m2:=om.ld1 2;have m3:=om.ld1 3;have m4:=om.ld1 4;have r1:=o5.ld1 1;have r2:=o5.ld1 2;have r3:=o5.ld1 3;have r4:=o5.ld1 4;simp only[bv,bT]at m0 m1 m2 m3 m4 r1 r2 r3 r4;by_cases hn:(0:Int)<(n:Int)
  ·simp only[evs,seval,DF,l0,l03,m4,r1,r2,r3,r4,(sl.fr F15).len,eq_true hn];exact⟨by rw[dB,if_neg (by omega)];split<;>first|rfl|omega,F15⟩
  ·simp only[evs,seval,DF,l0,l03,m4,r1,r2,r3,r4,(sl.fr F15).len,eq_false hn];exact⟨by rw[dB,if_neg (by omega)];split<;>first|rfl|omega,F15⟩
 ·have ax:aP (PK.ixarr 6 6 true) [.agg iE,.int .u8 ((4:Nat):Int)]=some (.agg [.str [99,104,97,110,103,101],.bool true,.bool false,.bool false,.bool true,.func (.func 133) [] []]):=rfl;simp only[evs,↓reduceIte,Nat.reduceEqDiff,eff,l0,c7,um,ax];refine ab (c':=[.str [99,104,97,110,103,101],.bool true,.bool false,.bool false,.bool true,.func (.func 133) [] []]) F4.wf ob rfl rfl rfl ?_;rintro h5 o5 F5 n5;have F35:Fr [] h1 h5:=(F_h3.then F4).fresh F5 F_h1.wf (Nat.le_refl _);have F15:=F_h1.then F35;have om:=F35.get o_h1;have m0:=om.ld1 0;have m1:=om.ld1 1;have m2:=om.ld1 2;have m3:=om.ld1 3;have m4:=om.ld1 4;have r1:=o5.ld1 1;have r2:=o5.ld1 2;have r3:=o5.ld1 3;have r4:=o5.ld1 4;simp only[bv,bT]at m0 m1 m2 m3 m4 r1 r2 r3 r4;by_cases hc:c=0
  ·by_cases ht:t=0
   ·simp only[evs,seval,DF,l0,l03,m2,m3,r1,r2,r3,r4,eq_true hc,eq_true ht];exact⟨by rw[dB,if_neg (by omega)];split<;>first|rfl|omega,F15⟩
   ·simp only[evs,seval,DF,l0,l03,m2,m3,r1,r2,r3,eq_true hc,eq_false ht];exact⟨by rw[dB,if_neg (by omega)];split<;>first|rfl|omega,F15⟩
  ·by_cases ht:t=0
   ·simp only[evs,seval,DF,l0,l03,m2,r1,r2,eq_false hc];exact⟨by rw[dB,if_neg (by omega)];split<;>first|rfl|omega,F15⟩
   ·simp only[evs,seval,DF,l0,l03,m2,r1,r2,eq_false hc];exact⟨by rw[dB,if_neg (by omega)];split<;>first|rfl|omega,F15⟩
 ·have ax:aP (PK.ixarr 6 6 true) [.agg iE,.int .u8 ((5:Nat):Int)]=some (.agg [.str [114,101,115,101,116],.bool false,.bool false,.bool false,.bool true,.func (.func 135) [] []]):=rfl;simp only[evs,↓reduceIte,Nat.reduceEqDiff,eff,l0,c7,um,ax];refine ab (c':=[.str [114,101,115,101,116],.bool false,.bool false,.bool false,.bool true,.func (.func 135) [] []]) F4.wf ob rfl rfl rfl ?_;rintro h5 o5 F5 n5;have F35:Fr [] h1 h5:=(F_h3.then F4).fresh F5 F_h1.wf (Nat.le_refl _);have F15:=F_h1.then F35;have om:=F35.get o_h1;have m0:=om.ld1 0;have m1:=om.ld1 1;have m2:=om.ld1 2;have m3:=om.ld1 3;have m4:=om.ld1 4;have r1:=o5.ld1 1;have r2:=o5.ld1 2;have r3:=o5.ld1 3;have r4:=o5.ld1 4;simp only[bv,bT]at m0 m1 m2 m3 m4 r1 r2 r3 r4;by_cases ha:a=0
  ·by_cases hc:c=0
   ·by_cases ht:t=0
    ·simp only[evs,seval,DF,l0,l03,m1,m2,m3,r1,r2,r3,r4,eq_true ha,eq_true hc,eq_true ht];exact⟨by rw[dB,if_neg (by omega)];split<;>first|rfl|omega,F15⟩
    ·simp only[evs,seval,DF,l0,l03,m1,m2,m3,r1,r2,r3,eq_true ha,eq_true hc,eq_false ht];exact⟨by rw[dB,if_neg (by omega)];split<;>first|rfl|omega,F15⟩
   ·by_cases ht:t=0
    ·simp only[evs,seval,DF,l0,l03,m1,m2,r1,r2,eq_true ha,eq_false hc];exact⟨by rw[dB,if_neg (by omega)];split<;>first|rfl|omega,F15⟩
    ·simp only[evs,seval,DF,l0,l03,m1,m2,r1,r2,eq_true ha,eq_false hc];exact⟨by rw[dB,if_neg (by omega)];split<;>first|rfl|omega,F15⟩
  ·by_cases hc:c=0
   ·by_cases ht:t=0
    ·simp only[evs,seval,DF,l0,l03,m1,r1,eq_false ha];exact⟨by rw[dB,if_neg (by omega)];split<;>first|rfl|omega,F15⟩
    ·simp only[evs,seval,DF,l0,l03,m1,r1,eq_false ha];exact⟨by rw[dB,if_neg (by omega)];split<;>first|rfl|omega,F15⟩
   ·by_cases ht:t=0
    ·simp only[evs,seval,DF,l0,l03,m1,r1,eq_false ha];exact⟨by rw[dB,if_neg (by omega)];split<;>first|rfl|omega,F15⟩
    ·simp only[evs,seval,DF,l0,l03,m1,r1,eq_false ha];exact⟨by rw[dB,if_neg (by omega)];split<;>first|rfl|omega,F15⟩
end Go.Ev.Lay
