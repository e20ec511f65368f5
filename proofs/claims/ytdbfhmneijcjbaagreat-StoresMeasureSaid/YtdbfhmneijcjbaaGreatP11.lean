/- An evaluator of the program, and contracts over it: StaY to StbK. -/
import Derived.Test.YtdbfhmneijcjbaaGreatP10
set_option linter.unusedSimpArgs false
set_option linter.unusedVariables false
set_option linter.constructorNameAsVariable false
namespace Go.Ev.Lay
open Go.Ev.St
set_option maxRecDepth 4000
section
variable {n0 : Nat} {h : Heap} {b bg B bm S bl : Nat} {Ks : List Knd} {cap : Int} {X : List Itm} {l : List Int} {kn st : List Bool} {vK : V} {pm : Option Nat} {mc : eW}
theorem Ak{key:Nat}(w:WF h)(s:Sto n0 h b Ks cap X l kn st vK bg B bm S bl pm mc)(hk:key<18446744073709551616):ao go 10 [.ptr b 0,.int .u64 (key:Int)] h fun u h'=>u=kE (mc.1 key)∧Fr [] h h':=by
 have l3:ab h b 3=some (.ptr bm 0):=s.ob.ld1 3;refine ag g10 rfl ?_;simp only[fn10,evs,↓reduceIte,Nat.reduceEqDiff,Nat.reduceAdd];refine aa (kj s) ?_;rintro _ _ ⟨rfl,rfl⟩;simp only[evs,↓reduceIte,Nat.reduceEqDiff,l3];refine aa (sg w s.k hk) ?_;rintro _ h2 ⟨rfl,F2⟩;cases e:mc.1 key with
 |none=>
  simp only[evs,↓reduceIte,Nat.reduceEqDiff,kE];exact F2
 |some i=>
  simp only[evs,↓reduceIte,Nat.reduceEqDiff,kE];exact F2
theorem vw(w:WF h)(s:Sto n0 h b Ks cap X l kn st vK bg B bm S bl pm mc):ao go 13 [.ptr b 0] h fun u h'=>∃c pm',u=.ptr c 0∧h.next≤c∧(∀q,pm'=some q→h.next≤q)∧LoP h' c pm' l kn st∧Fr [] h h':=by
 have l4:ab h b 4=some (.ptr bl 0):=s.ob.ld1 4;refine ag g13 rfl ?_;simp only[fn13,evs,↓reduceIte,Nat.reduceEqDiff];refine aa (kj s) ?_;rintro _ _ ⟨rfl,rfl⟩;simp only[evs,↓reduceIte,Nat.reduceEqDiff,l4];refine aa (rj w s.lo) ?_;rintro _ h2 ⟨c,pm',rfl,hc,hp,a,F2⟩;simp only[evs,↓reduceIte];exact⟨c,pm',rfl,hc,hp,a,F2⟩
end
open Go.Ev.St
set_option maxRecDepth 4000
theorem Sto.relay{n0:Nat}{h h':Heap}{b bg B bm S bl c:Nat}{Ks:List Knd}{cap:Int}{X:List Itm}{l l':List Int}{kn st kn' st':List Bool}{vK:V}{pm pm':Option Nat}{mc:eW}(w:WF h)(s:Sto n0 h b Ks cap X l kn st vK bg B bm S bl pm mc)(f:Fr (b::bl::pm.toList) h h')
 (ob:Own h' b [vK,.int .i64 cap,.ptr bg 0,.ptr bm 0,.ptr c 0]) (a:LoP h' c pm' l' kn' st') (hl:l'.length=X.length) (hc:h.next≤c) (hp:∀q,pm'=some q→h.next≤q∧q≠c):Sto n0 h' b Ks cap X l' kn' st' vK bg B bm S c pm' mc:=by
 have d:=s.d;have fn:=f.next;have n0l:=s.n0l;have nb:∀y,b≠y→y≠bl→(∀q,pm=some q→q≠y)→y∉b::bl::pm.toList:=by
  intro y h0 h1 h2 m;rcases List.mem_cons.1 m with m|m
  ·exact h0 m.symm
  rcases List.mem_cons.1 m with m|m
  ·exact h1 m
  ·exact h2 y (by simpa using m) rfl
 have lb:=s.ob.lt w;have lg:bg<h.next:=s.g.ob.1.lt w;have lB:=s.gB.lt w;have lm:=s.k.lt w;have lS:=s.Sl';have ll:=s.bl';have pl:=a.pmlt f.wf;have dp:=d.p;have xg:=nb bg d.b1 d.g3 fun q e=>(dp q e).2.1;have xB:=nb B d.b2 d.t3 fun q e=>(dp q e).2.2.1;have xm:=nb bm d.b3 d.m1 fun q e=>(dp q e).2.2.2.1;have xS:=nb S d.b4 d.m2 fun q e=>(dp q e).2.2.2.2.1;refine⟨ob,s.g.fr f xg xB,s.gB.fr f xB,s.k.frS f xm xS,s.gS.fr f xS,a,hl,?_,?_,by omega,pl.1,pl.2,by omega⟩
 ·intro Z h2 hZ f2;refine s.rd ((b::bl::pm.toList)++Z) h2 (fun z m=>?_) (Fr.trans f f2 w (fun x m=>.inl (List.mem_append.2 (.inl m))) (fun x m=>.inl (List.mem_append.2 (.inr m))));rcases List.mem_append.1 m with m|m
  ·refine .inl ?_;rcases List.mem_cons.1 m with rfl|m
   ·simp[Wr]
   rcases List.mem_cons.1 m with rfl|m
   ·simp[Wr]
   ·exact List.mem_append.2 (.inr m)
  ·rcases hZ z m with q|q|q
   ·rcases List.mem_append.1 q with q|q
    ·simp only[List.mem_cons,List.not_mem_nil,or_false]at q;rcases q with q|q|q|q|q|q
     ·exact .inl (by simp[Wr,q])
     ·exact .inl (by simp[Wr,q])
     ·exact .inl (by simp[Wr,q])
     ·exact .inl (by simp[Wr,q])
     ·exact .inl (by simp[Wr,q])
     ·exact .inr (.inl (by omega))
    ·exact .inr (.inl (hp z (by simpa using q)).1)
   ·exact .inr (.inl (by omega))
   ·exact .inr (.inr q)
 ·refine⟨d.b1,d.b2,d.b3,d.b4,by omega,d.g1,d.g2,by omega,d.t1,d.t2,by omega,by omega,by omega,fun q e=>?_⟩;have:=hp q e;omega
theorem LoP.ne{h:Heap}{b:Nat}{pm:Option Nat}{l:List Int}{ks bs:List Bool}(a:LoP h b pm l ks bs):∀q,pm=some q→q≠b:=by
 obtain⟨p,vk,o,v1,ix,mk,e⟩:=a;rintro q rfl;obtain⟨ws,oq,x⟩:=mk;refine Own.ne oq o fun e=>?_;unfold flc at e;cases p<;>simp[pv]at e
theorem LoP.oth{h:Heap}{b:Nat}{pm:Option Nat}{l:List Int}{ks bs:List Bool}(a:LoP h b pm l ks bs):Oth h (b::pm.toList):=by
 obtain⟨p,vk,o,v1,ix,mk,e⟩:=a;refine Oth.app (A:=[b]) (Oth.own o (by simp) (iy (n:=1) rfl)) ?_;cases pm with
 |none=>exact fun x m=>by simp at m
 |some q=>
  obtain⟨ws,oq,x,_⟩:=mk;have wl:=x.len;refine Oth.own oq (by simp[flc];omega) ?_;intro L hL e;match ws,wl,L with
  |w1::w2::ws,_,(x1,x2)::(y1,y2)::L=>simp[flc,sp,uw]at e
  |w1::w2::ws,_,[(x1,x2)]=>simp[flc,sp,uw]at e
def htC(x:Nat×Int):List V:=[.int .u64 (x.1:Int),.int .i64 x.2]
def cF(m:Nat→Option Nat):List (Nat×Int)→Nat→List Int→List Bool→Int×Nat×List Int×List Bool
 |[],i,l,kn=>(0,i,l,kn)
 |x::r,i,l,kn=>match m x.1 with
  |none=>(11,i,l,kn)
  |some j=>if bK l j x.2=0 then cF m r (i+1) (l.set j x.2) (kn.set j true)else(bK l j x.2,i,l,kn)
theorem lY{n0:Nat}{h:Heap}{b bg B bm S bl:Nat}{Ks:List Knd}{cap:Int}{X:List Itm}{l:List Int}{kn st:List Bool}{vK v:V}{pm:Option Nat}{mc:eW}{H:List (Nat×Int)}(w:WF h)(s:Sto n0 h b Ks cap X l kn st vK bg B bm S bl pm mc)
 (sv:∀(Z:List Nat)(h':Heap),(∀z∈Z,z∈Wr b bg B bm S bl pm∨h.next≤z)→Fr Z h h'→ARecs htC 2 h' v H) (hH:∀x∈H,x.1<18446744073709551616∧-9223372036854775808≤x.2∧x.2≤9223372036854775807) (hl:H.length≤4096) (hm:∀k j,mc.1 k=some j→j≤4096):
 ao go 12 [.ptr b 0,v] h fun u h'=>u=.tup [.int .i64 ((cF mc.1 H 0 l kn).2.1:Int),.int .i64 (cF mc.1 H 0 l kn).1]∧
  ((cF mc.1 H 0 l kn).1=0→Fr (bl::pm.toList) h h'∧Sto n0 h' b Ks cap X (cF mc.1 H 0 l kn).2.2.1 (cF mc.1 H 0 l kn).2.2.2 st vK bg B bm S bl pm mc)∧
  ((cF mc.1 H 0 l kn).1≠0→Fr (b::bl::pm.toList) h h'∧∃c pm',h.next≤c∧(∀q,pm'=some q→h.next≤q)∧Sto n0 h' b Ks cap X l kn st vK bg B bm S c pm' mc):=by
 have l4:ab h b 4=some (.ptr bl 0):=s.ob.ld1 4;have sH:=sv [] h (by simp) (Fr.refl w);refine ag g12 rfl ?_;simp only[fn12,evs,↓reduceIte,Nat.reduceEqDiff,Nat.reduceAdd];refine aa (kj s) ?_;rintro _ _ ⟨rfl,rfl⟩;simp only[evs,↓reduceIte,Nat.reduceEqDiff,l4];refine aa (rj w s.lo) ?_;rintro _ h1 ⟨c,pm1,rfl,hc,hp,a1,F1⟩;simp only[evs,↓reduceIte,Nat.reduceEqDiff,(sH.fr F1).len];have mk1:=LoP.ne a1;have n1:=F1.next;have wm:∀z,z∈bl::pm.toList→z∈Wr b bg B bm S bl pm:=by
  intro z m;rcases List.mem_cons.1 m with rfl|m
  ·simp[Wr]
  ·exact List.mem_append.2 (.inr m)
 have wl:∀z,z∈bl::pm.toList→z<h.next:=by
  intro z m;rcases List.mem_cons.1 m with rfl|m
  ·exact s.bl'
  ·exact s.pl z (by simpa using m)
 have bn:=s.ob.lt w;refine aE (fun n env hh=>Fr (bl::pm.toList) h1 hh∧∃(i:Nat)(l2:List Int)(kn2:List Bool),LoP hh c pm1 l kn st∧Sto n0 hh b Ks cap X l2 kn2 st vK bg B bm S bl pm mc∧
  env.get 21=some (.int .i64 i)∧env.get 20=some (.int .i64 H.length)∧env.get 19=some v∧env.get 0=some (.ptr b 0)∧env.get 1=some v∧env.get 6=some (.ptr c 0)∧i≤H.length∧cF mc.1 (H.drop i) i l2 kn2=cF mc.1 H 0 l kn∧n=H.length-i) H.length (by omega) ?_ ?_
 ·exact⟨frQ (Fr.refl F1.wf),0,l,kn,a1,s.fr w F1,(by simp[T.get_set]),(by simp[T.get_set]),(by simp[T.get_set]),(by simp[T.get_set]),(by simp[T.get_set]),(by simp[T.get_set]),by omega,rfl,rfl⟩
 ·rintro n env hh ⟨F,i,l2,kn2,ac,ss,g21,g20,g19,g0,g1,g6,hi,em,rfl⟩;have Fh:Fr (bl::pm.toList) h hh:=Fr.trans F1 F w (by simp) (fun x m=>.inl m);have sHh:=sv (bl::pm.toList) hh (fun z m=>.inl (wm z m)) Fh;by_cases hlt:i<H.length
  ·have hlt':(i:Int)<H.length:=by omega
   obtain⟨bi,oi,x,p1,_,p3,p4⟩:=sHh.ix (f:=htC) (k:=2) (fun _=>rfl) .i64 (i:Int) (by omega) hlt';rw[Int.toNat_natCast]at p4;obtain⟨k0,z0,z1⟩:=hH x (List.mem_of_getElem? p4);have hd:H.drop i=x::H.drop (i+1):=aK p4;obtain⟨h3,e_h3⟩:∃h3,h3=halloc hh [.int .u64 0,.int .i64 0]:=⟨_,rfl⟩;have F_h3:Fr [] hh h3:=e_h3▸Fr.halloc F.wf _;have o_h3:Own h3 hh.next [.int .u64 0,.int .i64 0]:=e_h3▸Own.new F.wf _;simp only[evs,↓reduceIte,Nat.reduceEqDiff,g21,g20,g19,hlt',p1,p3,←e_h3];refine ah (c':=htC x) F_h3.wf o_h3 rfl rfl rfl ?_;rintro h4 o4 F4 n4;have F04:Fr [] hh h4:=F_h3.fresh F4 F.wf (Nat.le_refl _);have s4:=ss.fr F.wf F04;have x0:ab h4 hh.next 0=some (.int .u64 (x.1:Int)):=o4.ld1 0;have x1:ab h4 hh.next 1=some (.int .i64 x.2):=o4.ld1 1;have b3:ab h4 b 3=some (.ptr bm 0):=s4.ob.ld1 3;simp only[evs,↓reduceIte,Nat.reduceEqDiff,eff,g0,x0,b3];refine aa (sg F04.wf s4.k k0) ?_;rintro _ h5 ⟨rfl,F5⟩;have F05:=F04.then F5;have s5:=ss.fr F.wf F05;have x1:ab h5 hh.next 1=some (.int .i64 x.2):=(F5.get o4).ld1 1;have b4:ab h5 b 4=some (.ptr bl 0):=s5.ob.ld1 4;cases ek:mc.1 x.1 with
   |none=>
    have e:cF mc.1 H 0 l kn=(11,i,l2,kn2):=by rw[←em,hd];simp[cF,ek]
    rw[e];simp only[evs,↓reduceIte,Nat.reduceEqDiff,Nat.reduceAdd,DF,eff,Nat.reduceSub,kE,x0,b3,g0,g6,show¬(11:Int)=0 by decide];refine ah (c':=[vK,.int .i64 cap,.ptr bg 0,.ptr bm 0,.ptr c 0]) F05.wf s5.ob rfl rfl rfl ?_;rintro h6 o6 F6 n6;have ac6:LoP h6 c pm1 l kn st:=(ac.fr F05).frS F6 (Oth.own s5.ob (by simp) (iy (n:=2) rfl)) (by simp;omega) (fun q e=>by have:=hp q e;simp;omega);have f6:Fr (b::bl::pm.toList) h h6:=Fr.trans (Fr.trans Fh F05 w (fun x m=>.inl m) (fun x m=>by simp at m)) F6 w (fun x m=>.inl (List.mem_cons_of_mem _ m)) (fun x m=>.inl (by simp at m;simp[m]));have s6:=s.relay w f6 o6 ac6 s.len hc (fun q e=>⟨hp q e,mk1 q e⟩);simp only[evs,↓reduceIte,Nat.reduceEqDiff];exact⟨fun e=>e.elim,fun _=>⟨f6,c,pm1,hc,hp,s6⟩⟩
   |some j=>
    have jl:=hm _ _ ek;simp only[evs,↓reduceIte,Nat.reduceEqDiff,Nat.reduceAdd,DF,eff,Nat.reduceSub,kE,x0,b3,x1,b4,g0];refine aa (CB F05.wf s5.lo z0 z1 (by omega) (by omega)) ?_;rintro _ h6 ⟨rfl,a6,F6⟩;have b46:ab h6 b 4=some (.ptr bl 0):=(F6.own b _ (fun m=>by have:=s.d;rcases List.mem_cons.1 m with m|m;exact this.b5 m;exact(this.p b (by simpa using m)).1 rfl) s5.ob).ld1 4
    have x16:ab h6 hh.next 1=some (.int .i64 x.2):=(F6.own _ _ (fun m=>by have:=F.next;have:=wl _ m;omega) (F5.get o4)).ld1 1;have ac6:LoP h6 c pm1 l kn st:=(ac.fr F05).frS F6 s5.lo.oth (fun m=>by have:=wl _ m;omega) (fun q e m=>by have:=hp q e;have:=wl _ m;omega);by_cases c5:bK l2 j x.2=0
    ·rw[if_pos c5]at a6;have s6:=s5.lay F05.wf F6 a6 (by simp[ss.len]) (.inl rfl);have F16:Fr (bl::pm.toList) h1 h6:=Fr.trans (Fr.trans F F05 F1.wf (fun x m=>.inl m) (fun x m=>by simp at m)) F6 F1.wf (fun x m=>.inl m) (fun x m=>.inl m);have e:cF mc.1 (H.drop (i+1)) (i+1) (l2.set j x.2) (kn2.set j true)=cF mc.1 H 0 l kn:=by
      rw[←em,hd];simp[cF,ek,c5]
     simp(disch:=omega) only[evs,↓reduceIte,Nat.reduceEqDiff,Nat.reduceAdd,DF,eff,Nat.reduceSub,ai,x1,b4,g21,eq_true c5];refine(aj _ _ _).2 ⟨H.length-(i+1),by omega,F16,i+1,_,_,ac6,s6,(by simp[T.get_set]),(by simp[T.get_set,g20]),(by simp[T.get_set,g19]),(by simp[T.get_set,g0]),(by simp[T.get_set,g1]),(by simp[T.get_set,g6]),by omega,e,rfl⟩
    ·rw[if_neg c5]at a6;have s6:=s5.lay F05.wf F6 a6 ss.len (.inl rfl);have e:cF mc.1 H 0 l kn=(bK l2 j x.2,i,l2,kn2):=by rw[←em,hd];simp[cF,ek,c5]
     rw[e];simp only[evs,↓reduceIte,Nat.reduceEqDiff,Nat.reduceAdd,DF,eff,Nat.reduceSub,x1,b4,g0,g6,eq_false c5];refine ah (c':=[vK,.int .i64 cap,.ptr bg 0,.ptr bm 0,.ptr c 0]) F6.wf s6.ob rfl rfl rfl ?_;rintro h7 o7 F7 n7;have ac7:LoP h7 c pm1 l kn st:=ac6.frS F7 (Oth.own s6.ob (by simp) (iy (n:=2) rfl)) (by simp;omega) (fun q e=>by have:=hp q e;simp;omega);have f7:Fr (b::bl::pm.toList) h h7:=Fr.trans (Fr.trans (Fr.trans Fh F05 w (fun x m=>.inl m) (fun x m=>by simp at m)) F6 w (fun x m=>.inl m) (fun x m=>.inl m)) F7 w (fun x m=>.inl (List.mem_cons_of_mem _ m)) (fun x m=>.inl (by simp at m;simp[m]));have s7:=s.relay w f7 o7 ac7 s.len hc (fun q e=>⟨hp q e,mk1 q e⟩);simp only[evs,↓reduceIte,Nat.reduceEqDiff];exact⟨fun e=>e.elim,fun _=>⟨f7,c,pm1,hc,hp,s7⟩⟩
  ·have:i=H.length:=by omega
   subst this;rw[List.drop_length]at em;rw[←em];have hlt':¬(H.length:Int)<H.length:=by omega
   simp only[evs,↓reduceIte,Nat.reduceEqDiff,g21,g20,g1,eq_false hlt',sHh.len];exact⟨rfl,fun _=>⟨Fh,ss⟩,fun e=>absurd rfl e⟩
def iF:List V:=[.str [],.bool false,.bool false,.bool false,.bool false,.nilf,.str [105,110,115,101,114,116],.bool true,.bool false,.bool false,.bool true,.func (.func 128) [] [],.str [114,101,109,111,118,101],.bool true,.bool true,.bool false,.bool false,.func (.func 130) [] [],
 .str [109,111,118,101],.bool true,.bool true,.bool true,.bool false,.func (.func 131) [] [],.str [99,104,97,110,103,101],.bool true,.bool false,.bool false,.bool true,.func (.func 133) [] [],.str [114,101,115,101,116],.bool false,.bool false,.bool false,.bool true,.func (.func 135) [] []]
theorem AQ{h:Heap}(w:WF h):ao go 67 [] h fun u h'=>u=.agg iF∧Fr [] h h':=by
 obtain⟨h1,e_h1⟩:∃h1,h1=halloc h [.str [],.bool false,.bool false,.bool false,.bool false,.nilf,.str [],.bool false,.bool false,.bool false,.bool false,.nilf,.str [],.bool false,.bool false,.bool false,.bool false,.nilf,.str [],.bool false,.bool false,.bool false,.bool false,.nilf,.str [],.bool false,.bool false,.bool false,.bool false,.nilf,.str [],.bool false,.bool false,.bool false,.bool false,.nilf]:=⟨_,rfl⟩;have F_h1:Fr [] h h1:=e_h1▸Fr.halloc w _;have o_h1:Own h1 h.next [.str [],.bool false,.bool false,.bool false,.bool false,.nilf,.str [],.bool false,.bool false,.bool false,.bool false,.nilf,.str [],.bool false,.bool false,.bool false,.bool false,.nilf,.str [],.bool false,.bool false,.bool false,.bool false,.nilf,.str [],.bool false,.bool false,.bool false,.bool false,.nilf,.str [],.bool false,.bool false,.bool false,.bool false,.nilf]:=e_h1▸Own.new w _;refine ag g67 rfl ?_;simp only[fn67,evs,↓reduceIte,Nat.reduceAdd,Nat.reduceLT,←e_h1];refine ah (c':=iF) F_h1.wf o_h1 rfl rfl rfl ?_;rintro h2 o2 F2 n2;have l2:au h2 h.next 0 36=some iF:=by rw[o2.ld];rfl
 have F02:Fr [] h h2:=F_h1.fresh F2 w (Nat.le_refl _);simp only[evs,↓reduceIte,l2];exact F02
def dE(k:Nat)(a c t:Int)(n:Nat):Int:=
 if k<1∨5<k then 1 else if(k=5∧a≠0)∨(¬(k=2∨k=3)∧c≠0)∨(k≠3∧t≠0)∨((k=2∨k=3)∧0<n)then 5 else 0
theorem GM{call:av}{env:T V}{late:List Nat}{s:IStep}{l:List IStep}{i:Nat}{loc:List V}{h:Heap}(hi:late.contains i=false)(he:eff s.op=false)(e:aG call loc env h s.op=none):
 lay call env late (s::l) i loc h=(lay call env late l (i+1) (.tup []::loc) h).map fun r=>((s,none)::r.1,r.2):=by
 simp only[lay,hi,cond_false,qv,he,e];cases lay call env late l (i+1) (V.tup []::loc) h<;>rfl
abbrev rP:List V:=[.str [],.bool false,.bool false,.bool false,.bool false,.nilf]
theorem HG{env:T V}{h:Heap}{b1:Nat}{k:Nat}(g1:env.get 1=some (.ptr b1 0))(l0:ab h b1 0=some (.int .u8 (k:Int))):
 lay go env [4] [⟨none,.cf 67 [],none⟩,⟨none,.p (.faddr 0) [.v 1],none⟩,⟨none,.ld 1 false (.l 0),none⟩,⟨none,.p (.ixarr 6 6 true) [.l 2,.l 0],none⟩,⟨none,.al rP,none⟩,⟨none,.st 6 (.l 0) (.l 1),none⟩] 0 [] h=
  some ([(⟨none,.cf 67 [],none⟩,none),(⟨none,.p (.faddr 0) [.v 1],none⟩,none),(⟨none,.ld 1 false (.l 0),none⟩,none),(⟨none,.p (.ixarr 6 6 true) [.l 2,.l 0],none⟩,none),(⟨none,.al rP,none⟩,some (.ptr h.next 0,rP)),(⟨none,.st 6 (.l 0) (.l 1),none⟩,none)],halloc h rP):=by
 have ev_fa:∀(loc:List V)(h:Heap)(k:Nat),aG go loc env h (.p (.faddr k) [.v 1])=some (.ptr b1 k,h):=fun loc h k=>by
  simp only[aG,eV,cS,gh,g1,bZ,gz,Nat.zero_add]
 have ev_ld:∀(loc:List V)(h:Heap)(k:Nat)(v:V),ab h b1 k=some v→aG go (.ptr b1 k::loc) env h (.ld 1 false (.l 0))=some (v,h):=fun loc h k v e=>by
  simp only[aG,mj,bD,eF,e]
 rw[tR rfl rfl,cH rfl rfl (ev_fa _ _ _),cH rfl rfl (ev_ld _ _ _ _ l0),GM rfl rfl rfl,wS (c:=rP) (k:=none) rfl rfl,tR rfl rfl];rfl
theorem tU(loc:List V)(env:T V)(n:Nat):bH loc env (.al rP) (.ptr n 0) rP=true:=by
 simp[bH,fZ,jI,vEq,dC,lid]
theorem yD{h:Heap}{k n:Nat}{a c t:Int}{v:V}{cs:List V}(w:WF h)(hk:k<256)(sl:Sl h 4 v n cs):
 ao go 45 [.agg [.int .u8 (k:Int),.int .i64 a,.int .i64 c,.int .i64 t,v]] h fun u h'=>u=.int .i64 (dE k a c t n)∧Fr [] h h':=by
 have v1:v.one=true:=Sl.one sl;obtain⟨h1,e_h1⟩:∃h1,h1=halloc h [.int .u8 (k:Int),.int .i64 a,.int .i64 c,.int .i64 t,v]:=⟨_,rfl⟩;have F_h1:Fr [] h h1:=e_h1▸Fr.halloc w _;have o_h1:Own h1 h.next [.int .u8 (k:Int),.int .i64 a,.int .i64 c,.int .i64 t,v]:=e_h1▸Own.new w _;have l0:ab h1 h.next 0=some (.int .u8 (k:Int)):=o_h1.ld1 0;by_cases c1:k<1
 ·have c1':(k:Int)<1:=by omega
  refine ag g45 rfl ?_;simp only[fn45,evs,↓reduceIte,Nat.reduceEqDiff,←e_h1,l0,eq_true c1'];rw[dE,if_pos (.inl c1)];exact⟨rfl,F_h1⟩
 have c1':¬(k:Int)<1:=by omega
 by_cases c2:5<k
 ·have c2':(5:Int)<k:=by omega
  refine ag g45 rfl ?_;simp only[fn45,evs,↓reduceIte,Nat.reduceEqDiff,←e_h1,l0,eq_false c1',eq_true c2'];rw[dE,if_pos (.inr c2)];exact⟨rfl,F_h1⟩
 have c2':¬(5:Int)<k:=by omega
 refine ag g45 rfl ?_;simp only[fn45,evs,↓reduceIte,Nat.reduceEqDiff,←e_h1,l0,eq_false c1',eq_false c2'];refine(zB _ _ _ _ _ _ _).2 ?_;rw[HG (b1:=h.next) (by simp[T.get_set]) l0,gA];obtain⟨h3,e_h3⟩:∃h3,h3=halloc h1 rP:=⟨_,rfl⟩;have F_h3:Fr [] h1 h3:=e_h3▸Fr.halloc F_h1.wf _;have o_h3:Own h3 h1.next rP:=e_h3▸Own.new F_h1.wf _;simp only[evs,eff,←e_h3];refine aa (AQ F_h3.wf) ?_;rintro _ h4 ⟨rfl,F4⟩;have l0:ab h4 h.next 0=some (.int .u8 (k:Int)):=((F_h3.then F4).get o_h1).ld1 0;have ob:=F4.get o_h3;have l03:ab h3 h.next 0=some (.int .u8 (k:Int)):=(F_h3.get o_h1).ld1 0;have nq:h1.next≠h.next:=by rw[e_h1];simp[halloc]
 obtain rfl|rfl|rfl|rfl|rfl:k=1∨k=2∨k=3∨k=4∨k=5:=by omega
 ·have ax:aP (PK.ixarr 6 6 true) [.agg iF,.int .u8 ((1:Nat):Int)]=some (.agg [.str [105,110,115,101,114,116],.bool true,.bool false,.bool false,.bool true,.func (.func 128) [] []]):=rfl;simp only[evs,↓reduceIte,Nat.reduceEqDiff,eff,l0,de,tU,ax];refine ah (c':=[.str [105,110,115,101,114,116],.bool true,.bool false,.bool false,.bool true,.func (.func 128) [] []]) F4.wf ob rfl rfl rfl ?_;rintro h5 o5 F5 n5;have F35:Fr [] h1 h5:=(F_h3.then F4).fresh F5 F_h1.wf (Nat.le_refl _);have F15:=F_h1.then F35;have om:=F35.get o_h1;have m0:=om.ld1 0;have m1:=om.ld1 1;have m2:=om.ld1 2;have m3:=om.ld1 3;have m4:=om.ld1 4;have r1:=o5.ld1 1;have r2:=o5.ld1 2;have r3:=o5.ld1 3;have r4:=o5.ld1 4;simp only[bD,bY]at m0 m1 m2 m3 m4 r1 r2 r3 r4;by_cases hc:c=0
  ·by_cases ht:t=0
   ·simp only[evs,↓reduceIte,Nat.reduceEqDiff,Nat.reduceAdd,DF,Nat.reduceSub,l0,l03,m2,m3,r1,r2,r3,r4,eq_true hc,eq_true ht];exact⟨by rw[dE,if_neg (by omega)];split<;>first|rfl|omega,F15⟩
   ·simp only[evs,↓reduceIte,Nat.reduceEqDiff,Nat.reduceAdd,DF,Nat.reduceSub,l0,l03,m2,m3,r1,r2,r3,eq_true hc,eq_false ht];exact⟨by rw[dE,if_neg (by omega)];split<;>first|rfl|omega,F15⟩
  ·by_cases ht:t=0
   ·simp only[evs,↓reduceIte,Nat.reduceEqDiff,Nat.reduceAdd,DF,Nat.reduceSub,l0,l03,m2,r1,r2,eq_false hc];exact⟨by rw[dE,if_neg (by omega)];split<;>first|rfl|omega,F15⟩
   ·simp only[evs,↓reduceIte,Nat.reduceEqDiff,Nat.reduceAdd,DF,Nat.reduceSub,l0,l03,m2,r1,r2,eq_false hc];exact⟨by rw[dE,if_neg (by omega)];split<;>first|rfl|omega,F15⟩
 ·have ax:aP (PK.ixarr 6 6 true) [.agg iF,.int .u8 ((2:Nat):Int)]=some (.agg [.str [114,101,109,111,118,101],.bool true,.bool true,.bool false,.bool false,.func (.func 130) [] []]):=rfl;simp only[evs,↓reduceIte,Nat.reduceEqDiff,eff,l0,de,tU,ax];refine ah (c':=[.str [114,101,109,111,118,101],.bool true,.bool true,.bool false,.bool false,.func (.func 130) [] []]) F4.wf ob rfl rfl rfl ?_;rintro h5 o5 F5 n5;have F35:Fr [] h1 h5:=(F_h3.then F4).fresh F5 F_h1.wf (Nat.le_refl _);have F15:=F_h1.then F35;have om:=F35.get o_h1;have m0:=om.ld1 0;have m1:=om.ld1 1;have m2:=om.ld1 2;have m3:=om.ld1 3;have m4:=om.ld1 4;have r1:=o5.ld1 1;have r2:=o5.ld1 2;have r3:=o5.ld1 3;have r4:=o5.ld1 4;simp only[bD,bY]at m0 m1 m2 m3 m4 r1 r2 r3 r4;by_cases ht:t=0
  ·by_cases hn:(0:Int)<(n:Int)
   ·simp only[evs,↓reduceIte,Nat.reduceEqDiff,Nat.reduceAdd,DF,Nat.reduceSub,l0,l03,m3,m4,r1,r2,r3,r4,(sl.fr F15).len,eq_true ht,eq_true hn];exact⟨by rw[dE,if_neg (by omega)];split<;>first|rfl|omega,F15⟩
   ·simp only[evs,↓reduceIte,Nat.reduceEqDiff,Nat.reduceAdd,DF,Nat.reduceSub,l0,l03,m3,m4,r1,r2,r3,r4,(sl.fr F15).len,eq_true ht,eq_false hn];exact⟨by rw[dE,if_neg (by omega)];split<;>first|rfl|omega,F15⟩
  ·by_cases hn:(0:Int)<(n:Int)
   ·simp only[evs,↓reduceIte,Nat.reduceEqDiff,Nat.reduceAdd,DF,Nat.reduceSub,l0,l03,m3,r1,r2,r3,eq_false ht];exact⟨by rw[dE,if_neg (by omega)];split<;>first|rfl|omega,F15⟩
   ·simp only[evs,↓reduceIte,Nat.reduceEqDiff,Nat.reduceAdd,DF,Nat.reduceSub,l0,l03,m3,r1,r2,r3,eq_false ht];exact⟨by rw[dE,if_neg (by omega)];split<;>first|rfl|omega,F15⟩
 ·have ax:aP (PK.ixarr 6 6 true) [.agg iF,.int .u8 ((3:Nat):Int)]=some (.agg [.str [109,111,118,101],.bool true,.bool true,.bool true,.bool false,.func (.func 131) [] []]):=rfl;simp only[evs,↓reduceIte,Nat.reduceEqDiff,eff,l0,de,tU,ax];refine ah (c':=[.str [109,111,118,101],.bool true,.bool true,.bool true,.bool false,.func (.func 131) [] []]) F4.wf ob rfl rfl rfl ?_;rintro h5 o5 F5 n5;have F35:Fr [] h1 h5:=(F_h3.then F4).fresh F5 F_h1.wf (Nat.le_refl _);have F15:=F_h1.then F35;have om:=F35.get o_h1;have m0:=om.ld1 0;have m1:=om.ld1 1;have m2:=om.ld1 2;have m3:=om.ld1 3;have m4:=om.ld1 4;have r1:=o5.ld1 1;have r2:=o5.ld1 2;have r3:=o5.ld1 3;have r4:=o5.ld1 4;simp only[bD,bY]at m0 m1 m2 m3 m4 r1 r2 r3 r4;by_cases hn:(0:Int)<(n:Int)
  ·simp only[evs,↓reduceIte,Nat.reduceEqDiff,Nat.reduceAdd,DF,Nat.reduceSub,l0,l03,m4,r1,r2,r3,r4,(sl.fr F15).len,eq_true hn];exact⟨by rw[dE,if_neg (by omega)];split<;>first|rfl|omega,F15⟩
  ·simp only[evs,↓reduceIte,Nat.reduceEqDiff,Nat.reduceAdd,DF,Nat.reduceSub,l0,l03,m4,r1,r2,r3,r4,(sl.fr F15).len,eq_false hn];exact⟨by rw[dE,if_neg (by omega)];split<;>first|rfl|omega,F15⟩
 ·have ax:aP (PK.ixarr 6 6 true) [.agg iF,.int .u8 ((4:Nat):Int)]=some (.agg [.str [99,104,97,110,103,101],.bool true,.bool false,.bool false,.bool true,.func (.func 133) [] []]):=rfl;simp only[evs,↓reduceIte,Nat.reduceEqDiff,eff,l0,de,tU,ax];refine ah (c':=[.str [99,104,97,110,103,101],.bool true,.bool false,.bool false,.bool true,.func (.func 133) [] []]) F4.wf ob rfl rfl rfl ?_;rintro h5 o5 F5 n5;have F35:Fr [] h1 h5:=(F_h3.then F4).fresh F5 F_h1.wf (Nat.le_refl _);have F15:=F_h1.then F35;have om:=F35.get o_h1;have m0:=om.ld1 0;have m1:=om.ld1 1;have m2:=om.ld1 2;have m3:=om.ld1 3;have m4:=om.ld1 4;have r1:=o5.ld1 1;have r2:=o5.ld1 2;have r3:=o5.ld1 3;have r4:=o5.ld1 4;simp only[bD,bY]at m0 m1 m2 m3 m4 r1 r2 r3 r4;by_cases hc:c=0
  ·by_cases ht:t=0
   ·simp only[evs,↓reduceIte,Nat.reduceEqDiff,Nat.reduceAdd,DF,Nat.reduceSub,l0,l03,m2,m3,r1,r2,r3,r4,eq_true hc,eq_true ht];exact⟨by rw[dE,if_neg (by omega)];split<;>first|rfl|omega,F15⟩
   ·simp only[evs,↓reduceIte,Nat.reduceEqDiff,Nat.reduceAdd,DF,Nat.reduceSub,l0,l03,m2,m3,r1,r2,r3,eq_true hc,eq_false ht];exact⟨by rw[dE,if_neg (by omega)];split<;>first|rfl|omega,F15⟩
  ·by_cases ht:t=0
   ·simp only[evs,↓reduceIte,Nat.reduceEqDiff,Nat.reduceAdd,DF,Nat.reduceSub,l0,l03,m2,r1,r2,eq_false hc];exact⟨by rw[dE,if_neg (by omega)];split<;>first|rfl|omega,F15⟩
   ·simp only[evs,↓reduceIte,Nat.reduceEqDiff,Nat.reduceAdd,DF,Nat.reduceSub,l0,l03,m2,r1,r2,eq_false hc];exact⟨by rw[dE,if_neg (by omega)];split<;>first|rfl|omega,F15⟩
 ·have ax:aP (PK.ixarr 6 6 true) [.agg iF,.int .u8 ((5:Nat):Int)]=some (.agg [.str [114,101,115,101,116],.bool false,.bool false,.bool false,.bool true,.func (.func 135) [] []]):=rfl;simp only[evs,↓reduceIte,Nat.reduceEqDiff,eff,l0,de,tU,ax];refine ah (c':=[.str [114,101,115,101,116],.bool false,.bool false,.bool false,.bool true,.func (.func 135) [] []]) F4.wf ob rfl rfl rfl ?_;rintro h5 o5 F5 n5;have F35:Fr [] h1 h5:=(F_h3.then F4).fresh F5 F_h1.wf (Nat.le_refl _);have F15:=F_h1.then F35;have om:=F35.get o_h1;have m0:=om.ld1 0;have m1:=om.ld1 1;have m2:=om.ld1 2;have m3:=om.ld1 3;have m4:=om.ld1 4;have r1:=o5.ld1 1;have r2:=o5.ld1 2;have r3:=o5.ld1 3;have r4:=o5.ld1 4;simp only[bD,bY]at m0 m1 m2 m3 m4 r1 r2 r3 r4;by_cases ha:a=0
  ·by_cases hc:c=0
   ·by_cases ht:t=0
    ·simp only[evs,↓reduceIte,Nat.reduceEqDiff,Nat.reduceAdd,DF,Nat.reduceSub,l0,l03,m1,m2,m3,r1,r2,r3,r4,eq_true ha,eq_true hc,eq_true ht];exact⟨by rw[dE,if_neg (by omega)];split<;>first|rfl|omega,F15⟩
    ·simp only[evs,↓reduceIte,Nat.reduceEqDiff,Nat.reduceAdd,DF,Nat.reduceSub,l0,l03,m1,m2,m3,r1,r2,r3,eq_true ha,eq_true hc,eq_false ht];exact⟨by rw[dE,if_neg (by omega)];split<;>first|rfl|omega,F15⟩
   ·by_cases ht:t=0
    ·simp only[evs,↓reduceIte,Nat.reduceEqDiff,Nat.reduceAdd,DF,Nat.reduceSub,l0,l03,m1,m2,r1,r2,eq_true ha,eq_false hc];exact⟨by rw[dE,if_neg (by omega)];split<;>first|rfl|omega,F15⟩
    ·simp only[evs,↓reduceIte,Nat.reduceEqDiff,Nat.reduceAdd,DF,Nat.reduceSub,l0,l03,m1,m2,r1,r2,eq_true ha,eq_false hc];exact⟨by rw[dE,if_neg (by omega)];split<;>first|rfl|omega,F15⟩
  ·by_cases hc:c=0
   ·by_cases ht:t=0
    ·simp only[evs,↓reduceIte,Nat.reduceEqDiff,Nat.reduceAdd,DF,Nat.reduceSub,l0,l03,m1,r1,eq_false ha];exact⟨by rw[dE,if_neg (by omega)];split<;>first|rfl|omega,F15⟩
    ·simp only[evs,↓reduceIte,Nat.reduceEqDiff,Nat.reduceAdd,DF,Nat.reduceSub,l0,l03,m1,r1,eq_false ha];exact⟨by rw[dE,if_neg (by omega)];split<;>first|rfl|omega,F15⟩
   ·by_cases ht:t=0
    ·simp only[evs,↓reduceIte,Nat.reduceEqDiff,Nat.reduceAdd,DF,Nat.reduceSub,l0,l03,m1,r1,eq_false ha];exact⟨by rw[dE,if_neg (by omega)];split<;>first|rfl|omega,F15⟩
    ·simp only[evs,↓reduceIte,Nat.reduceEqDiff,Nat.reduceAdd,DF,Nat.reduceSub,l0,l03,m1,r1,eq_false ha];exact⟨by rw[dE,if_neg (by omega)];split<;>first|rfl|omega,F15⟩
theorem kS{z:Str}{i:Nat}(hi:i<z.length)(p:Int→Bool):dO p (z.drop i)=(p ((z[i]).toNat:Int)||dO p (z.drop (i+1))):=by
 unfold dO;rw[List.drop_eq_getElem_cons hi,List.any_cons]
theorem mV{z:Str}{i:Nat}(hi:z.length≤i)(p:Int→Bool):dO p (z.drop i)=false:=by
 rw[List.drop_of_length_le hi];rfl
def iw(b:Bool):Int:=if b then 1 else 0
theorem iV{h:Heap}{z:Str}:ao go 183 [.str z] h fun u h'=>u=.int .i64 (iw (okT z))∧h=h':=by
 by_cases c1:(64:Int)<(z.length:Nat)
 ·refine ag g183 rfl ?_;simp only[fn183,evs,↓reduceIte,Nat.reduceEqDiff,aC,eq_true c1];have:okT z=false:=by unfold okT;rw[decide_eq_false (by omega)];rfl
  rw[this];rfl
 refine ag g183 rfl ?_;simp only[fn183,evs,↓reduceIte,Nat.reduceEqDiff,aC,eq_false c1];refine aE (fun k env hh=>hh=h∧∃(i:Nat),env.get 3=some (.int .i64 i)∧env.get 0=some (.str z)∧i≤z.length∧dO fH (z.drop i)=dO fH z∧k=z.length-i) z.length (by omega) ?_ ?_
 ·exact⟨rfl,0,(by simp[T.get_set]),(by simp[T.get_set]),by omega,rfl,rfl⟩
 ·rintro k env hh ⟨rfl,i,g3,g0,hi,e,rfl⟩;by_cases hlt:i<z.length
  ·have hlt':(i:Int)<z.length:=by omega
   rw[kS hlt]at e;by_cases c2:((z[i]).toNat:Int)<32
   ·simp only[evs,↓reduceIte,Nat.reduceEqDiff,g3,g0,aC,hlt',bE hlt,eq_true c2];have:okT z=false:=by unfold okT;rw[←e];simp[fH,c2]
    rw[this];rfl
   by_cases c3:(126:Int)<((z[i]).toNat:Int)
   ·simp only[evs,↓reduceIte,Nat.reduceEqDiff,g3,g0,aC,hlt',bE hlt,eq_false c2,eq_true c3];have:okT z=false:=by unfold okT;rw[←e];simp[fH,c3]
    rw[this];rfl
   simp(disch:=omega) only[evs,↓reduceIte,Nat.reduceEqDiff,ai,g3,g0,aC,hlt',bE hlt,eq_false c2,eq_false c3];have b0:fH ((z[i]).toNat:Int)=false:=by simp only[fH,Bool.or_eq_false_iff,decide_eq_false_iff_not];exact⟨c2,c3⟩
   rw[b0,Bool.false_or]at e;refine(aj _ _ _).2 ⟨z.length-(i+1),by omega,rfl,i+1,(by simp[T.get_set]),(by simp[T.get_set,g0]),by omega,e,rfl⟩
  ·simp only[evs,↓reduceIte,g3,g0,aC,show¬(i:Int)<z.length by omega];rw[mV (by omega)]at e;have:okT z=true:=by unfold okT;rw[←e,decide_eq_true (by omega)];rfl
   rw[this];rfl
theorem iq{h:Heap}{z:Str}:ao go 238 [.str z] h fun u h'=>u=.bool (okT z)∧h=h':=by
 by_cases c1:(64:Int)<(z.length:Nat)
 ·refine ag g238 rfl ?_;simp only[fn238,evs,↓reduceIte,Nat.reduceEqDiff,aC,eq_true c1];have:okT z=false:=by unfold okT;rw[decide_eq_false (by omega)];rfl
  rw[this]
 refine ag g238 rfl ?_;simp only[fn238,evs,↓reduceIte,Nat.reduceEqDiff,aC,eq_false c1];refine aE (fun k env hh=>hh=h∧∃(i:Nat),env.get 3=some (.int .i64 i)∧env.get 0=some (.str z)∧i≤z.length∧dO fH (z.drop i)=dO fH z∧k=z.length-i) z.length (by omega) ?_ ?_
 ·exact⟨rfl,0,(by simp[T.get_set]),(by simp[T.get_set]),by omega,rfl,rfl⟩
 ·rintro k env hh ⟨rfl,i,g3,g0,hi,e,rfl⟩;by_cases hlt:i<z.length
  ·have hlt':(i:Int)<z.length:=by omega
   rw[kS hlt]at e;by_cases c2:((z[i]).toNat:Int)<32
   ·simp only[evs,↓reduceIte,Nat.reduceEqDiff,g3,g0,aC,hlt',bE hlt,eq_true c2];have:okT z=false:=by unfold okT;rw[←e];simp[fH,c2]
    rw[this]
   by_cases c3:(126:Int)<((z[i]).toNat:Int)
   ·simp only[evs,↓reduceIte,Nat.reduceEqDiff,g3,g0,aC,hlt',bE hlt,eq_false c2,eq_true c3];have:okT z=false:=by unfold okT;rw[←e];simp[fH,c3]
    rw[this]
   simp(disch:=omega) only[evs,↓reduceIte,Nat.reduceEqDiff,ai,g3,g0,aC,hlt',bE hlt,eq_false c2,eq_false c3];have b0:fH ((z[i]).toNat:Int)=false:=by simp only[fH,Bool.or_eq_false_iff,decide_eq_false_iff_not];exact⟨c2,c3⟩
   rw[b0,Bool.false_or]at e;refine(aj _ _ _).2 ⟨z.length-(i+1),by omega,rfl,i+1,(by simp[T.get_set]),(by simp[T.get_set,g0]),by omega,e,rfl⟩
  ·simp only[evs,↓reduceIte,g3,g0,aC,show¬(i:Int)<z.length by omega];rw[mV (by omega)]at e;have:okT z=true:=by unfold okT;rw[←e,decide_eq_true (by omega)];rfl
   rw[this]
theorem AH{h:Heap}{z:Str}:ao go 184 [.str z] h fun u h'=>u=.int .i64 (iw (okN z))∧h=h':=by
 by_cases c0:(z.length:Int)<1
 ·refine ag g184 rfl ?_;simp only[fn184,evs,↓reduceIte,Nat.reduceEqDiff,aC,eq_true c0];have:okN z=false:=by unfold okN;rw[decide_eq_false (by omega)];rfl
  rw[this];rfl
 by_cases c1:(16:Int)<(z.length:Nat)
 ·refine ag g184 rfl ?_;simp only[fn184,evs,↓reduceIte,Nat.reduceEqDiff,aC,eq_false c0,eq_true c1];have:okN z=false:=by unfold okN;rw[decide_eq_false (show¬z.length≤16 by omega)];simp
  rw[this];rfl
 refine ag g184 rfl ?_;simp only[fn184,evs,↓reduceIte,Nat.reduceEqDiff,aC,eq_false c0,eq_false c1];refine aE (fun k env hh=>hh=h∧∃(i:Nat),env.get 3=some (.int .i64 i)∧env.get 0=some (.str z)∧i≤z.length∧dO cI (z.drop i)=dO cI z∧k=z.length-i) z.length (by omega) ?_ ?_
 ·exact⟨rfl,0,(by simp[T.get_set]),(by simp[T.get_set]),by omega,rfl,rfl⟩
 ·rintro k env hh ⟨rfl,i,g3,g0,hi,e,rfl⟩;by_cases hlt:i<z.length
  ·have hlt':(i:Int)<z.length:=by omega
   rw[kS hlt]at e;have bad:cI ((z[i]).toNat:Int)=true→okN z=false:=fun q=>by unfold okN;rw[←e,q];simp
   have good:cI ((z[i]).toNat:Int)=false→dO cI (z.drop (i+1))=dO cI z:=fun q=>by rw[←e,q];rfl
   by_cases c1:(97:Int)≤((z[i]).toNat:Int)
   ·by_cases c2:((z[i]).toNat:Int)≤122
    ·simp(disch:=omega) only[evs,↓reduceIte,Nat.reduceEqDiff,ai,g3,g0,aC,hlt',bE hlt,eq_true c1,eq_true c2];refine(aj _ _ _).2 ⟨z.length-(i+1),by omega,rfl,i+1,(by simp[T.get_set]),(by simp[T.get_set,g0]),by omega,good (by simp[cI];omega),rfl⟩
    ·by_cases c3:(48:Int)≤((z[i]).toNat:Int)
     ·have c4:¬((z[i]).toNat:Int)≤57:=by omega
      simp only[evs,↓reduceIte,Nat.reduceEqDiff,g3,g0,aC,hlt',bE hlt,eq_true c1,eq_false c2,eq_true c3,eq_false c4];rw[bad (by simp[cI];omega)];rfl
     ·omega
   ·by_cases c3:(48:Int)≤((z[i]).toNat:Int)
    ·by_cases c4:((z[i]).toNat:Int)≤57
     ·simp(disch:=omega) only[evs,↓reduceIte,Nat.reduceEqDiff,ai,g3,g0,aC,hlt',bE hlt,eq_false c1,eq_true c3,eq_true c4];refine(aj _ _ _).2 ⟨z.length-(i+1),by omega,rfl,i+1,(by simp[T.get_set]),(by simp[T.get_set,g0]),by omega,good (by simp[cI];omega),rfl⟩
     ·simp only[evs,↓reduceIte,Nat.reduceEqDiff,g3,g0,aC,hlt',bE hlt,eq_false c1,eq_true c3,eq_false c4];rw[bad (by simp[cI];omega)];rfl
    ·simp only[evs,↓reduceIte,Nat.reduceEqDiff,g3,g0,aC,hlt',bE hlt,eq_false c1,eq_false c3];rw[bad (by simp[cI];omega)];rfl
  ·simp only[evs,↓reduceIte,g3,g0,aC,show¬(i:Int)<z.length by omega];rw[mV (by omega)]at e;have:okN z=true:=by unfold okN;rw[←e,decide_eq_true (by omega),decide_eq_true (show z.length≤16 by omega)];rfl
   rw[this];rfl
theorem dP{h:Heap}{z:Str}:ao go 239 [.str z] h fun u h'=>u=.bool (okN z)∧h=h':=by
 refine ag g239 rfl ?_;simp only[fn239,evs];refine aE (fun k env hh=>hh=h∧∃(i:Nat),env.get 3=some (.int .i64 i)∧env.get 0=some (.str z)∧i≤z.length∧i≤17∧dO cI (z.drop i)=dO cI z∧k=17-i) 17 (by omega) ?_ ?_
 ·exact⟨rfl,0,(by simp[T.get_set]),(by simp[T.get_set]),by omega,by omega,rfl,rfl⟩
 ·rintro k env hh ⟨rfl,i,g3,g0,hi,h17,e,rfl⟩;by_cases hlt:i<z.length
  ·have hlt':(i:Int)<z.length:=by omega
   by_cases c17:(i:Int)<17
   ·rw[kS hlt]at e;have bad:cI ((z[i]).toNat:Int)=true→okN z=false:=fun q=>by unfold okN;rw[←e,q];simp
    have good:cI ((z[i]).toNat:Int)=false→dO cI (z.drop (i+1))=dO cI z:=fun q=>by rw[←e,q];rfl
    by_cases c1:((z[i]).toNat:Int)<97
    ·by_cases c3:((z[i]).toNat:Int)<48
     ·simp only[evs,↓reduceIte,Nat.reduceEqDiff,g3,g0,aC,hlt',bE hlt,eq_true c1,eq_true c3,eq_true c17];rw[bad (by simp[cI];omega)]
     ·by_cases c4:(57:Int)<((z[i]).toNat:Int)
      ·simp only[evs,↓reduceIte,Nat.reduceEqDiff,g3,g0,aC,hlt',bE hlt,eq_true c1,eq_false c3,eq_true c4,eq_true c17];rw[bad (by simp[cI];omega)]
      ·simp(disch:=omega) only[evs,↓reduceIte,Nat.reduceEqDiff,ai,g3,g0,aC,hlt',bE hlt,eq_true c1,eq_false c3,eq_false c4,eq_true c17];refine(aj _ _ _).2 ⟨17-(i+1),by omega,rfl,i+1,(by simp[T.get_set]),(by simp[T.get_set,g0]),by omega,by omega,good (by simp[cI];omega),rfl⟩
    ·by_cases c2:(122:Int)<((z[i]).toNat:Int)
     ·have c3:¬((z[i]).toNat:Int)<48:=by omega
      have c4:(57:Int)<((z[i]).toNat:Int):=by omega
      simp only[evs,↓reduceIte,Nat.reduceEqDiff,g3,g0,aC,hlt',bE hlt,eq_false c1,eq_true c2,eq_false c3,eq_true c4,eq_true c17];rw[bad (by simp[cI];omega)]
     ·simp(disch:=omega) only[evs,↓reduceIte,Nat.reduceEqDiff,ai,g3,g0,aC,hlt',bE hlt,eq_false c1,eq_false c2,eq_true c17];refine(aj _ _ _).2 ⟨17-(i+1),by omega,rfl,i+1,(by simp[T.get_set]),(by simp[T.get_set,g0]),by omega,by omega,good (by simp[cI];omega),rfl⟩
   ·simp only[evs,↓reduceIte,Nat.reduceEqDiff,g3,g0,aC,hlt',eq_false c17,show(1:Int)≤(z.length:Nat) by omega,show¬((z.length:Nat):Int)≤16 by omega];have:okN z=false:=by unfold okN;rw[decide_eq_false (show¬z.length≤16 by omega)];simp
    rw[this]
  ·rw[mV (by omega)]at e;by_cases c0:(1:Int)≤(z.length:Nat)
   ·have e2:okN z=decide (((z.length:Nat):Int)≤16):=by
     unfold okN;rw[←e,decide_eq_true (by omega)];have:decide (z.length≤16)=decide (((z.length:Nat):Int)≤16):=by rw[decide_eq_decide];omega
     rw[this];simp
    by_cases c1:((z.length:Nat):Int)≤16
    ·simp only[evs,↓reduceIte,Nat.reduceEqDiff,g3,g0,aC,show¬(i:Int)<z.length by omega,eq_true c0,eq_true c1];rw[e2,decide_eq_true c1]
    ·simp only[evs,↓reduceIte,Nat.reduceEqDiff,g3,g0,aC,show¬(i:Int)<z.length by omega,eq_true c0,eq_false c1];rw[e2,decide_eq_false c1]
   ·simp only[evs,↓reduceIte,Nat.reduceEqDiff,g3,g0,aC,show¬(i:Int)<z.length by omega,eq_false c0];have:okN z=false:=by unfold okN;rw[decide_eq_false (by omega)];rfl
    rw[this]
theorem Bq:∀d,d<10→aP (.slstr true true) [.str [48,49,50,51,52,53,54,55,56,57],.int .u64 (d:Nat),.int .u64 ((d:Nat)+1)]=some (.str [UInt8.ofNat (48+d)]):=by
 intro d hd;match d,hd with
 |0,_=>rfl
 |1,_=>rfl
 |2,_=>rfl
 |3,_=>rfl
 |4,_=>rfl
 |5,_=>rfl
 |6,_=>rfl
 |7,_=>rfl
 |8,_=>rfl
 |9,_=>rfl
theorem BS(a b:Str)(h:a.length+b.length<9223372036854775808):aP (.sb .add) [.str a,.str b]=some (.str (a++b)):=by
 simp only[aP,k9,(Nat.blt_eq ..).mpr h,cond_true]
theorem xe:∀(k n:Nat),n<10^(k+1)→(dec n).length≤k+1
 |k,n,h=>by
  by_cases c:n<10
  ·rw[sC c];simp
  ·match k,h with
   |0,h=>omega
   |k+1,h=>
    rw[v8 c,List.length_append];have:=xe k (n/10) (by rw[Nat.pow_succ]at h;omega);simp only[List.length_cons,List.length_nil];omega
theorem qI{n:Nat}(h:n<18446744073709551616):(dec n).length≤20:=xe 19 n (by omega)
theorem kJ{h:Heap}:∀(k n:Nat),n<k→n<18446744073709551616→ao go 240 [.int .u64 (n:Int)] h fun u h'=>u=.str (dec n)∧h=h'
 |0,_,hk,_=>by omega
 |k+1,n,hk,hn=>by
  by_cases c:n<10
  ·have c':(n:Int)<10:=by omega
   have f1:aY .u64 ((n:Int)+1)=(n:Int)+1:=bU _ (by omega) (by omega);refine ag g240 rfl ?_;simp only[fn240,evs,↓reduceIte,Nat.reduceEqDiff,eq_true c',f1,Bq n c];rw[sC c]
  ·have c':¬(n:Int)<10:=by omega
   have r1:aP (.ib .rem) [.int .u64 (n:Int),.int .u64 10]=some (.int .u64 ((n%10:Nat):Int)):=by rw[j4 _ _ _ (by decide)];rfl
   have r2:aP (.ib .quo) [.int .u64 (n:Int),.int .u64 10]=some (.int .u64 ((n/10:Nat):Int)):=by
    rw[lT _ _ _ (by decide),show((n:Int)).tdiv 10=((n/10:Nat):Int)from rfl,bU _ (by omega) (by omega)]
   refine ag g240 rfl ?_;simp only[fn240,evs,↓reduceIte,Nat.reduceEqDiff,eq_false c',r2];refine aa (kJ k (n/10) (by omega) (by omega)) ?_;rintro _ _ ⟨rfl,rfl⟩;simp only[evs,↓reduceIte,Nat.reduceEqDiff,r1];refine aa (kJ k (n%10) (by omega) (by omega)) ?_;rintro _ _ ⟨rfl,rfl⟩;have q1:=qI (n:=n/10) (by omega);have q2:=qI (n:=n%10) (by omega);simp only[evs,↓reduceIte,BS _ _ (show(dec (n/10)).length+(dec (n%10)).length<9223372036854775808 by omega)];rw[v8 c,sC (Nat.mod_lt n (by decide))]
theorem my{h:Heap}{x:Itm}(w:WF h)(a:ItmH h x):ao go 186 [.agg x.cells] h fun u h'=>u=.int .i64 (if gL x then 0 else 6)∧Fr [] h h':=by
 obtain⟨h1,e_h1⟩:∃h1,h1=halloc h x.cells:=⟨_,rfl⟩;have F_h1:Fr [] h h1:=e_h1▸Fr.halloc w _;have o_h1:Own h1 h.next x.cells:=e_h1▸Own.new w _;have l0:ab h1 h.next 0=some (.int .u64 (x.key:Int)):=o_h1.ld1 0;have l2:ab h1 h.next 2=some (.str x.text):=o_h1.ld1 2;have l3:ab h1 h.next 3=some x.vm:=o_h1.ld1 3;have am:=a.m.fr F_h1;by_cases c0:(x.key:Int)=0
 ·refine ag g186 rfl ?_;simp only[fn186,evs,↓reduceIte,Nat.reduceEqDiff,←e_h1,l0,eq_true c0];exact⟨by simp[gL,show x.key=0 by omega],F_h1⟩
 refine ag g186 rfl ?_;simp only[fn186,evs,↓reduceIte,Nat.reduceEqDiff,←e_h1,l0,eq_false c0,l2];refine aa iq ?_;rintro _ _ ⟨rfl,rfl⟩;cases c2:okT x.text
 ·simp only[evs,↓reduceIte];exact⟨by simp[gL,c2],F_h1⟩
 by_cases c3:(8:Int)<(x.marks.length:Nat)
 ·simp only[evs,↓reduceIte,Nat.reduceEqDiff,l3,am.len,eq_true c3];exact⟨by simp[gL,okM,show¬x.marks.length≤8 by omega],F_h1⟩
 simp only[evs,↓reduceIte,Nat.reduceEqDiff,l3,am.len,eq_false c3];refine aE (fun k env hh=>hh=h1∧∃(i:Nat),env.get 3=some (.int .i64 i)∧env.get 1=some (.ptr h.next 0)∧i≤x.marks.length∧(x.marks.drop i).all okN=x.marks.all okN∧k=x.marks.length-i) x.marks.length (by omega) ?_ ?_
 ·exact⟨rfl,0,(by simp[T.get_set]),(by simp[T.get_set]),by omega,rfl,rfl⟩
 ·rintro k env hh ⟨rfl,i,g3,g1,hi,e,rfl⟩;by_cases hlt:i<x.marks.length
  ·have hlt':(i:Int)<x.marks.length:=by omega
   obtain⟨b,o,s,e1,e2,_,e5⟩:=am.ix gI .i64 i (by omega) hlt';have e4:ab hh b o=some (.str s):=e2 0 (by omega);rw[Int.toNat_natCast]at e5;rw[aK e5,List.all_cons]at e;simp only[evs,↓reduceIte,Nat.reduceEqDiff,g3,g1,l3,am.len,hlt',e1,e4];refine aa dP ?_;rintro _ _ ⟨rfl,rfl⟩;cases c:okN s
   ·simp only[evs,↓reduceIte];rw[c]at e;have e':x.marks.all okN=false:=by rw[←e];rfl
    exact⟨by simp[gL,okM,e'],F_h1⟩
   ·simp(disch:=omega) only[evs,↓reduceIte,Nat.reduceEqDiff,ai,g3];rw[c]at e;refine(aj _ _ _).2 ⟨x.marks.length-(i+1),by omega,rfl,i+1,(by simp[T.get_set]),(by simp[T.get_set,g1]),by omega,by simpa using e,rfl⟩
  ·simp only[evs,↓reduceIte,g3,g1,l3,am.len,show¬(i:Int)<x.marks.length by omega];rw[List.drop_of_length_le (by omega)]at e;have e':x.marks.all okN=true:=by rw[←e];rfl
   exact⟨by simp[gL,okM,e',c2,show x.key≠0 by omega,show x.marks.length≤8 by omega],F_h1⟩
theorem Ba{h:Heap}{v:V}{X:List Itm}{key:Nat}(a:Recs Itm.cells 4 h v X)(hn:X.length≤4096):
 ao go 113 [v,.int .u64 (key:Int)] h fun u h'=>h=h'∧∃r:Int,u=.int .i64 r∧(0≤r↔∃x∈X,x.key=key):=by
 refine ag g113 rfl ?_;simp only[fn113,evs,Nat.reduceAdd,Int.reduceNeg];refine aE (fun k env hh=>hh=h∧∃(i:Nat),env.get 5=some (.int .i64 i)∧env.get 0=some v∧env.get 1=some (.int .u64 (key:Int))∧i≤X.length∧(∀x∈X.take i,x.key≠key)∧k=X.length-i) X.length (by omega) ?_ ?_
 ·exact⟨rfl,0,(by simp[T.get_set]),(by simp[T.get_set]),(by simp[T.get_set]),by omega,by simp,rfl⟩
 ·rintro k env hh ⟨rfl,i,g5,g0,g1,hi,e,rfl⟩;by_cases hlt:i<X.length
  ·have hlt':(i:Int)<X.length:=by omega
   obtain⟨b,o,x,e1,e2,_,e5⟩:=Recs.ix (f:=Itm.cells) (k:=4) (fun _=>rfl) a .i64 i (by omega) hlt';have e4:ab hh b o=some (.int .u64 (x.key:Int)):=e2 0 (by omega);rw[Int.toNat_natCast]at e5;by_cases c:x.key=key
   ·simp only[evs,↓reduceIte,Nat.reduceEqDiff,Int.reduceNeg,g5,g0,g1,a.len,hlt',e1,e4,c];exact⟨(i:Int),rfl,fun _=>⟨x,List.mem_of_getElem? e5,c⟩,fun _=>by omega⟩
   ·have c':¬(x.key:Int)=(key:Int):=by omega
    simp(disch:=omega) only[evs,↓reduceIte,Nat.reduceEqDiff,Int.reduceNeg,ai,g5,g0,g1,a.len,hlt',e1,e4,eq_false c'];refine(aj _ _ _).2 ⟨X.length-(i+1),by omega,rfl,i+1,(by simp[T.get_set]),(by simp[T.get_set,g0]),(by simp[T.get_set,g1]),by omega,?_,rfl⟩;rw[List.take_add_one,e5];intro y m;rcases List.mem_append.1 m with m|m
    ·exact e y m
    ·simp at m;subst m;exact c
  ·simp only[evs,↓reduceIte,Int.reduceNeg,g5,g0,a.len,show¬(i:Int)<X.length by omega];rw[List.take_of_length_le (by omega)]at e;exact⟨-1,rfl,fun q=>by omega,fun⟨x,m,q⟩=>absurd q (e x m)⟩
theorem AE(a b:Bool):iw a*iw b=iw (a&&b):=by cases a<;>cases b<;>rfl
theorem fM{h:Heap}{x:Itm}{env:T V}{b0:Bool}{bb:Nat}{R:V→Heap→Prop}(w:WF h)(o:Own h bb x.cells)(a:ItmH h x)(g2:env.get 2=some (.ptr bb 0))(g5:env.get 5=some (.int .i64 (iw b0)))
 (k:∀h',h=h'→R (.int .i64 (if(b0&&x.marks.all okN)then 0 else 6)) h'):
 W go ckR env h (iT [.t 4] R):=by
 have l3:ab h bb 3=some x.vm:=o.ld1 3;have am:=a.m;have an:=a.n;simp only[evs,ckR];refine aE (fun k env hh=>hh=h∧∃(i:Nat)(c:Bool),env.get 6=some (.int .i64 i)∧env.get 2=some (.ptr bb 0)∧env.get 5=some (.int .i64 (iw c))∧i≤x.marks.length∧(c&&(x.marks.drop i).all okN)=(b0&&x.marks.all okN)∧k=x.marks.length-i) x.marks.length (by omega) ?_ ?_
 ·exact⟨rfl,0,b0,(by simp[T.get_set]),(by simp[T.get_set,g2]),(by simp[T.get_set,g5]),by omega,rfl,rfl⟩
 ·rintro k' env hh ⟨rfl,i,c,g6,g2,g5,hi,e,rfl⟩;by_cases hlt:i<x.marks.length
  ·have hlt':(i:Int)<x.marks.length:=by omega
   obtain⟨b,o,s,e1,e2,_,e5⟩:=am.ix gI .i64 i (by omega) hlt';have e4:ab hh b o=some (.str s):=e2 0 (by omega);rw[Int.toNat_natCast]at e5;rw[aK e5,List.all_cons]at e;simp only[evs,↓reduceIte,Nat.reduceEqDiff,g6,g2,g5,l3,am.len,hlt',e1,e4];refine aa AH ?_;rintro _ _ ⟨rfl,rfl⟩;have m1:aY .i64 (iw c*iw (okN s))=iw (c&&okN s):=by
    rw[AE,ai _ (by unfold iw;split<;>omega) (by unfold iw;split<;>omega)]
   simp(disch:=omega) only[evs,↓reduceIte,Nat.reduceEqDiff,ai,g6,m1];refine(aj _ _ _).2 ⟨x.marks.length-(i+1),by omega,rfl,i+1,c&&okN s,(by simp[T.get_set]),(by simp[T.get_set,g2]),(by simp[T.get_set]),by omega,by rw[←e,Bool.and_assoc],rfl⟩
  ·rw[List.drop_of_length_le (by omega)]at e;have e':c=(b0&&x.marks.all okN):=by rw[←e];simp
   cases c
   ·simp only[evs,↓reduceIte,Nat.reduceEqDiff,g6,g2,g5,l3,am.len,show¬(i:Int)<x.marks.length by omega,iw];rw[←e']at k;exact k _ rfl
   ·simp only[evs,↓reduceIte,Nat.reduceEqDiff,g6,g2,g5,l3,am.len,show¬(i:Int)<x.marks.length by omega,iw];rw[←e']at k;exact k _ rfl
theorem zg{h:Heap}{x:Itm}{types:Nat}(w:WF h)(a:ItmH h x)(ht:types<256):ao go 114 [.agg x.cells,.int .i64 (types:Int)] h fun u h'=>u=.int .i64 (if okI x types then 0 else 6)∧Fr [] h h':=by
 obtain⟨h1,e_h1⟩:∃h1,h1=halloc h x.cells:=⟨_,rfl⟩;have F_h1:Fr [] h h1:=e_h1▸Fr.halloc w _;have o_h1:Own h1 h.next x.cells:=e_h1▸Own.new w _;have l0:ab h1 h.next 0=some (.int .u64 (x.key:Int)):=o_h1.ld1 0;have l1:ab h1 h.next 1=some (.int .u8 (x.type:Int)):=o_h1.ld1 1;have l2:ab h1 h.next 2=some (.str x.text):=o_h1.ld1 2;have l3:ab h1 h.next 3=some x.vm:=o_h1.ld1 3;have a1:=a.fr F_h1;have at':=a.t;have bad:okI x types=false→∀h',h1=h'→(V.int .i64 (if(false&&x.marks.all okN)then 0 else 6)=V.int .i64 (if okI x types then 0 else 6)∧Fr [] h h'):=by
  rintro q _ rfl;rw[q];exact⟨rfl,F_h1⟩
 have cv:aY .i64 (x.type:Int)=(x.type:Int):=ai _ (by omega) (by omega);by_cases c0:(x.key:Int)=0
 ·refine ag g114x rfl ?_;simp only[evs,↓reduceIte,Nat.reduceEqDiff,Nat.reduceAdd,fn114x,←e_h1,l2];refine aa iV ?_;rintro _ _ ⟨rfl,rfl⟩;simp only[evs,↓reduceIte,Nat.reduceEqDiff,l0,eq_true c0];exact fM (b0:=false) F_h1.wf o_h1 a1 (by simp[T.get_set]) (by simp[T.get_set,iw]) (bad (by simp[okI,show x.key=0 by omega]))
 by_cases c1:(types:Int)≤(x.type:Int)
 ·refine ag g114x rfl ?_;simp only[evs,↓reduceIte,Nat.reduceEqDiff,Nat.reduceAdd,fn114x,←e_h1,l2];refine aa iV ?_;rintro _ _ ⟨rfl,rfl⟩;simp only[evs,↓reduceIte,Nat.reduceEqDiff,l0,l1,eq_false c0,cv,eq_true c1];exact fM (b0:=false) F_h1.wf o_h1 a1 (by simp[T.get_set]) (by simp[T.get_set,iw]) (bad (by simp[okI,show¬x.type<types by omega]))
 by_cases c2:(8:Int)<(x.marks.length:Nat)
 ·refine ag g114x rfl ?_;simp only[evs,↓reduceIte,Nat.reduceEqDiff,Nat.reduceAdd,fn114x,←e_h1,l2];refine aa iV ?_;rintro _ _ ⟨rfl,rfl⟩;simp only[evs,↓reduceIte,Nat.reduceEqDiff,l0,l1,l3,a1.m.len,eq_false c0,cv,eq_false c1,eq_true c2];exact fM (b0:=false) F_h1.wf o_h1 a1 (by simp[T.get_set]) (by simp[T.get_set,iw]) (bad (by simp[okI,okM,show¬x.marks.length≤8 by omega]))
 refine ag g114x rfl ?_;simp only[evs,↓reduceIte,Nat.reduceEqDiff,Nat.reduceAdd,fn114x,←e_h1,l2];refine aa iV ?_;rintro _ _ ⟨rfl,rfl⟩;simp only[evs,↓reduceIte,Nat.reduceEqDiff,l0,l1,l3,a1.m.len,eq_false c0,cv,eq_false c1,eq_false c2];refine fM (b0:=okT x.text) F_h1.wf o_h1 a1 (by simp[T.get_set]) (by simp[T.get_set]) ?_;rintro _ rfl;have:(okT x.text&&x.marks.all okN)=okI x types:=by
  simp[okI,okM,show x.key≠0 by omega,show x.type<types by omega,show x.marks.length≤8 by omega]
 rw[this];exact⟨rfl,F_h1⟩
theorem tO:∀(a b:Str),(!Op.bytesLess b a)=leS a b
 |[],[]=>by simp[leS,Op.bytesLess]
 |[],y::b=>by simp[leS,Op.bytesLess]
 |x::a,[]=>by simp[leS,Op.bytesLess]
 |x::a,y::b=>by
  have ih:=tO a b;simp only[leS,Op.bytesLess]at ih⊢;have d1:decide (x<y)=decide (x.toNat<y.toNat):=rfl;have d2:decide (y<x)=decide (y.toNat<x.toNat):=rfl;rw[d1,d2];have e0:(x::a==y::b)=(x==y&&a==b):=rfl;rw[e0];rcases Nat.lt_trichotomy x.toNat y.toNat with q|q|q
  ·have n1:(y==x)=false:=by rw[beq_eq_false_iff_ne];rintro rfl;omega
   rw[decide_eq_true q,decide_eq_false (show¬y.toNat<x.toNat by omega),n1];rfl
  ·have:x=y:=UInt8.toNat_inj.1 q;subst this;simp only[Nat.lt_irrefl,decide_false,Bool.false_or,beq_self_eq_true,Bool.true_and];exact ih
  ·have n1:(x==y)=false:=by rw[beq_eq_false_iff_ne];rintro rfl;omega
   rw[decide_eq_true q,decide_eq_false (show¬x.toNat<y.toNat by omega),n1];rfl
theorem jn(a b:Str):aP (.sb .geq) [.str a,.str b]=some (.bool (leS b a)):=by
 rw[←tO];rfl
theorem lu{h:Heap}{v:V}{l:List Slo}(w:WF h)(ra:Recs pG 3 h v l)(na:l.length≤4096):ao go 297 [v] h fun u h'=>u=.bool (bP l)∧Fr [] h h':=by
 by_cases c8:l.length≤8
 ·refine ag g297 rfl ?_;simp only[fn297,evs,↓reduceIte,Nat.reduceEqDiff,ra.len,show¬(8:Int)<(l.length:Nat) by omega];refine aE (fun n env hh=>Fr [] h hh∧∃(i:Nat),env.get 3=some (.int .i64 i)∧env.get 0=some v∧
   i≤l.length∧dK (cR l i) (l.drop i)=dK none l∧n=l.length-i) l.length (by omega) ?_ ?_
  ·exact⟨Fr.refl w,0,(by simp[T.get_set]),(by simp[T.get_set]),by omega,rfl,rfl⟩
  ·rintro n env hh ⟨F,i,g3,g0,hi,e,rfl⟩;by_cases hlt:i<l.length
   ·have hlt':(i:Int)<l.length:=by omega
    obtain⟨b',o',a,p1,p2,p3,p4⟩:=(ra.fr F).ix eK .i64 (i:Int) (by omega) hlt';rw[Int.toNat_natCast]at p4;rw[aK p4,ir]at e;have en:=nP p4;have bad:∀{h'},Fr [] h h'→fF (cR l i) a=false→V.bool false=.bool (bP l)∧Fr [] h h':=fun f c=>by
     rw[c]at e;exact⟨by simp[bP,←e],f⟩
    have rl:=(ra.fr F).len;obtain⟨h1,e_h1⟩:∃h1,h1=halloc hh [.str [],.int .u8 0,.str []]:=⟨_,rfl⟩;have F_h1:Fr [] hh h1:=e_h1▸Fr.halloc F.wf _;have o_h1:Own h1 hh.next [.str [],.int .u8 0,.str []]:=e_h1▸Own.new F.wf _;simp only[evs,↓reduceIte,Nat.reduceEqDiff,g3,g0,rl,hlt',p1,p3,←e_h1];refine ah (c':=[.str a.1,.int .u8 (a.2.1:Int),.str a.2.2]) F_h1.wf o_h1 rfl rfl rfl ?_;rintro h2 o2 F2 n2;have F02:Fr [] hh h2:=F_h1.fresh F2 F.wf (Nat.le_refl _);have Fa:=F.then F02;have q0:ab h2 hh.next 0=some (.str a.1):=o2.ld1 0;have q1:ab h2 hh.next 1=some (.int .u8 (a.2.1:Int)):=o2.ld1 1;have q2:ab h2 hh.next 2=some (.str a.2.2):=o2.ld1 2;simp only[evs,↓reduceIte,eff,q0];refine aa dP ?_;rintro _ _ ⟨rfl,rfl⟩;cases c1:okN a.1
    ·simp only[evs,↓reduceIte,Nat.reduceAdd,DF,eff,Nat.reduceSub,q0];exact bad Fa (by simp[fF,c1])
    by_cases c2:(3:Int)<(a.2.1:Nat)
    ·simp only[evs,↓reduceIte,Nat.reduceAdd,DF,eff,Nat.reduceSub,q0,q1,eq_true c2];exact bad Fa (by simp[fF];omega)
    simp only[evs,↓reduceIte,eff,q1,eq_false c2,q2];refine aa iq ?_;rintro _ _ ⟨rfl,rfl⟩;cases c3:okT a.2.2
    ·simp only[evs,↓reduceIte,Nat.reduceAdd,DF,eff,Nat.reduceSub,q0,q1,q2];exact bad Fa (by simp[fF,c3])
    have fin:(decide (a.2.1=0)||a.2.2==[])=true→bS (cR l i) a.1=true→dK (cR l (i+1)) (l.drop (i+1))=dK none l:=fun x y=>by
     have z:fF (cR l i) a=true:=by
      unfold fF;rw[c1,c3,x,y,show decide (a.2.1≤3)=true by simp;omega];rfl
     rw[z,Bool.true_and]at e;rw[en];exact e
    have step:(decide (a.2.1=0)||a.2.2==[])=false→fF (cR l i) a=false:=fun x=>by unfold fF;rw[x];simp
    have go1:(decide ((a.2.1:Int)=0)=true∨(a.2.2==[])=true)→(decide (a.2.1=0)||a.2.2==[])=true:=by
     intro q;rcases q with q|q
     ·simp at q;simp[q]
     ·simp[q]
    by_cases cf:(a.2.1:Int)=0
    ·by_cases c4:i=0
     ·simp(disch:=omega) only[evs,↓reduceIte,Nat.reduceEqDiff,Nat.reduceAdd,DF,eff,Nat.reduceSub,ai,g3,q0,q1,q2,eq_true cf,show¬(0:Int)<(i:Int) by omega];refine(aj _ _ _).2 ⟨l.length-(i+1),by omega,Fa,i+1,(by simp[T.get_set]),(by simp[T.get_set,g0]),by omega,fin (go1 (.inl (decide_eq_true cf))) (by simp[cR,c4,bS]),rfl⟩
     ·obtain⟨b2,o2',a2,t1,t2,t3,t4⟩:=(ra.fr Fa).ix eK .i64 ((i:Int)-1) (by omega) (by omega);have t4':l[i-1]? =some a2:=by rw[←t4];congr 1;omega
      have t2':ab h2 b2 o2'=some (.str a2.1):=t2 0 (by omega);have pe:cR l i=some a2.1:=by simp[cR,c4,t4']
      cases c5:leS a.1 a2.1
      ·simp(disch:=omega) only[evs,↓reduceIte,Nat.reduceEqDiff,Nat.reduceAdd,DF,eff,Nat.reduceSub,ai,g3,g0,q0,q1,q2,eq_true cf,c5,t1,t2',jn,show(0:Int)<(i:Int) by omega];refine(aj _ _ _).2 ⟨l.length-(i+1),by omega,Fa,i+1,(by simp[T.get_set]),(by simp[T.get_set,g0]),by omega,fin (go1 (.inl (decide_eq_true cf))) (by rw[pe];simp[bS,c5]),rfl⟩
      ·simp(disch:=omega) only[evs,↓reduceIte,Nat.reduceEqDiff,Nat.reduceAdd,DF,eff,Nat.reduceSub,ai,g3,g0,q0,q1,q2,eq_true cf,c5,t1,t2',jn,show(0:Int)<(i:Int) by omega];exact bad Fa (by simp[fF,pe,bS,c5])
    ·have cf':¬a.2.1=0:=by omega
     cases cv:a.2.2==[]
     ·simp only[evs,↓reduceIte,Nat.reduceAdd,DF,eff,Nat.reduceSub,q0,q1,q2,eq_false cf,aR,cv];exact bad Fa (step (by simp[cf',cv]))
     ·by_cases c4:i=0
      ·simp(disch:=omega) only[evs,↓reduceIte,Nat.reduceEqDiff,Nat.reduceAdd,DF,eff,Nat.reduceSub,ai,g3,q0,q1,q2,eq_false cf,aR,cv,show¬(0:Int)<(i:Int) by omega];refine(aj _ _ _).2 ⟨l.length-(i+1),by omega,Fa,i+1,(by simp[T.get_set]),(by simp[T.get_set,g0]),by omega,fin (go1 (.inr cv)) (by simp[cR,c4,bS]),rfl⟩
      ·obtain⟨b2,o2',a2,t1,t2,t3,t4⟩:=(ra.fr Fa).ix eK .i64 ((i:Int)-1) (by omega) (by omega);have t4':l[i-1]? =some a2:=by rw[←t4];congr 1;omega
       have t2':ab h2 b2 o2'=some (.str a2.1):=t2 0 (by omega);have pe:cR l i=some a2.1:=by simp[cR,c4,t4']
       cases c5:leS a.1 a2.1
       ·simp(disch:=omega) only[evs,↓reduceIte,Nat.reduceEqDiff,Nat.reduceAdd,DF,eff,Nat.reduceSub,ai,g3,g0,q0,q1,q2,eq_false cf,aR,cv,c5,t1,t2',jn,show(0:Int)<(i:Int) by omega];refine(aj _ _ _).2 ⟨l.length-(i+1),by omega,Fa,i+1,(by simp[T.get_set]),(by simp[T.get_set,g0]),by omega,fin (go1 (.inr cv)) (by rw[pe];simp[bS,c5]),rfl⟩
       ·simp(disch:=omega) only[evs,↓reduceIte,Nat.reduceEqDiff,Nat.reduceAdd,DF,eff,Nat.reduceSub,ai,g3,g0,q0,q1,q2,eq_false cf,aR,cv,c5,t1,t2',jn,show(0:Int)<(i:Int) by omega];exact bad Fa (by simp[fF,pe,bS,c5])
   ·simp only[evs,↓reduceIte,g3,g0,(ra.fr F).len,show¬(i:Int)<l.length by omega];rw[List.drop_of_length_le (by omega)]at e;exact⟨by simp[bP,c8,←e,dK],F⟩
 ·refine ag g297 rfl ?_;simp only[fn297,evs,↓reduceIte,Nat.reduceEqDiff,ra.len,show(8:Int)<(l.length:Nat) by omega];exact⟨by simp[bP,c8],Fr.refl w⟩
theorem AM(n m:Nat):decide ((n:Int)≤(m:Int))=decide (n≤m):=by rw[decide_eq_decide];omega
theorem sB(a b:Nat):decide ((a:Int)+(b:Int)=0)=decide (a+b=0):=by rw[decide_eq_decide];omega
theorem CY{h:Heap}{k:Nat}{tg ky tx:Str}{sl:List Slo}{va vc:V}{sub:PT}(w:WF h)(n:PH h (.cons k tg ky sl tx va vc sub .nil)):
 ao go 292 [.agg [.int .u8 (k:Int),.str tg,.str ky,va,.str tx,vc]] h fun u h'=>u=.bool (cY k tg ky sl tx sub.len)∧Fr [] h h':=by
 obtain⟨n1,ra,na,rc,nc,n6,_⟩:=n;obtain⟨h1,e_h1⟩:∃h1,h1=halloc h [.int .u8 (k:Int),.str tg,.str ky,va,.str tx,vc]:=⟨_,rfl⟩;have F_h1:Fr [] h h1:=e_h1▸Fr.halloc w _;have o_h1:Own h1 h.next [.int .u8 (k:Int),.str tg,.str ky,va,.str tx,vc]:=e_h1▸Own.new w _;have l0:ab h1 h.next 0=some (.int .u8 (k:Int)):=o_h1.ld1 0;have l1:ab h1 h.next 1=some (.str tg):=o_h1.ld1 1;have l2:ab h1 h.next 2=some (.str ky):=o_h1.ld1 2;have l3:ab h1 h.next 3=some va:=o_h1.ld1 3;have l4:ab h1 h.next 4=some (.str tx):=o_h1.ld1 4;have l5:ab h1 h.next 5=some vc:=o_h1.ld1 5;have la:=(ra.fr F_h1).len;have lc:=(rc.fr F_h1).len;by_cases k1:k=1
 ·have q1:(k:Int)=1:=by omega
  have spec:cY k tg ky sl tx sub.len=(okN tg&&((ky==[]||okN ky)&&(bP sl&&(tx==[]&&decide (sub.len≤16))))):=by
   unfold cY;rw[if_pos k1];cases okN tg<;>cases(ky==[]||okN ky)<;>cases bP sl<;>cases(tx==[])<;>cases decide (sub.len≤16)<;>rfl
  rw[spec];refine ag g292 rfl ?_;simp only[fn292,evs,↓reduceIte,Nat.reduceEqDiff,←e_h1,l0,l1,eq_true q1];refine aa dP ?_;rintro _ _ ⟨rfl,rfl⟩;cases c1:okN tg
  ·simp only[evs,↓reduceIte];exact⟨rfl,F_h1⟩
  cases c2:ky==[]
  ·simp only[evs,↓reduceIte,Nat.reduceEqDiff,l2,aI,c2];refine aa dP ?_;rintro _ _ ⟨rfl,rfl⟩;cases c3:okN ky
   ·simp only[evs,↓reduceIte];exact⟨rfl,F_h1⟩
   simp only[evs,↓reduceIte,Nat.reduceEqDiff,l3];refine aa (lu F_h1.wf (ra.fr F_h1) na) ?_;rintro _ h2 ⟨rfl,F2⟩;have m4:ab h2 h.next 4=some (.str tx):=(F2.get o_h1).ld1 4;have m5:ab h2 h.next 5=some vc:=(F2.get o_h1).ld1 5;have lc2:=(rc.fr (F_h1.then F2)).len;cases c4:bP sl
   ·simp only[evs,↓reduceIte];exact⟨rfl,F_h1.then F2⟩
   cases c5:tx==[]
   ·simp only[evs,↓reduceIte,Nat.reduceEqDiff,m4,aI,c5];exact⟨rfl,F_h1.then F2⟩
   simp only[evs,↓reduceIte,Nat.reduceEqDiff,m4,m5,aI,c5,lc2];exact⟨by simp[show((16:Nat):Int)=16 from rfl,←AM],F_h1.then F2⟩
  ·simp only[evs,↓reduceIte,Nat.reduceEqDiff,l2,l3,aI,c2];refine aa (lu F_h1.wf (ra.fr F_h1) na) ?_;rintro _ h2 ⟨rfl,F2⟩;have m4:ab h2 h.next 4=some (.str tx):=(F2.get o_h1).ld1 4;have m5:ab h2 h.next 5=some vc:=(F2.get o_h1).ld1 5;have lc2:=(rc.fr (F_h1.then F2)).len;cases c4:bP sl
   ·simp only[evs,↓reduceIte];exact⟨rfl,F_h1.then F2⟩
   cases c5:tx==[]
   ·simp only[evs,↓reduceIte,Nat.reduceEqDiff,m4,aI,c5];exact⟨rfl,F_h1.then F2⟩
   simp only[evs,↓reduceIte,Nat.reduceEqDiff,m4,m5,aI,c5,lc2];exact⟨by simp[show((16:Nat):Int)=16 from rfl,←AM],F_h1.then F2⟩
 have q1:¬(k:Int)=1:=by omega
 by_cases k2:k=2
 ·have q2:(k:Int)=2:=by omega
  have spec:cY k tg ky sl tx sub.len=(okT tx&&(tg==[]&&(ky==[]&&decide (sl.length+sub.len=0)))):=by
   unfold cY;rw[if_neg k1,if_neg (by omega),if_pos k2];have:decide (sl.length+sub.len=0)=(decide (sl.length=0)&&decide (sub.len=0)):=by rw[←Bool.decide_and,decide_eq_decide];omega
   rw[this]
  rw[spec];refine ag g292 rfl ?_;simp only[fn292,evs,↓reduceIte,Nat.reduceEqDiff,←e_h1,l0,eq_false q1,eq_true q2,l4];refine aa iq ?_;rintro _ _ ⟨rfl,rfl⟩;cases c1:okT tx
  ·simp only[evs,↓reduceIte];exact⟨rfl,F_h1⟩
  cases c2:tg==[]
  ·simp only[evs,↓reduceIte,Nat.reduceEqDiff,l1,aI,c2];exact⟨rfl,F_h1⟩
  cases c3:ky==[]
  ·simp only[evs,↓reduceIte,Nat.reduceEqDiff,l1,l2,aI,c2,c3];exact⟨rfl,F_h1⟩
  simp(disch:=omega) only[evs,↓reduceIte,Nat.reduceEqDiff,ai,l1,l2,l3,l5,aI,c2,c3,la,lc];exact⟨by rw[sB];rfl,F_h1⟩
 have q2:¬(k:Int)=2:=by omega
 by_cases k34:k=3∨k=4
 ·have spec:cY k tg ky sl tx sub.len=(tx==[]&&(tg==[]&&(ky==[]&&decide (sl.length+sub.len=0)))):=by
   unfold cY;rw[if_neg k1,if_neg (by omega),if_neg k2,if_pos k34];have:decide (sl.length+sub.len=0)=(decide (sl.length=0)&&decide (sub.len=0)):=by rw[←Bool.decide_and,decide_eq_decide];omega
   rw[this];cases(tg==[])<;>cases(ky==[])<;>cases(tx==[])<;>rfl
  rw[spec];by_cases q:(k:Int)=3
  ·cases c1:tx==[]<;>cases c2:tg==[]<;>cases c3:ky==[];all_goals
    refine ag g292 rfl ?_;simp(disch:=omega) only[fn292,evs,↓reduceIte,Nat.reduceEqDiff,ai,←e_h1,l0,l1,l2,l3,l4,l5,eq_false q1,eq_false q2,eq_true q,aI,c1,c2,c3,la,lc];exact⟨by first|rfl|(rw[sB];rfl),F_h1⟩
  ·have q':(k:Int)=4:=by omega
   cases c1:tx==[]<;>cases c2:tg==[]<;>cases c3:ky==[];all_goals
    refine ag g292 rfl ?_;simp(disch:=omega) only[fn292,evs,↓reduceIte,Nat.reduceEqDiff,ai,←e_h1,l0,l1,l2,l3,l4,l5,eq_false q1,eq_false q2,eq_false q,eq_true q',aI,c1,c2,c3,la,lc];exact⟨by first|rfl|(rw[sB];rfl),F_h1⟩
 have q3:¬(k:Int)=3:=by omega
 have q4:¬(k:Int)=4:=by omega
 by_cases k5:k=5
 ·have q5:(k:Int)=5:=by omega
  have spec:cY k tg ky sl tx sub.len=(okN tg&&(bP sl&&(ky==[]&&(tx==[]&&decide (sub.len=0))))):=by
   unfold cY;rw[if_neg k1,if_pos k5]
  rw[spec];refine ag g292 rfl ?_;simp only[fn292,evs,↓reduceIte,Nat.reduceEqDiff,←e_h1,l0,l1,eq_false q1,eq_false q2,eq_false q3,eq_false q4,eq_true q5];refine aa dP ?_;rintro _ _ ⟨rfl,rfl⟩;cases c1:okN tg
  ·simp only[evs,↓reduceIte];exact⟨rfl,F_h1⟩
  simp only[evs,↓reduceIte,Nat.reduceEqDiff,l3];refine aa (lu F_h1.wf (ra.fr F_h1) na) ?_;rintro _ h2 ⟨rfl,F2⟩;have m2:ab h2 h.next 2=some (.str ky):=(F2.get o_h1).ld1 2;have m4:ab h2 h.next 4=some (.str tx):=(F2.get o_h1).ld1 4;have m5:ab h2 h.next 5=some vc:=(F2.get o_h1).ld1 5;have lc2:=(rc.fr (F_h1.then F2)).len;cases c4:bP sl
  ·simp only[evs,↓reduceIte];exact⟨rfl,F_h1.then F2⟩
  cases c3:ky==[]
  ·simp only[evs,↓reduceIte,Nat.reduceEqDiff,m2,aI,c3];exact⟨rfl,F_h1.then F2⟩
  cases c5:tx==[]
  ·simp only[evs,↓reduceIte,Nat.reduceEqDiff,m2,m4,aI,c3,c5];exact⟨rfl,F_h1.then F2⟩
  simp only[evs,↓reduceIte,Nat.reduceEqDiff,m2,m4,m5,aI,c3,c5,lc2];exact⟨by simp,F_h1.then F2⟩
 ·have q5:¬(k:Int)=5:=by omega
  have spec:cY k tg ky sl tx sub.len=false:=by
   unfold cY;rw[if_neg k1,if_neg k5,if_neg k2,if_neg k34]
  rw[spec];refine ag g292 rfl ?_;simp only[fn292,evs,↓reduceIte,Nat.reduceEqDiff,←e_h1,l0,eq_false q1,eq_false q2,eq_false q3,eq_false q4,eq_false q5];exact F_h1
def PT.rs:PT→Nat→Nat→Nat
 |.nil,_,c=>c
 |.cons k tg ky sl tx _ _ sub nx,lv,c=>if 64<c then c else nx.rs lv (c+(if lv=0∨cY k tg ky sl tx sub.len=false then 1000 else sub.rs (lv-1) 1))
def PT.rn(k:Nat)(tg ky:Str)(sl:List Slo)(tx:Str)(sub:PT)(lv:Nat):Nat:=if lv=0∨cY k tg ky sl tx sub.len=false then 1000 else sub.rs (lv-1) 1
theorem PT.rs_le:∀(t:PT)(lv c:Nat),t.rs lv c≤max c (1064+64*lv)
 |.nil,lv,c=>by simp only[PT.rs];omega
 |.cons k tg ky sl tx _ _ sub nx,lv,c=>by
  simp only[PT.rs];split
  ·omega
  ·have h1:=PT.rs_le sub (lv-1) 1;have h2:=PT.rs_le nx lv (c+(if lv=0∨cY k tg ky sl tx sub.len=false then 1000 else sub.rs (lv-1) 1));split at h2<;>rename_i q
   ·rw[if_pos q];omega
   ·rw[if_neg q];omega
theorem PT.rn_le(k:Nat)(tg ky:Str)(sl:List Slo)(tx:Str)(sub:PT)(lv:Nat):PT.rn k tg ky sl tx sub lv≤1064+64*lv:=by
 unfold PT.rn;split
 ·omega
 ·have:=PT.rs_le sub (lv-1) 1;omega
theorem PT.rs_stop:∀(t:PT)(lv c:Nat),64<c→t.rs lv c=c
 |.nil,_,_,_=>rfl
 |.cons _ _ _ _ _ _ _ _ _,_,_,h=>by simp only[PT.rs,if_pos h]
def CR(k:Nat)(tg ky:Str)(sl:List Slo)(tx:Str)(va vc:V)(sub:PT):Prop:=∀(lv:Nat)(h:Heap),lv≤6→WF h→PH h (.cons k tg ky sl tx va vc sub .nil)→
 ao go 272 [.agg [.int .u8 (k:Int),.str tg,.str ky,va,.str tx,vc],.int .i64 (lv:Int)] h fun u h'=>u=.int .i64 (PT.rn k tg ky sl tx sub lv:Nat)∧Fr [] h h'
def CRs:PT→Prop
 |.nil=>True
 |.cons k tg ky sl tx va vc sub nx=>CR k tg ky sl tx va vc sub∧CRs nx
theorem CRs.at':∀{t:PT}(i:Nat),CRs t→CRs (t.at' i)
 |.nil,0,_=>trivial
 |.nil,_+1,_=>trivial
 |.cons _ _ _ _ _ _ _ _ _,0,a=>a
 |.cons _ _ _ _ _ _ _ _ _,i+1,⟨_,b⟩=>CRs.at' i b
theorem zc{k:Nat}{tg ky tx:Str}{sl:List Slo}{va vc:V}{sub:PT}(M:CRs sub):CR k tg ky sl tx va vc sub:=by
 intro lv h hlv w n;have n0:=n;obtain⟨n1,ra,na,rc,nc,n6,_⟩:=n;obtain⟨h1,e_h1⟩:∃h1,h1=halloc h [.int .u8 (k:Int),.str tg,.str ky,va,.str tx,vc]:=⟨_,rfl⟩;have F_h1:Fr [] h h1:=e_h1▸Fr.halloc w _;have o_h1:Own h1 h.next [.int .u8 (k:Int),.str tg,.str ky,va,.str tx,vc]:=e_h1▸Own.new w _;by_cases c1:(lv:Int)<1
 ·refine ag g272 rfl ?_;simp only[fn272,evs,↓reduceIte,Nat.reduceEqDiff,Nat.reduceAdd,←e_h1,eq_true c1];exact⟨by rw[PT.rn,if_pos (.inl (by omega))];rfl,F_h1⟩
 have l6:au h1 h.next 0 6=some [.int .u8 (k:Int),.str tg,.str ky,va,.str tx,vc]:=by rw[o_h1.ld];rfl
 refine ag g272 rfl ?_;simp only[fn272,evs,↓reduceIte,Nat.reduceEqDiff,Nat.reduceAdd,←e_h1,eq_false c1,l6];refine aa (CY F_h1.wf (n0.fr F_h1)) ?_;rintro _ h2 ⟨rfl,F2⟩;have F02:=F_h1.then F2;cases c2:cY k tg ky sl tx sub.len
 ·simp only[evs,↓reduceIte];exact⟨by rw[PT.rn,if_pos (.inr c2)];rfl,F02⟩
 have o2:=F2.get o_h1;simp only[evs,↓reduceIte];refine aE (fun n env hh=>Fr [] h2 hh∧∃(i c:Nat),env.get 6=some (.int .i64 (i:Int))∧env.get 5=some (.int .i64 (c:Int))∧env.get 2=some (.ptr h.next 0)∧env.get 1=some (.int .i64 (lv:Int))∧i≤sub.len∧c≤2000∧(sub.at' i).rs (lv-1) c=sub.rs (lv-1) 1∧n=sub.len-i) sub.len (by omega) ?_ ?_
 ·exact⟨Fr.refl F2.wf,0,1,(by simp[T.get_set]),(by simp[T.get_set]),(by simp[T.get_set]),(by simp[T.get_set]),by omega,by omega,by cases sub<;>rfl,rfl⟩
 ·rintro n' env hh ⟨F,i,c,g6,g5,g2,g1,hi,hc,e,rfl⟩;have F0:=F02.then F;have l5:ab hh h.next 5=some vc:=(F.get o2).ld1 5;have rch:=rc.fr F0;by_cases hlt:i<sub.len
  ·have hlt':(i:Int)<sub.len:=by omega
   by_cases c3:(c:Int)≤64
   ·obtain⟨kd,tg2,ky2,at2,tx2,va2,vc2,sub2,nx,e1,e2,e3,e4,e5,_⟩:=sub.split i hlt;obtain⟨bi,oi,p1,p2⟩:=Sl.ix6 rch hlt e2;have ph:=PH.at' i (n6.fr F0);rw[e1]at ph e;obtain⟨z1,z2,z3,z4,z5,z6,z7⟩:=ph;have cr:=CRs.at' i M;rw[e1]at cr;obtain⟨q0,q1,q2,q3,q4,q5,q6⟩:=p2;simp(disch:=omega) only[evs,↓reduceIte,Nat.reduceEqDiff,ai,g6,g5,g2,g1,l5,rch.len,hlt',eq_true c3,p1,q6];have lv1:(lv:Int)-1=((lv-1:Nat):Int):=by omega
    rw[lv1];refine aa (cr.1 (lv-1) hh (by omega) F.wf ⟨z1,z2,z3,z4,z5,z6,trivial⟩) ?_;rintro _ h3 ⟨rfl,F3⟩;have le:=PT.rn_le kd tg2 ky2 at2 tx2 sub2 (lv-1);simp only[PT.rs,if_neg (show¬64<c by omega)]at e;simp(disch:=omega) only[evs,↓reduceIte,Nat.reduceEqDiff,ai,g6];refine(aj _ _ _).2 ⟨sub.len-(i+1),by omega,F.then F3,i+1,c+PT.rn kd tg2 ky2 at2 tx2 sub2 (lv-1),(by simp[T.get_set]),(by simp[T.get_set]),(by simp[T.get_set,g2]),(by simp[T.get_set,g1]),by omega,by omega,by rw[e3];exact e,rfl⟩
   ·rw[PT.rs_stop _ _ _ (by omega)]at e;simp only[evs,↓reduceIte,Nat.reduceEqDiff,g6,g5,g2,l5,rch.len,hlt',eq_false c3];exact⟨by rw[PT.rn,if_neg (by rw[c2];simp;omega),←e],F0⟩
  ·rw[PT.at_end _ _ (by omega)]at e;have hlt':¬(i:Int)<sub.len:=by omega
   simp only[evs,↓reduceIte,Nat.reduceEqDiff,g6,g5,g2,l5,rch.len,eq_false hlt'];have e':c=sub.rs (lv-1) 1:=e;exact⟨by rw[PT.rn,if_neg (by rw[c2];simp;omega),←e'],F0⟩
theorem crs:∀t:PT,CRs t
 |.nil=>trivial
 |.cons _ _ _ _ _ _ _ sub nx=>⟨zc (crs sub),crs nx⟩
def PT.rC(k:Nat)(tg ky:Str)(sl:List Slo)(tx:Str)(sub:PT):Nat:=if k≠1∨64<PT.rn k tg ky sl tx sub 6 then 0 else PT.rn k tg ky sl tx sub 6
theorem zR{h:Heap}{k:Nat}{tg ky tx:Str}{sl:List Slo}{va vc:V}{sub:PT}(w:WF h)(n:PH h (.cons k tg ky sl tx va vc sub .nil)):
 ao go 237 [.agg [.int .u8 (k:Int),.str tg,.str ky,va,.str tx,vc]] h fun u h'=>u=.int .i64 (PT.rC k tg ky sl tx sub:Nat)∧Fr [] h h':=by
 obtain⟨h1,e_h1⟩:∃h1,h1=halloc h [.int .u8 (k:Int),.str tg,.str ky,va,.str tx,vc]:=⟨_,rfl⟩;have F_h1:Fr [] h h1:=e_h1▸Fr.halloc w _;have o_h1:Own h1 h.next [.int .u8 (k:Int),.str tg,.str ky,va,.str tx,vc]:=e_h1▸Own.new w _;have l6:au h1 h.next 0 6=some [.int .u8 (k:Int),.str tg,.str ky,va,.str tx,vc]:=by rw[o_h1.ld];rfl
 refine ag g237 rfl ?_;simp only[fn237,evs,↓reduceIte,Nat.reduceEqDiff,←e_h1,l6];refine aa ((crs (.cons k tg ky sl tx va vc sub .nil)).1 6 h1 (by omega) F_h1.wf (n.fr F_h1)) ?_;rintro _ h2 ⟨rfl,F2⟩;have l0:ab h2 h.next 0=some (.int .u8 (k:Int)):=(F2.get o_h1).ld1 0;unfold PT.rC;by_cases c1:(k:Int)=1
 ·by_cases c2:(64:Int)<(PT.rn k tg ky sl tx sub 6:Nat)
  ·simp only[evs,↓reduceIte,Nat.reduceEqDiff,l0,eq_true c1,eq_true c2];exact⟨by rw[if_pos (.inr (by omega))];rfl,F_h1.then F2⟩
  ·simp only[evs,↓reduceIte,Nat.reduceEqDiff,l0,eq_true c1,eq_false c2];exact⟨by rw[if_neg (by omega)],F_h1.then F2⟩
 ·simp only[evs,↓reduceIte,Nat.reduceEqDiff,l0,eq_false c1];exact⟨by rw[if_pos (.inl (by omega))];rfl,F_h1.then F2⟩
theorem rD{h:Heap}{k:Nat}{tg ky tx:Str}{sl:List Slo}{va vc:V}{sub:PT}(w:WF h)(n:PH h (.cons k tg ky sl tx va vc sub .nil)):
 ao go 185 [.agg [.int .u8 (k:Int),.str tg,.str ky,va,.str tx,vc]] h fun u h'=>u=.int .i64 (if PT.rC k tg ky sl tx sub=0 then 14 else 0)∧Fr [] h h':=by
 obtain⟨h1,e_h1⟩:∃h1,h1=halloc h [.int .u8 (k:Int),.str tg,.str ky,va,.str tx,vc]:=⟨_,rfl⟩;have F_h1:Fr [] h h1:=e_h1▸Fr.halloc w _;have o_h1:Own h1 h.next [.int .u8 (k:Int),.str tg,.str ky,va,.str tx,vc]:=e_h1▸Own.new w _;have l6:au h1 h.next 0 6=some [.int .u8 (k:Int),.str tg,.str ky,va,.str tx,vc]:=by rw[o_h1.ld];rfl
 refine ag g185 rfl ?_;simp only[fn185,evs,↓reduceIte,Nat.reduceEqDiff,←e_h1,l6];refine aa (zR F_h1.wf (n.fr F_h1)) ?_;rintro _ h2 ⟨rfl,F2⟩;by_cases c:(PT.rC k tg ky sl tx sub:Int)=0
 ·simp only[evs,↓reduceIte,eq_true c];exact⟨by rw[if_pos (by omega)],F_h1.then F2⟩
 ·simp only[evs,↓reduceIte,eq_false c];exact⟨by rw[if_neg (by omega)],F_h1.then F2⟩
theorem HM{h:Heap}{B B' e:Nat}{v:V}{cs:List V}(g:Gs h B e v cs)(hb:B'≤B):Gs h B' e v cs:=by
 rcases g with z|⟨b,n,z1,z2,z3,z4,o⟩
 ·exact .inl z
 ·exact .inr ⟨b,n,z1,z2,z3,by omega,o⟩
theorem qR{h:Heap}{x:Itm}{v:V}{l:List Slo}(w:WF h)(a:ItmH h x)(r:Recs pG 3 h v l)(nl:l.length≤4096)(h3:∀s∈l,s.2.1≤3):
 ao go 241 [v,.agg x.cells] h fun u h'=>Gs h' h.next 2 u ((l.map (att x)).flatMap eP)∧Fr [] h h':=by
 have kx:=a.k;have nx:=a.n;obtain⟨h1,e_h1⟩:∃h1,h1=halloc h x.cells:=⟨_,rfl⟩;have F_h1:Fr [] h h1:=e_h1▸Fr.halloc w _;have o_h1:Own h1 h.next x.cells:=e_h1▸Own.new w _;have x0:∀{h'},Fr [] h1 h'→ab h' h.next 0=some (.int .u64 (x.key:Int)):=fun f=>(f.get o_h1).ld1 0;have x2:∀{h'},Fr [] h1 h'→ab h' h.next 2=some (.str x.text):=fun f=>(f.get o_h1).ld1 2;have x3:∀{h'},Fr [] h1 h'→ab h' h.next 3=some x.vm:=fun f=>(f.get o_h1).ld1 3;refine ag g241 rfl ?_;simp only[fn241,evs,↓reduceIte,Nat.reduceAdd,←e_h1];refine aE (fun n env hh=>Fr [] h1 hh∧∃(i:Nat)(vo:V),env.get 6=some (.int .i64 (i:Int))∧env.get 5=some vo∧env.get 3=some (.ptr h.next 0)∧env.get 0=some v∧i≤l.length∧Gs hh h1.next 2 vo (((l.take i).map (att x)).flatMap eP)∧n=l.length-i) l.length (by omega) ?_ ?_
 ·exact⟨Fr.refl F_h1.wf,0,.nils,(by simp[T.get_set]),(by simp[T.get_set]),(by simp[T.get_set]),(by simp[T.get_set]),by omega,.inl ⟨rfl,by simp⟩,rfl⟩
 ·rintro n env hh ⟨F,i,vo,g6,g5,g3,g0,hi,G,rfl⟩;have F0:=F_h1.then F;have rh:=r.fr F0;by_cases hlt:i<l.length
  ·have hlt':(i:Int)<l.length:=by omega
   obtain⟨b',o',s,p1,p2,p3,p4⟩:=rh.ix eK .i64 (i:Int) (by omega) hlt';rw[Int.toNat_natCast]at p4;have s3:=h3 s (List.mem_of_getElem? p4);have u0:ab hh b' o'=some (.str s.1):=p2 0 (by omega);have u1:ab hh b' (o'+1)=some (.int .u8 (s.2.1:Int)):=p2 1 (by omega);have u2:ab hh b' (o'+2)=some (.str s.2.2):=p2 2 (by omega);have cv:aY .u64 (x.marks.length:Int)=(x.marks.length:Int):=bU _ (by omega) (by omega);have fin:∀vo' h9,Gs h9 h1.next 2 vo' (((l.take i).map (att x)).flatMap eP++eP (att x s))→Gs h9 h1.next 2 vo' (((l.take (i+1)).map (att x)).flatMap eP):=by
    intro vo' h9 g;rw[List.take_add_one,p4];simpa using g
   have glen:(((l.take i).map (att x)).flatMap eP).length=i*2:=by rw[aF dG];simp;omega
   have lit:∀z,Own (halloc hh [.str s.1,.str z]) hh.next [.str s.1,.str z]:=fun z=>Own.new F.wf _;have h1n:=F.next;have am:=a.m.fr F0;have ev:s.2.1=0∨s.2.1=1∨s.2.1=2∨s.2.1=3:=by omega
   have rest:∀(z:Str)(hh':Heap){K:V→Heap→Prop},Fr [] hh hh'→uU x s=z→(∀v' h',Gs h' h1.next 2 v' (((l.take (i+1)).map (att x)).flatMap eP)→Fr [] h1 h'→K v' h')→OQ (jv (halloc hh' [.str s.1,.str z]) 2 32 vo (.slice hh'.next 0 1 1)) K:=by
    intro z hh' K f e k;have nn:=f.next;have F1:=Fr.halloc f.wf [.str s.1,.str z];have G':=Gs.fr (Gs.fr G f) F1;refine Gs.append1 (n:=1) F1.wf G' (Sl.lit (Own.new f.wf _) rfl) (by omega) (by omega) rfl (by have:=F1.next;omega) (by rw[glen];omega) ?_;intro v' h' g _ f';refine k v' h' (fin v' h' (by unfold eP att;rw[e];exact g)) (Fr.new F_h1.wf ((F.then f).then F1) f' (fun y hy=>?_));rcases G with⟨rfl,_⟩|⟨b,n,rfl,_,_,hb,o⟩
    ·simp[vb]at hy
    ·simp[vb]at hy;omega
   rcases ev with e|e|e|e
   ·have e':(s.2.1:Int)=0:=by omega
    simp only[evs,↓reduceIte,Nat.reduceEqDiff,Nat.reduceAdd,Nat.reduceLT,g6,g5,g0,rh.len,hlt',p1,u0,u1,u2,show¬(s.2.1:Int)=1 by omega,show¬(s.2.1:Int)=2 by omega,show¬(s.2.1:Int)=3 by omega];refine rest _ _ (Fr.refl F.wf) (by simp[uU,e]) fun v' h' g f=>?_;simp(disch:=omega) only[evs,↓reduceIte,Nat.reduceEqDiff,ai,g6];refine(aj _ _ _).2 ⟨l.length-(i+1),by omega,f,i+1,v',(by simp[T.get_set]),(by simp[T.get_set]),(by simp[T.get_set,g3]),(by simp[T.get_set,g0]),by omega,g,rfl⟩
   ·simp only[evs,↓reduceIte,Nat.reduceEqDiff,Nat.reduceAdd,Nat.reduceLT,g6,g5,g3,g0,rh.len,hlt',p1,u0,u1,u2,show(s.2.1:Int)=1 by omega,x2 F];refine rest _ _ (Fr.refl F.wf) (by simp[uU,e]) fun v' h' g f=>?_;simp(disch:=omega) only[evs,↓reduceIte,Nat.reduceEqDiff,ai,g6];refine(aj _ _ _).2 ⟨l.length-(i+1),by omega,f,i+1,v',(by simp[T.get_set]),(by simp[T.get_set]),(by simp[T.get_set,g3]),(by simp[T.get_set,g0]),by omega,g,rfl⟩
   ·have q1:¬(s.2.1:Int)=1:=by omega
    have q2:(s.2.1:Int)=2:=by omega
    simp only[evs,↓reduceIte,Nat.reduceEqDiff,g6,g3,g0,rh.len,hlt',p1,u1,u2,eq_false q1,eq_true q2,x0 F];refine aa (kJ (x.key+1) x.key (by omega) kx) ?_;rintro _ _ ⟨rfl,rfl⟩;simp only[evs,↓reduceIte,Nat.reduceEqDiff,Nat.reduceAdd,Nat.reduceLT,g6,g5,g0,p1,u0];refine rest _ _ (Fr.refl F.wf) (by simp[uU,e]) fun v' h' g f=>?_;simp(disch:=omega) only[evs,↓reduceIte,Nat.reduceEqDiff,ai,g6];refine(aj _ _ _).2 ⟨l.length-(i+1),by omega,f,i+1,v',(by simp[T.get_set]),(by simp[T.get_set]),(by simp[T.get_set,g3]),(by simp[T.get_set,g0]),by omega,g,rfl⟩
   ·have q1:¬(s.2.1:Int)=1:=by omega
    have q2:¬(s.2.1:Int)=2:=by omega
    have q3:(s.2.1:Int)=3:=by omega
    simp only[evs,↓reduceIte,Nat.reduceEqDiff,g6,g3,g0,rh.len,hlt',p1,u1,u2,eq_false q1,eq_false q2,eq_true q3,x3 F,am.len,cv];refine aa (kJ (x.marks.length+1) x.marks.length (by omega) (by omega)) ?_;rintro _ _ ⟨rfl,rfl⟩;simp only[evs,↓reduceIte,Nat.reduceEqDiff,Nat.reduceAdd,Nat.reduceLT,g6,g5,g0,p1,u0];refine rest _ _ (Fr.refl F.wf) (by simp[uU,e]) fun v' h' g f=>?_;simp(disch:=omega) only[evs,↓reduceIte,Nat.reduceEqDiff,ai,g6];refine(aj _ _ _).2 ⟨l.length-(i+1),by omega,f,i+1,v',(by simp[T.get_set]),(by simp[T.get_set]),(by simp[T.get_set,g3]),(by simp[T.get_set,g0]),by omega,g,rfl⟩
  ·have hlt':¬(i:Int)<l.length:=by omega
   rw[List.take_of_length_le (by omega)]at G;simp only[evs,↓reduceIte,Nat.reduceEqDiff,g6,g5,g0,rh.len,eq_false hlt'];exact⟨HM G (by have:=F_h1.next;omega),F0⟩
theorem Hd{X:List Nat}{h h':Heap}(f:Fr [] h h'):Fr X h h':=⟨f.next,f.wf,fun _ _ _ o=>f.get o,fun _ _ _ o=>f.pl _ _ (by simp) o,f.lp,f.ro⟩
theorem Av{h:Heap}{n0 B:Nat}{vo u:V}{s s5:NT}{K:V→Heap→Prop}(w:WF h)(g:Gs h B 6 vo s.cells)(hB:B≤h.next)(h0:n0≤h.next)(I:Inv vo n0 h s)(sl:Sl h 6 u s5.len s5.cells)
 (N:∀(X:List Nat)(h':Heap),(∀x∈X,x<n0∨x∈vb vo)→Fr X h h'→NH h' s5) (hl:s.len≤1000) (hl5:s5.len≤1000) (hz:s5.len=0→u=.nils)
 (hk:∀v' h',Gs h' B 6 v' (s.app s5).cells→Inv v' n0 h' (s.app s5)→Fr (vb vo) h h'→(∀y∈vb v',y∈vb vo∨h.next≤y)→K v' h'):
 OQ (jv h 6 104 vo u) K:=by
 have on:=NH.ones (N [] h (by simp) (Fr.refl w));have cl:=s.cells_len;have cl5:=s5.cells_len;by_cases z:s5.len=0
 ·have hu:=hz z;subst hu;have e5:s5=.nil:=by cases s5 with
   |nil=>rfl
   |cons _ _ _ _ _ _ _ _ _=>simp[NT.len]at z
  subst e5;have ea:s.app .nil=s:=by
   have:∀t:NT,t.app .nil=t:=by
    intro t;induction t with
    |nil=>rfl
    |cons _ _ _ _ _ _ _ _ _ _ ih=>simp only[NT.app,ih]
   exact this s
  rw[ea]at hk;have ez:jv h 6 104 vo .nils=some (vo,h):=by
   unfold jv;rw[sl.srcLen];simp only[];rw[gW z,cond_true];rcases g with⟨rfl,_⟩|⟨b,n,rfl,_⟩<;>rfl
  rw[ez];refine(cC vo h K).2 (hk vo h g I (Hd (Fr.refl w)) fun y m=>.inl m)
 have vlt:∀x∈vb vo,x<h.next:=by
  rcases g with⟨rfl,_⟩|⟨b,n,rfl,_,_,_,o⟩
  ·simp[vb]
  ·have:=o.lt w;simp only[vb,List.mem_singleton];rintro x rfl;exact this
 refine Gs.append1 (n:=s5.len) w g sl (by omega) z on hB (by rw[cl];omega) ?_;intro v' h' g' e' F;refine hk v' h' ?_ ?_ F (by rw[e'];simp)
 ·rw[NT.app_cells];exact g'
 ·intro X h2 hX f2;have f3:Fr (vb vo++X.filter (fun x=>decide (x<n0))) h h2:=by
   refine Fr.trans F f2 w (fun x hx=>.inl (by simp[hx])) (fun x hx=>?_);rcases hX x hx with q|q
   ·exact .inl (by simp[hx,q])
   ·rw[e']at q;simp at q;exact .inr (by subst q;exact Nat.le_refl _)
  have hX':∀x∈vb vo++X.filter (fun x=>decide (x<n0)),x<n0∨x∈vb vo:=by
   intro x hx;simp at hx;rcases hx with q|q
   ·exact .inr q
   ·exact .inl q.2
  exact NH.app (I _ h2 hX' f3) (N _ h2 hX' f3)
def PG:PT→Prop
 |.nil=>True
 |.cons k _ _ sl _ _ _ sub nx=>1≤k∧k≤5∧(∀s∈sl,s.2.1≤3)∧sub.len≤16∧PG sub∧PG nx
theorem PG.at':∀{t:PT}(i:Nat),PG t→PG (t.at' i)
 |.nil,0,_=>trivial
 |.nil,_+1,_=>trivial
 |.cons _ _ _ _ _ _ _ _ _,0,a=>a
 |.cons _ _ _ _ _ _ _ _ _,i+1,⟨_,_,_,_,_,b⟩=>PG.at' i b
def MDp(h:Heap)(x:Itm)(k:Nat)(tg ky:Str)(sl:List Slo)(tx:Str)(sub:PT)(u:V)(h':Heap):Prop:=
 ∃s:NT,s.sh=jP x k tg ky sl tx (cG x sub)∧Fr [] h h'∧s.len≤8∧(s.len=0→u=.nils)∧∀(X:List Nat)(h2:Heap),(∀y∈X,y<h.next)→Fr X h' h2→NH h2 s∧Sl h2 6 u s.len s.cells
def MD(k:Nat)(tg ky:Str)(sl:List Slo)(tx:Str)(va vc:V)(sub:PT):Prop:=∀(x:Itm)(h:Heap),WF h→ItmH h x→x.marks.length≤8→PH h (.cons k tg ky sl tx va vc sub .nil)→PG (.cons k tg ky sl tx va vc sub .nil)→
 ao go 187 [.agg [.int .u8 (k:Int),.str tg,.str ky,va,.str tx,vc],.agg x.cells] h (MDp h x k tg ky sl tx sub)
def MDs:PT→Prop
 |.nil=>True
 |.cons k tg ky sl tx va vc sub nx=>MD k tg ky sl tx va vc sub∧MDs nx
theorem MDs.at':∀{t:PT}(i:Nat),MDs t→MDs (t.at' i)
 |.nil,0,_=>trivial
 |.nil,_+1,_=>trivial
 |.cons _ _ _ _ _ _ _ _ _,0,a=>a
 |.cons _ _ _ _ _ _ _ _ _,i+1,⟨_,b⟩=>MDs.at' i b
theorem rW{h h1:Heap}{x:Itm}{k:Nat}{tg ky tx z:Str}{sl:List Slo}{sub:PT}(f:Fr [] h h1)(e:jP x k tg ky sl tx (cG x sub)=fi z):
 MDp h x k tg ky sl tx sub (.slice h1.next 0 1 1) (halloc h1 [.int .u8 2,.str [],.str [],.nils,.str z,.nils]):=by
 have F1:=Fr.halloc f.wf [.int .u8 2,.str [],.str [],.nils,.str z,.nils];have o1:=Own.new f.wf [.int .u8 2,.str [],.str [],.nils,.str z,.nils];refine⟨.cons 2 [] [] [] z .nils .nils .nil .nil,by rw[e];rfl,f.then F1,Nat.le_of_ble_eq_true rfl,fun q=>absurd q (by simp[NT.len]),fun X h2 hX f2=>⟨jb 2 (by omega) [] z,Sl.lit (f2.own _ _ (fun m=>by have:=hX _ m;have:=f.next;omega) o1) rfl⟩⟩
theorem Gs.ints{h:Heap}{B:Nat}{v:V}{M:List Int}(g:Gs h B 1 v (M.map fun x=>.int .i64 x))(hn:M.length≤4096):mK h v M:=by
 have:=g.sl (n:=M.length) (by simp) (by omega);exact this
theorem Sto.set{n0:Nat}{h h':Heap}{b bg B bm S bl i:Nat}{Ks:List Knd}{cap:Int}{X:List Itm}{l:List Int}{kn st:List Bool}{vK:V}{pm:Option Nat}{mc:eW}{y:Itm}(w:WF h)(s:Sto n0 h b Ks cap X l kn st vK bg B bm S bl pm mc)(f:Fr [B] h h')
 (g:Gp h' bg B X.length ((X.set i y).flatMap Itm.cells)) (gB:Good h' B)
 (hy:∀(Z:List Nat)(h2:Heap),(∀z∈Z,z∈Wr b bg B bm S bl pm∨h'.next≤z∨z<n0)→Fr Z h' h2→ItmH h2 y):Sto n0 h' b Ks cap (X.set i y) l kn st vK bg B bm S bl pm mc:=by
 have d:=s.d;have fn:=f.next;have n0l:=s.n0l;refine⟨f.own _ _ (by simpa using d.b2) s.ob,by simpa using g,gB,s.k.frS f (by simpa using d.t1.symm) (by simpa using d.t2.symm),s.gS.fr f (by simpa using d.t2.symm),s.lo.frS f s.gB.oth (by simpa using d.t3.symm) (fun q e=>by simpa using(d.p q e).2.2.1),by simp[s.len],?_,d,by have:=s.Sl';omega,fun q e=>by have:=s.pl q e;omega,by have:=s.bl';omega,by omega⟩;intro Z h2 hZ f2;have fz:Fr ([B]++Z) h h2:=Fr.trans f f2 w (fun x m=>.inl (List.mem_append.2 (.inl m))) (fun x m=>.inl (List.mem_append.2 (.inr m)));obtain⟨r1,r2,r3⟩:=s.rd _ h2 (fun z m=>by
  rcases List.mem_append.1 m with m|m
  ·simp at m;subst m;exact .inl (by simp[Wr])
  ·rcases hZ z m with q|q|q
   ·exact .inl q
   ·exact .inr (.inl (by omega))
   ·exact .inr (.inr q)) fz
 refine⟨r1,r2,fun x m=>?_⟩;rcases List.mem_or_eq_of_mem_set m with m|rfl
 ·exact r3 x m
 ·exact hy Z h2 hZ f2
theorem Gs.ge{h:Heap}{B B' e:Nat}{v:V}{cs:List V}(g:Gs h B e v cs)(hb:B'≤B):Gs h B' e v cs:=by
 rcases g with z|⟨b,n,z1,z2,z3,z4,o⟩
 ·exact .inl z
 ·exact .inr ⟨b,n,z1,z2,z3,by omega,o⟩
theorem kw{call:av}{env:T V}{k:Nat}:∀(B:List IStep)(i:Nat)(loc:List V)(h:Heap),k<i→lay call env [k] B i loc h=some (B.map fun s=>(s,none),h)
 |[],_,_,_,_=>rfl
 |s::B,i,loc,h,hi=>by
  have c0:(i==k)=false:=beq_false_of_ne (by omega);have c:List.contains [k] i=false:=by simp only[List.contains,List.elem,c0]
  simp only[lay,c,cond_false,kw (call:=call) (env:=env) (k:=k) B (i+1) _ h (by omega),List.map_cons]
theorem r7{call:av}{env:T V}{k:Nat}{R:List IStep}{h h':Heap}{r:List DS}:∀(A:List IStep)(i:Nat)(loc:List V),i+A.length=k→(∀loc,lay call env [k] R k loc h=some (r,h'))→lay call env [k] (A++R) i loc h=some ((A.map fun s=>(s,none))++r,h')
 |[],i,loc,hi,hr=>by
  have:i=k:=by simpa using hi
  subst this;simpa using hr loc
 |s::A,i,loc,hi,hr=>by
  simp only[List.length_cons]at hi;have c0:(i==k)=false:=beq_false_of_ne (by omega);have c:List.contains [k] i=false:=by simp only[List.contains,List.elem,c0]
  simp only[List.cons_append,lay,c,cond_false,r7 (call:=call) (env:=env) (k:=k) A (i+1) _ (by omega) hr,List.map_cons]
theorem Cf{call:av}{env:T V}{h:Heap}{k:Nat}{zero:List V}{Br Rr:List Nat}{reads:List (Nat×Nat×Nat)}{sets:List (Nat×Nat)}{Q:Ex→T V→Heap→Prop}(A B:List IStep)(hk:A.length=k)
 (x:WD call env ((A.map fun s=>(s,none))++(⟨none,.al zero,none⟩,some (.ptr h.next 0,zero))::B.map fun s=>(s,none)) [] [halloc h zero] (halloc h zero) (DF call (A++⟨none,.al zero,none⟩::B) reads sets env (Q .norm))):
 W call (.dops (A++⟨none,.al zero,none⟩::B) [k] Br Rr reads sets) env h Q:=by
 refine(zB _ _ _ _ _ _ _).2 ?_;have e:∀loc,lay call env [k] (⟨none,.al zero,none⟩::B) k loc h=some ((⟨none,.al zero,none⟩,some (.ptr h.next 0,zero))::B.map (fun s=>(s,none)),halloc h zero):=by
  intro loc;have c:List.contains [k] k=true:=by simp
  simp only[lay,c,cond_true,fZ,kw B (k+1) _ _ (Nat.lt_succ_self k),dC]
 rw[r7 A 0 [] (by omega) e,gA];exact x
theorem r8(loc:List V)(env:T V)(n:Nat)(zero:List V):bH loc env (.al zero) (.ptr n 0) zero=true:=by
 have e:fZ loc env (.al zero)=some (zero,none):=rfl;simp only[bH,e,lid,dC,dB,dm,Bool.and_self]
def dF(Ks:List Knd)(cap:Int)(X:List Itm):Nat→List Itm→Int
 |_,[]=>0
 |i,y::r=>if okI y Ks.length=false then 6 else if(X[i]?.map Itm.key)≠some y.key then 9 else if dX Ks cap y≠0 then dX Ks cap y else dF Ks cap X (i+1) r
theorem Inv.frX{v:V}{n0:Nat}{h h':Heap}{s:NT}{X:List Nat}(I:Inv v n0 h s)(w:WF h)(f:Fr X h h')(hX:∀x∈X,x<n0):Inv v n0 h' s:=fun Y h2 hy f2=>
 I (X++Y) h2 (fun x m=>by
  rcases List.mem_append.1 m with m|m
  ·exact .inl (hX x m)
  ·exact hy x m) (Fr.trans f f2 w (fun x m=>.inl (List.mem_append.2 (.inl m))) (fun x m=>.inl (List.mem_append.2 (.inr m))))
theorem Fg{h h1:Heap}{x:Itm}{tg ky tx:Str}{sl:List Slo}{va vc:V}{sub:PT}{env:T V}{pb ib:Nat}{R:V→Heap→Prop}(M:MDs sub)(f0:Fr [] h h1)(a:ItmH h x)(hm:x.marks.length≤8)(n:PH h (.cons 1 tg ky sl tx va vc sub .nil))(g:PG (.cons 1 tg ky sl tx va vc sub .nil))
 (op:Own h1 pb [.int .u8 1,.str tg,.str ky,va,.str tx,vc]) (oi:Own h1 ib x.cells) (e2:env.get 2=some (.ptr pb 0)) (e3:env.get 3=some (.ptr ib 0))
 (k:∀u h',MDp h x 1 tg ky sl tx sub u h'→R u h'):W go mdN env h1 (iT [.t 4] R):=by
 obtain⟨n1,ra,na,rc,nc,n6,_⟩:=n;obtain⟨_,_,g3,gl,gs,_⟩:=g;have w1:=f0.wf;have l6:=op.at6;obtain⟨q0,q1,q2,q3,q4,q5,q6⟩:=l6;have i4:au h1 ib 0 4=some x.cells:=by rw[oi.ld];rfl
 simp only[evs,mdN];refine Cf [⟨none,.p (.faddr 1) [.v 2],none⟩,⟨none,.ld 1 false (.l 0),none⟩,⟨none,.p (.faddr 2) [.v 2],none⟩,⟨none,.ld 1 false (.l 0),none⟩,⟨none,.p (.faddr 3) [.v 2],none⟩,⟨none,.ld 1 false (.l 0),none⟩,⟨none,.ld 4 true (.v 3),none⟩,⟨none,.cf 241 [.l 1,.l 0],none⟩,⟨none,.p (.build [.int .u8 0,.str [],.str [],.nils,.str [],.nils] [(0,1),(1,1),(2,1),(3,1)]) [.c (.int .u8 1),.l 6,.l 4,.l 0],none⟩] _ rfl ?_;have F2:=Fr.halloc w1 [.int .u8 0,.str [],.str [],.nils,.str [],.nils];have o2:=Own.new w1 [.int .u8 0,.str [],.str [],.nils,.str [],.nils];have n2:(halloc h1 [.int .u8 0,.str [],.str [],.nils,.str [],.nils]).next=h1.next+1:=rfl;generalize halloc h1 [.int .u8 0,.str [],.str [],.nils,.str [],.nils]=h2 at F2 o2 n2⊢;obtain⟨r0,r1,r2,r3,r4,r5,r6⟩:=(F2.get op).at6;have i42:au h2 ib 0 4=some x.cells:=by rw[(F2.get oi).ld];rfl
 simp only[evs,eff,e2,e3,r1,r2,r3,i42];refine aa (qR F2.wf (a.fr (f0.then F2)) (ra.fr (f0.then F2)) na g3) ?_;rintro vA h3 ⟨GA,F3⟩;obtain⟨t0,t1,t2,t3,t4,t5,t6⟩:=(F3.get (F2.get op)).at6;have vA1:vA.one=true:=(Gs.sl (n:=sl.length) GA (by rw[aF dG];simp) (by omega)).one;simp only[evs,↓reduceIte,eff,de,r8,aB vA1];refine ah (c':=[.int .u8 1,.str tg,.str ky,vA,.str [],.nils]) F3.wf (F3.get o2) rfl (by simp only[V.cells,aD,aJ,vA1];rfl) (by rfl) ?_;rintro h4 o4 F4 n4;have i43:au h3 ib 0 4=some x.cells:=by rw[(F3.get (F2.get oi)).ld];rfl
 have n3:=F3.next;simp only[evs,Nat.reduceAdd,DF,Nat.reduceSub,e3,r1,r2,r3,i42,t1,t2];have F24:Fr [] h1 h4:=(F2.then F3).fresh F4 w1 (Nat.le_refl _);have GA4:Gs h4 h2.next 2 vA ((sl.map (att x)).flatMap eP):=Gs.frX GA F4 (fun y m=>by simp at m;omega);have n14:=f0.next;refine aE (fun n env hh=>Fr [] h1 hh∧∃(i:Nat)(s:NT)(vo:V),env.get 8=some (.int .i64 (i:Int))∧env.get 7=some (.ptr h1.next 0)∧env.get 2=some (.ptr pb 0)∧env.get 3=some (.ptr ib 0)∧i≤sub.len∧h3.next≤hh.next∧
  Own hh h1.next [.int .u8 1,.str tg,.str ky,vA,.str [],vo]∧(∀(X:List Nat)(h':Heap),(∀y∈X,y<h2.next∨h3.next≤y)→Fr X hh h'→Recs eP 2 h' vA (sl.map (att x)))∧Gs hh h3.next 6 vo s.cells∧Inv vo h3.next hh s∧
  s.sh.app (cG x (sub.at' i))=cG x sub∧s.len≤8*i∧n=sub.len-i) sub.len (by omega) ?_ ?_
 ·refine⟨F24,0,.nil,.nils,(by simp[T.get_set]),(by simp[T.get_set]),(by simp[T.get_set,e2]),(by simp[T.get_set,e3]),by omega,by omega,o4,fun X h' hX f=>?_,.inl ⟨rfl,rfl⟩,fun _ _ _ _=>trivial,by cases sub<;>rfl,by simp[NT.len],rfl⟩;have gl3:∀y∈vb vA,y<h3.next:=by
   rcases GA with⟨rfl,_⟩|⟨b,n,rfl,_,_,_,o⟩
   ·simp[vb]
   ·have:=o.lt F3.wf;simp only[vb,List.mem_singleton];rintro y rfl;exact this
  have:Gs h' h2.next 2 vA ((sl.map (att x)).flatMap eP):=by
   rcases GA4 with z|⟨b,n,rfl,z2,z3,z4,o⟩
   ·exact .inl z
   ·exact .inr ⟨b,n,rfl,z2,z3,z4,f.own _ _ (fun m=>by have:=hX _ m;have:=gl3 b (by simp[vb]);omega) o⟩
  exact Gs.sl (n:=(sl.map (att x)).length) this (by rw[aF dG]) (by omega)
 ·rintro n' env hh ⟨F,i,s,vo,g8,g7,g2,g3',hi,hn,on,SA,G,I,e,sn,rfl⟩;have F0:=f0.then F;obtain⟨u0,u1,u2,u3,u4,u5,u6⟩:=(F.get op).at6;have rch:=rc.fr F0;by_cases hlt:i<sub.len
  ·have hlt':(i:Int)<sub.len:=by omega
   obtain⟨kd,tg2,ky2,at2,tx2,va2,vc2,sub2,nx,e1,e2',e3',e4',e5',_⟩:=sub.split i hlt;obtain⟨bi,oi',p1,p2⟩:=Sl.ix6 rch hlt e2';have ph:=PH.at' i (n6.fr F0);have pg:=gs.at' i;have md:=M.at' i;rw[e1]at ph e pg md;obtain⟨z1,z2,z3,z4,z5,z6,z7⟩:=ph;obtain⟨y1,y2,y3,y4,y5,y6⟩:=pg;obtain⟨v0,v1,v2,v3,v4,v5,v6⟩:=p2;have w5:ab hh h1.next 5=some vo:=on.ld1 5;have ih4:au hh ib 0 4=some x.cells:=by rw[(F.get oi).ld];rfl
   simp only[evs,↓reduceIte,Nat.reduceEqDiff,eff,g8,g7,g2,g3',u5,rch.len,hlt',p1,v6,w5,ih4];refine aa (md.1 x hh F.wf (a.fr F0) hm ⟨z1,z2,z3,z4,z5,z6,trivial⟩ ⟨y1,y2,y3,y4,y5,trivial⟩) ?_;rintro uu h5 ⟨s5,es5,F5,l5,z5',st5⟩;have on5:=F5.get on;have w55:ab h5 h1.next 5=some vo:=on5.ld1 5;have st0:=st5 [] h5 (by simp) (Fr.refl F5.wf);have vlt:∀y∈vb vo,h3.next≤y∧y<hh.next:=by
    rcases G with⟨rfl,_⟩|⟨b,n,rfl,_,_,hb,o⟩
    ·simp[vb]
    ·have:=o.lt F.wf;simp only[vb,List.mem_singleton];rintro y rfl;exact⟨hb,this⟩
   have n5:=F5.next;simp only[evs,eff];refine Av (n0:=h3.next) F5.wf (Gs.frX G F5 (by simp)) (by omega) (by omega) (I.fr F.wf F5) st0.2 (fun X h' hX f=>(st5 X h' (fun y m=>by
    rcases hX y m with q|q
    ·omega
    ·exact(vlt y q).2) f).1) (by omega) (by omega) z5' ?_
   intro v' h6 G' I' F6 V';have on6:=F6.own _ _ (fun m=>by have:=vlt _ m;omega) on5;have v'1:v'.one=true:=(Gs.sl (n:=(s.app s5).len) G' (by rw[NT.cells_len]) (by omega)).one;simp only[evs,↓reduceIte,Nat.reduceEqDiff,eff,g7];refine ah (c':=[.int .u8 1,.str tg,.str ky,vA,.str [],v']) F6.wf on6 (by rw[aB v'1];rfl) (by rw[aB v'1];simp only[aD,aJ,v'1];rfl) (by rw[aB v'1];rfl) ?_;rintro h7 o7 F7 n7;have n6':=F6.next;have F07:Fr [] h1 h7:=Fr.new w1 (Fr.new w1 (F.then F5) F6 (fun y m=>by have:=vlt y m;omega)) F7 (fun y m=>by simp at m;omega);have G7:=Gs.frX G' F7 (fun y m=>by simp at m;omega);have I7:Inv v' h3.next h7 (s.app s5):=I'.frX F6.wf F7 (fun y m=>by simp at m;omega);have fh7:∀(X:List Nat)(h':Heap),Fr X h7 h'→Fr (vb vo++[h1.next]++X) hh h':=fun X h' f=>
    Fr.trans (Fr.trans (T:=vb vo++[h1.next]) (Fr.trans (T:=vb vo) F5 F6 F.wf (by simp) (fun y m=>.inl m)) F7 F.wf (fun y m=>.inl (List.mem_append.2 (.inl m))) (fun y m=>.inl (List.mem_append.2 (.inr m)))) f F.wf (fun y m=>.inl (List.mem_append.2 (.inl m))) (fun y m=>.inl (List.mem_append.2 (.inr m)))
   simp(disch:=omega) only[evs,↓reduceIte,Nat.reduceEqDiff,Nat.reduceAdd,DF,Nat.reduceSub,ai,g8,g3',u5,v6,w5,ih4,w55];refine(aj _ _ _).2 ⟨sub.len-(i+1),by omega,F07,i+1,s.app s5,v',(by simp[T.get_set]),(by simp[T.get_set,g7]),(by simp[T.get_set,g2]),(by simp[T.get_set,g3']),by omega,by omega,o7,fun X h' hX f=>SA _ h' (fun y m=>?_) (fh7 X h' f),G7,I7,?_,?_,rfl⟩
   ·rcases List.mem_append.1 m with m|m
    ·rcases List.mem_append.1 m with m|m
     ·exact .inr (vlt y m).1
     ·simp at m;omega
    ·exact hX y m
   ·rw[NT.app_sh,es5,ST.app_assoc,e3'];exact e
   ·rw[NT.app_len];omega
  ·have hlt':¬(i:Int)<sub.len:=by omega
   have w6:au hh h1.next 0 6=some [.int .u8 1,.str tg,.str ky,vA,.str [],vo]:=by rw[on.ld];rfl
   rw[PT.at_end _ _ (by omega)]at e;have e':s.sh=cG x sub:=by rw[←e];show _=s.sh.app .nil;rw[ST.app_nil]
   simp only[evs,↓reduceIte,Nat.reduceEqDiff,Nat.reduceAdd,Nat.reduceLT,g8,g7,g2,u5,rch.len,eq_false hlt',w6];refine k _ _ ⟨.cons 1 tg ky (sl.map (att x)) [] vA vo s .nil,by unfold jP;rw[if_pos rfl,←e'];rfl,F0.then (Fr.halloc F.wf _),Nat.le_of_ble_eq_true rfl,fun q=>absurd q (by simp[NT.len]),fun X h2' hX f=>?_⟩;have F9:=Fr.halloc F.wf [.int .u8 1,.str tg,.str ky,vA,.str [],vo];have o9:=Own.new F.wf [.int .u8 1,.str tg,.str ky,vA,.str [],vo];have f9:Fr X hh h2':=Fr.trans F9 f F.wf (by simp) (fun y m=>.inl m);refine⟨⟨by omega,SA X h2' (fun y m=>.inl (by have:=hX y m;omega)) f9,by simpa using na,?_,by omega,I X h2' (fun y m=>.inl (by have:=hX y m;omega)) f9,trivial⟩,Sl.lit (f.own _ _ (fun m=>by have:=hX _ m;have:=F0.next;omega) o9) rfl⟩;exact Gs.sl (n:=s.len) (Gs.frX G f9 (fun y m=>by have:=hX y m;omega)) s.cells_len (by omega)
abbrev hJ(z:Str):List V:=[.int .u8 2,.str [],.str [],.nils,.str z,.nils]
abbrev EC:List IStep:=[⟨none,.p (.build [.int .u8 0,.str [],.str [],.nils,.str [],.nils] [(0,1),(1,1),(2,1),(3,1),(5,1)]) [.c (.int .u8 1),.l 16,.l 11,.l 7,.l 0],none⟩,⟨none,.bs [.int .u8 0,.str [],.str [],.nils,.str [],.nils] [(0,6)] 1 [.l 0],none⟩,⟨none,.ap 6 104 (.l 20) (.l 0),none⟩,⟨none,.p .mv [.l 0],none⟩]
abbrev EE:List IStep:=[⟨none,.p .mv [.v 5],none⟩,⟨none,.p (.faddr 1) [.v 2],none⟩,⟨none,.ld 1 false (.l 0),none⟩,⟨none,.p (.faddr 3) [.v 3],none⟩,⟨none,.ld 1 false (.l 0),none⟩,⟨none,.p .mv [.v 6],none⟩,⟨none,.p (.ixs 1) [.l 1,.l 0],none⟩,⟨none,.ld 1 false (.l 0),none⟩,⟨none,.p (.faddr 3) [.v 2],none⟩,⟨none,.ld 1 false (.l 0),none⟩,⟨none,.ld 4 true (.v 3),none⟩,⟨none,.cf 241 [.l 1,.l 0],none⟩,⟨none,.p (.faddr 3) [.v 3],none⟩,⟨none,.ld 1 false (.l 0),none⟩,⟨none,.p .mv [.v 6],none⟩,⟨none,.p (.ixs 1) [.l 1,.l 0],none⟩,⟨none,.ld 1 false (.l 0),none⟩,⟨none,.p (.build [.int .u8 0,.str [],.str [],.nils,.str [],.nils] [(0,1),(4,1)]) [.c (.int .u8 2),.l 0],none⟩]
abbrev ED:IStep:=⟨none,.bs [.int .u8 0,.str [],.str [],.nils,.str [],.nils] [(0,6)] 1 [.l 0],none⟩
theorem Hi{env:T V}{h:Heap}{pb ib b3 o3:Nat}{i:Int}{v5 va vm:V}{tg mk:Str}{cs:List V}(g5:env.get 5=some v5)(g2:env.get 2=some (.ptr pb 0))(g3:env.get 3=some (.ptr ib 0))(g6:env.get 6=some (.int .i64 i))
 (l1:ab h pb 1=some (.str tg)) (l3:ab h ib 3=some vm) (ix:aP (.ixs 1) [vm,.int .i64 i]=some (.ptr b3 o3)) (lm:ab h b3 o3=some (.str mk)) (lp:ab h pb 3=some va) (l4:au h ib 0 4=some cs):
 lay go env [18] (EE++ED::EC) 0 [] h=some ((EE.map fun s=>(s,none))++(ED,some (.slice h.next 0 1 1,hJ mk))::(EC.map fun s=>(s,none)),halloc h (hJ mk)):=by
 have ev_mv:∀(loc:List V)(x:Opd)(v:V),evO loc env x=some v→aG go loc env h (.p .mv [x])=some (v,h):=fun loc x v e=>by
  simp only[aG,eV,cS,e,bZ,aP]
 have ev_fa:∀(loc:List V)(x k b:Nat),env.get x=some (.ptr b 0)→aG go loc env h (.p (.faddr k) [.v x])=some (.ptr b k,h):=fun loc x k b e=>by
  simp only[aG,eV,cS,gh,e,bZ,gz,Nat.zero_add]
 have ev_ld:∀(loc:List V)(b o:Nat)(v:V),ab h b o=some v→aG go (.ptr b o::loc) env h (.ld 1 false (.l 0))=some (v,h):=fun loc b o v e=>by
  simp only[aG,mj,bD,eF,e]
 have ev_ix:∀(loc:List V),aG go (.int .i64 i::vm::loc) env h (.p (.ixs 1) [.l 1,.l 0])=some (.ptr b3 o3,h):=fun loc=>by
  simp only[aG,eV,cS,mj,bD,bY,bZ,ix]
 have ev_l4:∀(loc:List V),aG go loc env h (.ld 4 true (.v 3))=some (.agg cs,h):=fun loc=>by
  simp only[aG,gh,g3,j3,l4];rfl
 have ev_b:∀(loc:List V),aG go (.str mk::loc) env h (.p (.build [.int .u8 0,.str [],.str [],.nils,.str [],.nils] [(0,1),(4,1)]) [.c (.int .u8 2),.l 0])=some (.agg (hJ mk),h):=fun loc=>rfl;simp only[List.cons_append,List.nil_append];rw[cH rfl rfl (ev_mv _ _ _ (by rw[gh];exact g5)),cH rfl rfl (ev_fa _ _ _ _ g2),cH rfl rfl (ev_ld _ _ _ _ l1),cH rfl rfl (ev_fa _ _ _ _ g3),cH rfl rfl (ev_ld _ _ _ _ l3),cH rfl rfl (ev_mv _ _ _ (by rw[gh];exact g6)),cH rfl rfl (ev_ix _),cH rfl rfl (ev_ld _ _ _ _ lm),
  cH rfl rfl (ev_fa _ _ _ _ g2),cH rfl rfl (ev_ld _ _ _ _ lp),cH rfl rfl (ev_l4 _),tR rfl rfl,cH rfl rfl (ev_fa _ _ _ _ g3),cH rfl rfl (ev_ld _ _ _ _ l3),cH rfl rfl (ev_mv _ _ _ (by rw[gh];exact g6)),cH rfl rfl (ev_ix _),cH rfl rfl (ev_ld _ _ _ _ lm),cH rfl rfl (ev_b _)]
 rw[wS (c:=hJ mk) (k:=some (1,1)) rfl rfl,kw _ _ _ _ (by omega)];rfl
theorem GN(loc:List V)(env:T V)(n:Nat)(z:Str):bH (.agg (hJ z)::loc) env (.bs [.int .u8 0,.str [],.str [],.nils,.str [],.nils] [(0,6)] 1 [.l 0]) (.slice n 0 1 1) (hJ z)=true:=by
 have e:fZ (.agg (hJ z)::loc) env (.bs [.int .u8 0,.str [],.str [],.nils,.str [],.nils] [(0,6)] 1 [.l 0])=some (hJ z,some (1,1)):=rfl;simp only[bH,e,lid,dC,dB,dm,Bool.and_self]
theorem Fi{h h1:Heap}{x:Itm}{tg ky tx:Str}{sl:List Slo}{va vc:V}{sub:PT}{env:T V}{pb ib:Nat}{Q:Ex→T V→Heap→Prop}(f0:Fr [] h h1)(a:ItmH h x)(hm:x.marks.length≤8)(n:PH h (.cons 5 tg ky sl tx va vc sub .nil))(g3':∀s∈sl,s.2.1≤3)
 (op:Own h1 pb [.int .u8 5,.str tg,.str ky,va,.str tx,vc]) (oi:Own h1 ib x.cells) (e2:env.get 2=some (.ptr pb 0)) (e3:env.get 3=some (.ptr ib 0))
 (k:∀u h' env',env'.get 4=some u→MDp h x 5 tg ky sl tx sub u h'→Q .ret env' h'):W go mdE env h1 Q:=by
 obtain⟨n1,ra,na,rc,nc,n6,_⟩:=n;have w1:=f0.wf;have fin:jP x 5 tg ky sl tx (cG x sub)=im tg (sl.map (att x)) x.marks:=rfl;simp only[evs,mdE];refine aE (fun n env hh=>Fr [] h1 hh∧∃(i:Nat)(s:NT)(vo:V),env.get 6=some (.int .i64 (i:Int))∧env.get 5=some vo∧env.get 2=some (.ptr pb 0)∧env.get 3=some (.ptr ib 0)∧i≤x.marks.length∧
  Gs hh h1.next 6 vo s.cells∧Inv vo h1.next hh s∧s.sh.app (im tg (sl.map (att x)) (x.marks.drop i))=im tg (sl.map (att x)) x.marks∧s.len=i∧n=x.marks.length-i) x.marks.length (by omega) ?_ ?_
 ·exact⟨Fr.refl w1,0,.nil,.nils,(by simp[T.get_set]),(by simp[T.get_set]),(by simp[T.get_set,e2]),(by simp[T.get_set,e3]),by omega,.inl ⟨rfl,rfl⟩,fun _ _ _ _=>trivial,rfl,rfl,rfl⟩
 ·rintro n' env hh ⟨F,i,s,vo,g6,g5,g2,g3,hi,G,I,e,sn,rfl⟩;have F0:=f0.then F;obtain⟨u0,u1,u2,u3,u4,u5,u6⟩:=(F.get op).at6;have i3:ab hh ib 3=some x.vm:=(F.get oi).ld1 3;have i4:au hh ib 0 4=some x.cells:=by rw[(F.get oi).ld];rfl
  have am:=a.m.fr F0;by_cases hlt:i<x.marks.length
  ·have hlt':(i:Int)<x.marks.length:=by omega
   obtain⟨b3,o3,mk,p1,p2,_,p4⟩:=am.ix gI .i64 (i:Int) (by omega) hlt';have p3:ab hh b3 o3=some (.str mk):=p2 0 (by omega);rw[Int.toNat_natCast]at p4;rw[aK p4]at e;simp only[evs,↓reduceIte,g6,g3,i3,am.len,hlt'];refine(zB _ _ _ _ _ _ _).2 ?_;refine⟨_,_,Hi (v5:=vo) (by simp[T.get_set,g5]) (by simp[T.get_set,g2]) (by simp[T.get_set,g3]) (by simp[T.get_set,g6]) u1 i3 p1 p3 u3 i4,?_⟩;have F2:=Fr.halloc F.wf (hJ mk);have o2:=Own.new F.wf (hJ mk);have n2:(halloc hh (hJ mk)).next=hh.next+1:=rfl;generalize halloc hh (hJ mk)=h2 at F2 o2 n2⊢;obtain⟨r0,r1,r2,r3,r4,r5,r6⟩:=(F2.get (F.get op)).at6;have i32:ab h2 ib 3=some x.vm:=(F2.get (F.get oi)).ld1 3;have i42:au h2 ib 0 4=some x.cells:=by rw[(F2.get (F.get oi)).ld];rfl
   have p32:ab h2 b3 o3=some (.str mk):=by
    obtain⟨b3',o3',mk',p1',p2',_,p4'⟩:=(am.fr F2).ix gI .i64 (i:Int) (by omega) hlt';rw[p1]at p1';cases p1';rw[Int.toNat_natCast,p4]at p4';cases p4';exact p2' 0 (by omega)
   simp only[evs,↓reduceIte,Nat.reduceEqDiff,eff,g6,g5,g2,g3,r1,r3,i32,i42,p1,p32];refine aa (qR F2.wf (a.fr (F0.then F2)) (ra.fr (F0.then F2)) na g3') ?_;rintro vA h3 ⟨GA,F3⟩;have vA1:vA.one=true:=(Gs.sl (n:=sl.length) GA (by rw[aF dG];simp) (by omega)).one;obtain⟨t0,t1,t2,t3,t4,t5,t6⟩:=(F3.get (F2.get (F.get op))).at6;have i33:ab h3 ib 3=some x.vm:=(F3.get (F2.get (F.get oi))).ld1 3;have p33:ab h3 b3 o3=some (.str mk):=by
    obtain⟨b3',o3',mk',p1',p2',_,p4'⟩:=(am.fr (F2.then F3)).ix gI .i64 (i:Int) (by omega) hlt';rw[p1]at p1';cases p1';rw[Int.toNat_natCast,p4]at p4';cases p4';exact p2' 0 (by omega)
   simp only[evs,↓reduceIte,Nat.reduceEqDiff,Nat.reduceAdd,Nat.reduceLT,eff,g6,g3,p1,i33,p33,de,GN,aB vA1];have n3:=F3.next;have n1':=F.next;have vlt:∀y∈vb vo,h1.next≤y∧y<hh.next:=by
    rcases G with⟨rfl,_⟩|⟨b,n,rfl,_,_,hb,o⟩
    ·simp[vb]
    ·have:=o.lt F.wf;simp only[vb,List.mem_singleton];rintro y rfl;exact⟨hb,this⟩
   have F23:=F2.then F3;have o3':=F3.get o2;refine i5 (k:=1) (n0:=h1.next) (B:=h1.next) (s:=s) (at':=sl.map (att x)) (sub:=.cons 2 [] [] [] mk .nils .nils .nil .nil) F3.wf (Gs.frX G F23 (by simp)) (by omega) (by omega) (I.fr F.wf F23) (fun X h' hX f=>?_) (by omega) ?_
   ·have lt:∀y∈X,y<hh.next:=fun y m=>by
     rcases hX y m with q|q
     ·omega
     ·exact(vlt y q).2
    refine⟨by omega,?_,by simpa using na,Sl.lit (f.own _ _ (fun m=>by have:=lt _ m;omega) o3') rfl,by simp[NT.len],jb 2 (by omega) [] mk,trivial⟩;exact Gs.sl (n:=(sl.map (att x)).length) (Gs.frX GA f (fun y m=>by have:=lt y m;omega)) (by rw[aF dG]) (by omega)
   intro v' h' G' I' F' V';have Fn:Fr [] h1 h':=Fr.new w1 (F.then F23) F' (fun y m=>(vlt y m).1);simp(disch:=omega) only[evs,↓reduceIte,Nat.reduceEqDiff,Nat.reduceAdd,DF,eff,Nat.reduceSub,ai,g6,g3,r1,r3,i32,i42,p32,t1,i33,p33];refine(aj _ _ _).2 ⟨x.marks.length-(i+1),by omega,Fn,i+1,_,v',(by simp[T.get_set]),(by simp[T.get_set]),(by simp[T.get_set,g2]),(by simp[T.get_set,g3]),by omega,G',I',?_,?_,rfl⟩
   ·rw[NT.app_sh,ST.app_assoc];exact e
   ·rw[NT.app_len,sn];rfl
  ·have hlt':¬(i:Int)<x.marks.length:=by omega
   rw[List.drop_of_length_le (by omega)]at e;have e':s.sh=im tg (sl.map (att x)) x.marks:=by rw[←e];show _=s.sh.app .nil;rw[ST.app_nil]
   simp only[evs,↓reduceIte,Nat.reduceEqDiff,g6,g5,g3,i3,am.len,eq_false hlt'];refine k vo _ _ (by simp[T.get_set]) ⟨s,by rw[fin,e'],F0,by omega,fun q=>?_,fun X h2 hX f=>⟨I X h2 (fun y m=>.inl (by have:=hX y m;have:=f0.next;omega)) f,Gs.sl (n:=s.len) (Gs.frX G f (fun y m=>by have:=hX y m;have:=f0.next;omega)) s.cells_len (by omega)⟩⟩;rcases G with⟨rfl,_⟩|⟨b,n,rfl,z,z2,_⟩
   ·rfl
   ·have:=s.cells_len;omega
theorem AJ{k:Nat}{tg ky tx:Str}{sl:List Slo}{va vc:V}{sub:PT}(M:MDs sub):MD k tg ky sl tx va vc sub:=by
 intro x h w a hm n g;have n0:=n;have g0:=g;obtain⟨k1,k5,g3,_⟩:=g;obtain⟨h1,e_h1⟩:∃h1,h1=halloc h [.int .u8 (k:Int),.str tg,.str ky,va,.str tx,vc]:=⟨_,rfl⟩;have F_h1:Fr [] h h1:=e_h1▸Fr.halloc w _;have o_h1:Own h1 h.next [.int .u8 (k:Int),.str tg,.str ky,va,.str tx,vc]:=e_h1▸Own.new w _;obtain⟨h2,e_h2⟩:∃h2,h2=halloc h1 x.cells:=⟨_,rfl⟩;have F_h2:Fr [] h1 h2:=e_h2▸Fr.halloc F_h1.wf _;have o_h2:Own h2 h1.next x.cells:=e_h2▸Own.new F_h1.wf _;have F02:=F_h1.then F_h2;have op:=F_h2.get o_h1;have l0:ab h2 h.next 0=some (.int .u8 (k:Int)):=op.ld1 0;have l4:ab h2 h.next 4=some (.str tx):=op.ld1 4;have x0:ab h2 h1.next 0=some (.int .u64 (x.key:Int)):=o_h2.ld1 0;have x2:ab h2 h1.next 2=some (.str x.text):=o_h2.ld1 2;have ks:k=1∨k=2∨k=3∨k=4∨k=5:=by omega
 refine ag g187x rfl ?_;rcases ks with e|e|e|e|e
 ·simp only[evs,↓reduceIte,Nat.reduceEqDiff,Nat.reduceAdd,fn187x,←e_h1,←e_h2,l0,show¬(k:Int)=2 by omega,show¬(k:Int)=3 by omega,show¬(k:Int)=4 by omega,show¬(k:Int)=5 by omega];subst e;exact Fg M F02 a hm n0 g0 op o_h2 (by simp[T.get_set]) (by simp[T.get_set]) fun u h' r=>r
 ·simp only[evs,↓reduceIte,Nat.reduceEqDiff,Nat.reduceAdd,Nat.reduceLT,fn187x,←e_h1,←e_h2,l0,eq_true (show(k:Int)=2 by omega),l4];exact rW F02 (by subst e;rfl)
 ·simp only[evs,↓reduceIte,Nat.reduceEqDiff,Nat.reduceAdd,Nat.reduceLT,fn187x,←e_h1,←e_h2,l0,show¬(k:Int)=2 by omega,eq_true (show(k:Int)=3 by omega),x2];exact rW F02 (by subst e;rfl)
 ·simp only[evs,↓reduceIte,Nat.reduceEqDiff,Nat.reduceAdd,fn187x,←e_h1,←e_h2,l0,show¬(k:Int)=2 by omega,show¬(k:Int)=3 by omega,eq_true (show(k:Int)=4 by omega),x0];refine aa (kJ (x.key+1) x.key (by omega) a.k) ?_;rintro _ _ ⟨rfl,rfl⟩;simp only[evs,↓reduceIte,Nat.reduceAdd,Nat.reduceLT];exact rW F02 (by subst e;rfl)
 ·simp only[evs,↓reduceIte,Nat.reduceEqDiff,Nat.reduceAdd,fn187x,←e_h1,←e_h2,l0,show¬(k:Int)=2 by omega,show¬(k:Int)=3 by omega,show¬(k:Int)=4 by omega,eq_true (show(k:Int)=5 by omega)];subst e;refine Fi F02 a hm n0 g3 op o_h2 (by simp[T.get_set]) (by simp[T.get_set]) fun u h' env' q r=>?_;simp only[evs,q];exact r
theorem E9:∀t:PT,MDs t
 |.nil=>trivial
 |.cons _ _ _ _ _ _ _ sub nx=>⟨AJ (E9 sub),E9 nx⟩
theorem Es{h:Heap}{vc:V}{sub:NT}(sl:Sl h 6 vc sub.len sub.cells){i:Nat}(hi:i<sub.len):∃b o ky,aP (.ixs 6) [vc,.int .i64 (i:Int)]=some (.ptr b o)∧ab h b (o+2)=some (.str ky)∧sub.keys[i]? =some ky∧sub.keys.drop i=ky::sub.keys.drop (i+1):=by
 obtain⟨kd,tg2,ky2,at2,tx2,va2,vc2,sub2,nx,e1,e2,e3,e4,e5,_⟩:=sub.split i hi;obtain⟨b,o,p1,p2⟩:=Sl.ix6 sl hi e2;exact⟨b,o,ky2,p1,p2.2.2.1,e5,aK e5⟩
def KX(l:List Str):Prop:=∀(i j:Nat)(q r:Str),j<i→l[i]? =some q→l[j]? =some r→q=[]∨r≠q
theorem KX.ok'{l:List Str}(h:KX l):∀(n i:Nat),i+n=l.length→eS (l.take i) (l.drop i)=true
 |0,i,e=>by rw[List.drop_of_length_le (by omega)];rfl
 |n+1,i,e=>by
  have hi:i<l.length:=by omega
  have g:=List.getElem?_eq_getElem hi;rw[List.drop_eq_getElem_cons hi,l9,Bool.and_eq_true];refine⟨?_,?_⟩
  ·by_cases z:l[i]=[]
   ·simp[z]
   ·rw[Bool.or_eq_true];right;simp only[Bool.not_eq_true',List.any_eq_false,beq_iff_eq];intro q m e';obtain⟨j,hj,rfl⟩:=List.getElem_of_mem m;have hj':j<i:=by simp at hj;omega
    have gj:l[j]? =some (l.take i)[j]:=by rw[List.getElem_take];exact List.getElem?_eq_getElem (by omega)
    rcases h i j _ _ hj' g gj with w|w
    ·exact z w
    ·exact w e'
  ·have:=KX.ok' h n (i+1) (by omega);rwa[List.take_add_one,g]at this
theorem KX.ok{l:List Str}(h:KX l):eS [] l=true:=by simpa using KX.ok' h l.length 0 (by omega)
theorem E6{h:Heap}{vc:V}{sub:NT}{env:T V}{pb:Nat}{R:V→Heap→Prop}(l5:ab h pb 5=some vc)(sl:Sl h 6 vc sub.len sub.cells)(nl:sub.len≤4096)(e1:env.get 1=some (.ptr pb 0))
 (k:∀b,(b=true↔KX sub.keys)→R (.bool b) h):W go noC env h (iT [.t 2] R):=by
 have kl:=sub.keys_len;simp only[evs,noC];refine aE (fun n env hh=>hh=h∧∃(i:Nat),env.get 5=some (.int .i64 (i:Int))∧env.get 1=some (.ptr pb 0)∧i≤sub.len∧(∀(i' j:Nat)(q r:Str),i'<i→j<i'→sub.keys[i']? =some q→sub.keys[j]? =some r→q=[]∨r≠q)∧n=sub.len-i) sub.len (by omega) ?_ ?_
 ·exact⟨rfl,0,(by simp[T.get_set]),(by simp[T.get_set,e1]),by omega,fun _ _ _ _ z=>by omega,rfl⟩
 ·rintro n env hh ⟨rfl,i,g5,g1,hi,P,rfl⟩;by_cases hlt:i<sub.len
  ·have hlt':(i:Int)<sub.len:=by omega
   obtain⟨b,o,ky,p1,p2,p3,p4⟩:=Es sl hlt;simp only[evs,↓reduceIte,g5,g1,l5,sl.len,hlt'];refine aE (fun n env h2=>h2=hh∧∃(j:Nat),env.get 6=some (.int .i64 (j:Int))∧env.get 5=some (.int .i64 (i:Int))∧env.get 1=some (.ptr pb 0)∧j≤i∧(∀(j':Nat)(r:Str),j'<j→sub.keys[j']? =some r→ky=[]∨r≠ky)∧n=i-j) i (by omega) ?_ ?_
   ·exact⟨rfl,0,(by simp[T.get_set]),(by simp[T.get_set,g5]),(by simp[T.get_set,g1]),by omega,fun _ _ z=>by omega,rfl⟩
   ·rintro n' env' h2 ⟨rfl,j,g6,g5,g1,hj,Q,rfl⟩;by_cases jlt:j<i
    ·have jlt':(j:Int)<i:=by omega
     obtain⟨b',o',ky',p1',p2',p3',p4'⟩:=Es sl (show j<sub.len by omega);have step:(ky=[]∨ky'≠ky)→∀(j':Nat)(r:Str),j'<j+1→sub.keys[j']? =some r→ky=[]∨r≠ky:=by
      intro z j' r hj' e;rcases Nat.lt_or_ge j' j with q|q
      ·exact Q j' r q e
      ·have:j'=j:=by omega
       subst this;rw[p3']at e;cases e;exact z
     cases c1:ky==[]
     ·cases c2:ky==ky'
      ·simp(disch:=omega) only[evs,↓reduceIte,Nat.reduceEqDiff,Nat.reduceAdd,DF,eff,Nat.reduceSub,ai,g6,g5,g1,l5,p1,p2,p1',p2',jlt',aR,aI,c1,c2];refine(aj _ _ _).2 ⟨i-(j+1),by omega,rfl,j+1,(by simp[T.get_set]),(by simp[T.get_set,g5]),(by simp[T.get_set,g1]),by omega,step (.inr (by rintro rfl;simp at c2)),rfl⟩
      ·simp only[evs,↓reduceIte,Nat.reduceEqDiff,Nat.reduceAdd,DF,eff,Nat.reduceSub,g6,g5,g1,l5,p1,p2,p1',p2',jlt',aR,aI,c1,c2];refine k false ⟨fun e=>(by cases e),fun K=>?_⟩;rcases K i j ky ky' jlt p3 p3' with z|z
       ·rw[z]at c1;cases c1
       ·exact absurd (by simpa using c2) (Ne.symm z)
     ·simp(disch:=omega) only[evs,↓reduceIte,Nat.reduceEqDiff,Nat.reduceAdd,DF,eff,Nat.reduceSub,ai,g6,g5,g1,l5,p1,p2,jlt',aR,c1];refine(aj _ _ _).2 ⟨i-(j+1),by omega,rfl,j+1,(by simp[T.get_set]),(by simp[T.get_set,g5]),(by simp[T.get_set,g1]),by omega,step (.inl (by simpa using c1)),rfl⟩
    ·have:j=i:=by omega
     subst this;have jlt':¬(j:Int)<j:=by omega
     simp(disch:=omega) only[evs,↓reduceIte,Nat.reduceEqDiff,ai,g6,g5,eq_false jlt'];refine(aj _ _ _).2 ⟨sub.len-(j+1),by omega,rfl,j+1,(by simp[T.get_set]),(by simp[T.get_set,g1]),by omega,fun i' j' q r hi' hj' e e2=>?_,rfl⟩;rcases Nat.lt_or_ge i' j with z|z
     ·exact P i' j' q r z hj' e e2
     ·have:i'=j:=by omega
      subst this;rw[p3]at e;cases e;exact Q j' r hj' e2
  ·have hlt':¬(i:Int)<sub.len:=by omega
   simp only[evs,↓reduceIte,g5,g1,l5,sl.len,eq_false hlt'];refine k true ⟨fun _ i' j q r hj e e2=>P i' j q r ?_ hj e e2,fun _=>rfl⟩;have:=(List.getElem?_eq_some_iff.1 e).1;omega
end Go.Ev.Lay
