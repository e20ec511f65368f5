/- An evaluator of the program, and contracts over it: EvA to EvL. -/
import GoSem.Step
import Derived.Orders
import Derived.Laws.Rows
import Derived.Laws.Cells
import Derived.Laws.Sem
import Derived.Laws.Tables
set_option linter.unusedSimpArgs false
set_option linter.unusedVariables false
set_option linter.constructorNameAsVariable false
set_option linter.unnecessarySimpa false
theorem ya{p:Prop}(h:p:=by
  by_cases cT:x.Tl.length=0
  ·simp(disch:=omega) only[evs,seval,fwrap_i64,x4 FX,xhX.t.r.len,eq_false (oM:¬(0:Int)<(x.Tl.length:Int)),g7];refine rqn ⟨Xs.length-(i+1),oM,Fm.then (Fm5.then FX),i+1,iS,?_,iX,oM,rfl⟩;have e:O0++(Xs.take (i+1)).flatMap evT=C:=by
    rw[tk,<-QE,<-hO,evT,<-hW,if_pos cT];simp only[*,↓reduceIte,Nat.reduceEqDiff,QE,Rq]
   rw[e];simp
  ·obtain⟨D0,t0,y0,z0⟩:=sbx C [104,101,105,103,104,116,115,32];obtain⟨D1,t1,y1,z1⟩:=sbx D0 (dec x.Tl.length);obtain⟨D2,t2,y2,z2⟩:=sbx D1 [10];obtain⟨D3,t3,y3,z3⟩:=sbx D2 (x.Tl.flatMap htL);simp only[evs,seval,eff,x4 FX,xhX.t.r.len,eq_true (oM:(0:Int)<(x.Tl.length:Int)),fT,z0];refine dm (dU (x.Tl.length+1) x.Tl.length oM oM) ?_;simp only[evs,seval,eff,x4 FX,z1,z2];refine aN (jw FX.wf xhX.t) fun h9 F9=>?_;simp(disch:=omega) only[evs,seval,DF,eff,fwrap_i64,x4 FX,z3,g7];refine rqn ⟨Xs.length-(i+1),oM,Fm.then (Fm5.then (FX.then F9)),i+1,iS,?_,iX,oM,rfl⟩;have e:O0++(Xs.take (i+1)).flatMap evT=D3:=by
    rw[tk,<-QE,<-hO,evT,<-hW,if_neg cT];simp only[*,↓reduceIte,Nat.reduceEqDiff,QE]
   rw[e];simp):p:=h
theorem yb{p:Prop}(h:p:=by
  simp(maxSteps:=1000000) (disch:=omega) only[evs,seval,L5 oX rfl];refine ac fX.wf ((X3 fX).get o_h3) rfl (by first|(simp only[V.cells,af,ag,t1];rfl)|(simp only[V.cells,af,ag,t1,v1];rfl)) rfl ?_;rintro hy oy Fy ny;have lz:=L5' oy rfl;simp(maxSteps:=1000000) (disch:=omega) only[evs,seval,lz];obtain⟨f1,f2⟩:=fin fX sX Fy;refine⟨f1,_,?_,f2⟩;rfl):p:=h
theorem yc{p:Prop}(h:p:=by
  exact no F_h1 (by rintro(⟨h1,h2,h3,h4,h5,h6⟩|⟨h1,h2,h3,h4,h5,h6,h7⟩)<;>first|omega|simp_all)):p:=h
theorem yd{p:Prop}(h:p:=by
  have w1:IntKind.i64.wrap (Int.ofNat l)=(l:Int):=jr oM;have w2:=jr h2;have hcond:¬((decide ((c:Int)<0)||decide ((i.bytes:Int) *(c:Int)>2^48)||decide ((l:Int)<0)||decide ((l:Int)>(c:Int)))=true):=by grind
  have hnr:=fun X=>cY (P:=P) (w:=w) X e;simp only[execOp,hy,e'.1,e'.2,rx,ry,Instr.makeSlice,asInt,asIntOf,Qz,QL,Qr,aL hu,eJ hinf,w1,w2];rw[if_neg (by simpa[Bool.or_assoc]using hcond)];simp only[Qz,run_askRoom,Qr,cH hsz,so];by_cases hc0:c*zero.length=0
  ·rw[if_pos hc0];simp only[Qz,Qr,QL,hnr];have e1:∀zz:Array Value,(Array.range (c*zero.length)).map (fun i=>zz[i%zz.size]!)= #[]:=fun zz=>by rw[hc0];simp
   have e2:∀zz:Array Value,(Array.range (c*z.cells.toList.length)).map (fun i=>zz[i%zz.size]!)= #[]:=fun zz=>by rw[hzl];exact e1 zz
   rw[e1,e2]
  ·rw[if_neg hc0];simp only[Qz,hzz,Qr,QL,hnr];rw[hzl]):p:=h
theorem ye{p:Prop}(h:p:=by
  refine ac F_h1.wf o_h1 rfl rfl rfl ?_;rintro h2 o2 F2 n2;have l2:=o2.la 4
  simp only[evs,seval,l2];exact⟨fin o2 F2,_,_,_,_,rfl⟩):p:=h
theorem yf{p:Prop}(h:p:=by
  refine ac F_h1.wf o_h1 rfl rfl rfl ?_;rintro h2 o2 F2 n2;have l2:=o2.la 4
  simp[evs,l2];exact⟨fin o2 F2,by simp[us4, *]⟩):p:=h
theorem yg{p:Prop}(h:p:=by
  refine rest _ _ (Qw F.wf) (by simp[FT,e]) fun v' h' g f=>?_;simp(disch:=omega) only[evs,seval,fwrap_i64,g6];refine rqn ⟨l.length-(i+1),oM,f,i+1,v',iS,iS,iX,iX,oM,g,rfl⟩):p:=h
theorem yh{p:Prop}(h:p:=by
  have hbk:lp.block≠loc.block:=by
   intro q;obtain⟨_,_,_,_,_,ha,_⟩:=H.sep p b lp loc hp hm q h2;rw[hgp]at ha;cases ha
  exact relp.mono hle (fun _ _ _ q=>by cases q) (by rcases hcase with⟨_,hk⟩|⟨_,_,hk,_⟩<;>exact hk _ (by assumption))):p:=h
theorem yi{p:Prop}(h:p:=by
  refine ae (vX F.wf (k.fr Fx) a') ?_;rintro _ h2 ⟨F2,q,rfl⟩;by_cases d3:(j:Int)=q
  ·simp only[evs,seval,g16,g15,eq_true d3];refine put F2 ?_;rintro u' h6 F6 G6;simp(disch:=omega) only[evs,seval,fwrap_i64,g16];refine rqn ⟨E.length-(j+1),oM,F6,j+1,u',A++[j],iS,iS,iX,iX,iX,iX,iX,oM,G6,hA',by simp;omega,rfl⟩
  ·simp(disch:=omega) only[evs,seval,fwrap_i64,g16,eq_false d3];refine rqn ⟨E.length-(j+1),oM,F.then F2,j+1,u,A,iS,iX,iX,iX,iX,iX,iX,oM,G.fr F2,hA,oM,rfl⟩):p:=h
theorem yj{p:Prop}(h:p:=by
  simp(disch:=omega) only[evs,seval,fwrap_i64,g8];rw[c]at e;refine rqn ⟨L.length-(i+1),oM,F.then F1,i+1,iS,iX,iX,iX,oM,by simpa using e,rfl⟩
  done):p:=h
theorem yk{p:Prop}(h:p:=by
  refine aN (oU F_h1.wf (ra.fr F_h1) na) fun h2 F2=>?_;have m4:=(F2.get o_h1).l1 4;have m5:=(F2.get o_h1).l1 5;have lc2:=(rc.fr (F_h1.then F2)).len;cases c4:bU sl
  ·simp only[evs,seval];exact⟨rfl,F_h1.then F2⟩
  cases c5:tx==[]
  ·simp only[evs,seval,m4,aQ,c5];exact⟨rfl,F_h1.then F2⟩
  simp only[evs,seval,m4,m5,aQ,c5,lc2];exact⟨by simp[(iR:((16:Nat):Int)=16),<-HS],F_h1.then F2⟩):p:=h
theorem yl{p:Prop}(h:p:=by
  obtain⟨n,rfl⟩:∃n:Nat,i=n:=⟨i.toNat,oM⟩;have:Nat.blt n len=true:=by simp only[QJ];omega
  simp only[aP,lD];show Option.map _ (bif Nat.blt n len then some n else none)=_;rw[this];rfl):p:=h
theorem ym{p:Prop}(h:p:=by
  cases evO loc env x with
  |none=>simp
  |some b=>
   cases b with
   |bool b=>
    have hb:(!(xor b want))=decide (b=want):=by grind
    simp only[hb];by_cases hw:b=want
    ·simp only[hw,decide_true];cases aM call loc env h o with
     |none=>simp
     |some r=>obtain⟨v,h'⟩:=r;simp[iN,fO,and_assoc]
    ·simp only[hw,decide_false];simp[hw,iN,fO]
   |tup t=>simp[iN,fO]
   |_=>simp):p:=h
theorem yn{p:Prop}(h:p:=by
  refine stu F3.wf o23 ?_;rintro h4 o4 F4 n4;have l48:=o4.la 8
  simp only[evs,seval,l48];exact⟨F03.fresh F4 w oM,.inl iS⟩):p:=h
theorem yo{p:Prop}(h:p:=by
  refine stu F_h1.wf o_h1 ?_;rintro h2 o2 F2 n2;simp only[evs,seval,fin o2];exact⟨F_h1.fresh F2 wf (pi _),0,_,_,rfl⟩):p:=h
theorem yp{p:Prop}(h:p:=by
  simp only[IntKind.wrap,IntKind.bits,IntKind.signed];simp;omega):p:=h
theorem yq{p:Prop}(h:p:=by
  apply CS
  ·rcases D ((x.k:Int)=1)with e1|e1<;>rcases D ((x.k:Int)=2)with e2|e2<;>rcases D ((x.k:Int)=4)with e3|e3<;>rcases D ((x.k:Int)=7)with e4|e4;all_goals try (exfalso;simp only[eq_iff_iff,iff_true,iff_false]at e1 e2 e3 e4;omega)
   all_goals
    intro pass;simp only[evs,seval,l0,k1,k7,e1,e2,e3,e4];exact pass):p:=h
theorem yr{p:Prop}(h:p:=by
  rintro h' o' g' F';simp only[evs];exact K _ _ _ iX o' g' (Fx.fresh F' wX oM) (.inl (by show 0<=_;omega))):p:=h
theorem ys{p:Prop}(h:p:=by
  have q:(node k tg ky at' tx sub sub.walk l c).1<=65/\((node k tg ky at' tx sub sub.walk l c).2=true->(node k tg ky at' tx sub sub.walk l c).1<=64):=by
   unfold node;split
   ·grind
   ·rename_i x;exact jt sub (l+1) (c+1) oM
  simp only[walk];split
  ·rename_i x;exact jt nx l _ (q.2 x)
  ·exact q):p:=h
theorem yt{p:Prop}(h:p:=by
  simp only[evs,seval,g8,g7,(oM:¬(i:Int)<L.length)];rw[QF oM]at e;exact⟨-1,rfl,by rw[<-e];rfl,F⟩):p:=h
theorem yu{p:Prop}(h:p:=by
  have hi:i.toNat<L.length:=oM
  have e3:L[i.toNat]? =some L[i.toNat]:=by simp[hi]
  have ed:=Ry hi;refine⟨b,o,L[i.toNat],e,fun j hj=>?_,?_,e3⟩
  ·rw[g j hj,<-Rl,dE hf,ed,QT,Sk (by rw[hf];exact hj)]
  ·rw[g2,dE hf,ed,QT];have:=hf L[i.toNat];rw[List.take_append,Qs oM,this];simp):p:=h
theorem yv{p:Prop}(h:p:=by
  simp(disch:=omega)[evs,fwrap_i64,g3,g0,aG,hlt',bZ hlt,eq_false c2,eq_false c3];have b0:gZ ((z[i]).toNat:Int)=false:=by simp only[gZ,Bool.or_eq_false_iff,decide_eq_false_iff_not];exact⟨c2,c3⟩
  rw[b0,SR]at e;refine rqn ⟨z.length-(i+1),oM,rfl,i+1,iS,iX,oM,e,rfl⟩):p:=h
theorem yw{p:Prop}(h:p:=by
  have q:args.map a.eval=List.toArray (args.toList.map a.eval):=SY iS;simp only[execOp,hy,resolve,Act.eval,Deferred.ofValue,Qz,QL,Qr,invoke];rw[show((#[]:Array Value)++args.map a.eval++(#[]:Array Value))=List.toArray (args.toList.map a.eval) by simp[q]];exact gF hf):p:=h
theorem yx{p:Prop}(h:p:=by
  intro v' h9 g' I' F' y';simp only[evs];refine rqn ⟨11-(i+1),oM,Ru wf (F) F' (fun z q=>G.vb z q),(i+1),v',_,iS,iS,iX,iX,oM,oM,g',I',by rw[TN];simp only[PT.len];omega,by rw[PT.nd_app];simp only[PT.nd];omega,PT.vl_app vl (PT.vl_one oM (rfl) trivial),rfl⟩):p:=h
theorem yy{p:Prop}(h:p:=by
  refine eP w F G oM on ?_;rintro u' h6 F6 G6;simp(disch:=omega) only[evs,seval,fwrap_i64,g9];refine rqn ⟨E.length-(i+1),oM,F6,i+1,u',O++[e],iS,iS,iX,iX,iX,oM,G6,?_,by simp;omega,rfl⟩;intro z m;rcases Qp.1 m with m|m
  ·exact oe z m
  ·grind):p:=h
theorem yz{p:Prop}(h:p:=by
  cases hn:lD i len with
  |none=>rw[hn]at h;cases h
  |some r=>
   rw[hn]at h;cases h;obtain⟨x,y,e,rx,ry⟩:=bR hv;obtain⟨loc,hm,_⟩:=rx;exact JI hm hc hv (fun x hx=>by obtain⟨l2,h2,_,rfl⟩:=hx;rw[hm]at h2;cases h2;exact⟨_,rfl⟩) hn):p:=h
theorem yA{p:Prop}(h:p:=by
  obtain⟨k,tg,ky,at',tx,va,vc,sub,n,e1,e2,e3,e4,e5,e6⟩:=split nx i (by simp[len]at h;omega);refine⟨k,tg,ky,at',tx,va,vc,sub,n,e1,?_,e3,e4,?_,by simp only[len];omega⟩
  ·rw[(oM:(i+1) *6=6+i*6),<-RC];exact e2
  ·simpa[keys]using e5):p:=h
theorem yB{p:Prop}(h:p:=by
  refine⟨n,fun m hm=>?_⟩;have a:=hn m hm;simp only[]at a;rw[a];cases e with
  |norm=>exact absurd x (h2 env' h')
  |_=>rfl):p:=h
theorem yC{p:Prop}(h:p:=by
  simp only[aM,OQ,Cl];cases evO loc env x with
  |none=>simp
  |some l=>cases evO loc env y with
   |none=>simp
   |some c=>simp):p:=h
theorem yD{p:Prop}(h:p:=by
  refine stu F_h2.wf o_h2 ?_;rintro h3 o3 F3 n3;simp only[evs,seval,g6,fin o3];exact⟨F02.fresh F3 wf oM,_,_,rfl⟩):p:=h
theorem yE{p:Prop}(h:p:=by
  exact⟨by show(h.bl.set _ _).get p=none;rw[Qu _ _ oM];exact this.1,this.2⟩):p:=h
theorem yF{p:Prop}(h:p:=by
  refine stu F_h2.wf o_h2 ?_;rintro h3 o3 F3 n3;simp only[evs,seval,fin o3];exact⟨F02.fresh F3 wf oM,_,_,rfl⟩):p:=h
theorem yG{p:Prop}(h:p:=by
  obtain⟨Z0,hZ0,f⟩:=f;have n:=f.next;intro Z h2 hZ f2;refine s (Z0++Z) h2 (fun z m=>?_) (Qx f f2 w (fun x m=>.inl (Qp.2 (.inl m))) (fun x m=>.inl (Qp.2 (.inr m))));rcases Qp.1 m with m|m
  ·exact hZ0 z m
  ·grind):p:=h
theorem yH{p:Prop}(h:p:=by
  simp[Builtin.firstCells,loadCells,loadCellsFrom]):p:=h
theorem yI{p:Prop}(h:p:=by
  refine aa ?_;simp only[evs,seval,l7,elen,r,eq_true (oM:(Xs.length:Int)=0)];exact⟨[],iS,Qw w,.inl rfl⟩):p:=h
theorem yJ{p:Prop}(h:p:=by
  simp only[evs,seval];rw[c]at e;exact⟨i,rfl,by rw[<-e];simp,F.then F1⟩):p:=h
theorem yK{p:Prop}(h:p:=by
  intro e;obtain⟨cp',cq',f',kp',kq',ha,hb2,_⟩:=H.sep p b lp loc hp hm e hpb;rw[hgp]at ha;cases ha):p:=h
theorem yL{p:Prop}(h:p:=by
  refine⟨C,el,fz,?_,a2,a3,fun i v hi=>let⟨x,hx,rx⟩:=a4 i v hi;⟨x,hx,VRel.mono hle _ _ rx⟩,a5⟩;rw[<-hC];rcases hcase with⟨_,hk⟩|⟨_,_,hk,_⟩<;>exact hk _ (by assumption)):p:=h
theorem yM{p:Prop}(h:p:=by
  intro z m;rcases Qp.1 m with m|m
  ·exact oe z m
  ·simp at m;subst m;exact(ev z em).up w F_h1):p:=h
theorem yN{p:Prop}(h:p:=by
  rcases g with z|⟨b,n,z1,z2,z3,z4,o⟩
  ·exact .inl z
  ·exact .inr ⟨b,n,z1,z2,z3,oM,o⟩):p:=h
theorem yO{p:Prop}(h:p:=by
  obtain⟨j',h1,h2⟩:=jZ js t s h;exact⟨j',by simp[h1],h2⟩):p:=h
theorem yP{p:Prop}(h:p:=by
  obtain⟨u,hb,ha,a1,a2,a3,a4,a5⟩:=l3 i t (eV hi);refine⟨u,hb,ha,by simpa using a1,?_,by simpa using a3,fun q=>?_,a5⟩
  ·simpa[fP,he]using a2
  ·simpa[fP,he]using a4 q):p:=h
theorem yQ{p:Prop}(h:p:=by
  exact⟨(Tt (F07) Fy wf oM).fresh Fz wf oM,m,_,_,_,_,_,rfl,rfl,fin2 (a7) w7 Fy Fz,oM⟩):p:=h
theorem yR{p:Prop}(h:p:=by
  exact⟨Qw w,0,iS,iS,iS,iS,oM,rfl,rfl⟩):p:=h
theorem yS{p:Prop}(h:p:=by
  exact⟨by simp[cfB];omega,F_h1⟩):p:=h
theorem yT{p:Prop}(h:p:=by
  simp only[evs,seval];refine ae (fG a ok) ?_;rintro _ _ ⟨rfl,rfl|rfl⟩
  ·simp only[evs,seval];exact⟨_,rfl,oM⟩
  ·simp only[evs,seval];exact⟨_,rfl,oM⟩):p:=h
theorem yU{p:Prop}(h:p:=by
  cases hs;simp only[VRel]at rx;subst rx;exact Dt H hy e' (y:=.pointer none) (by simp[convert,run_underlying h1,run_underlying h2,Conv.unsafePointer]) rfl):p:=h
theorem yV{p:Prop}(h:p:=by
  exact⟨hl,.inl ⟨rfl,.inl rfl⟩⟩):p:=h
theorem yW{p:Prop}(h:p:=by
  exact hc.1
  have:a.tmps[d]? =some (.bool c):=by
   rw[Rh,QK hlt]at hr;rw[QK hlt];simpa using hr
  simp only[yielded,hd,QX,this];cases c<;>cases want<;>rfl):p:=h
theorem yX{p:Prop}(h:p:=by
  exact hc.1
  have:a.tmps[d]? =some (.tuple c'.toArray):=by
   rw[Rh,QK hlt]at hr;rw[QK hlt];simpa using hr
  simp only[yielded,hd,QX,this];cases want<;>rfl):p:=h
theorem yY{p:Prop}(h:p:=by
  intro b o c hc hlen e;subst e;constructor
  ·intro j hj;rw[hc.ld1,fq,Sc,if_pos oM,Rl];congr 1;omega
  ·rw[hc.ld,bA,aU _ _ oO,Ta,RC,Tc];congr 2;omega):p:=h
theorem yZ{p:Prop}(h:p:=by
  refine Qx F f2 w (fun x hx=>.inl iX) (fun x hx=>?_);rcases hX x hx with q|q
  ·grind
  ·rw[e']at q;simp at q;exact .inr (by subst q;exact F1.next)):p:=h
theorem y0{p:Prop}(h:p:=by
  rw[ev];refine jU aZ ?_ (by rw[hYs];rfl);have:(x'::rs).flatMap Evt.cells=Xs.flatMap Evt.cells:=by rw[hYs,hx'];rfl
  rw[this];exact F.own _ _ oO oE):p:=h
theorem y1{p:Prop}(h:p:=by
  refine ae (vO false) ?_;rintro _ _ ⟨rfl,rfl⟩;simp only[evs,seval];simp):p:=h
theorem y2{p:Prop}(h:p:=by
  intro p loc hp hn;by_cases e:p=h.next
  ·subst e;rw[aC]at hp;cases hp;exact⟨pi _,.inl (pi _)⟩
  ·rw[aK _ _ e]at hp;rw[hp]at hn;cases hn):p:=h
theorem y3{p:Prop}(h:p:=by
  rintro h' o' g' F';simp only[evs];exact K _ _ _ iX o' g' ((FX.then F0u).fresh F' wX oM) (.inl (by show(O++[_]).length<=_;simp;omega))):p:=h
theorem y4{p:Prop}(h:p:=by
  exact⟨(Tt (F07.then F8) Fy wf oM).fresh Fz wf oM,m,_,_,_,_,_,rfl,rfl,fin2 (a7.step w7 F8 iS (fun z q=>.inl q)) F8.wf Fy Fz,oM⟩):p:=h
theorem y5{p:Prop}(h:p:=by
  rename_i b k q1 q2;obtain⟨loc,hm,_,hx⟩:=rx;rw[hx]at hdx;simp only[Value.slice.injEq]at hdx;exact fin b k loc hm hdx.1.symm hs):p:=h
theorem y6{p:Prop}(h:p:=by
  intro xs hxs;have q:args.map ρ=List.toArray xs:=SY iX;simp only[execOp,hy,resolve,hρ,Deferred.ofValue,Qz,QL,Qr,invoke];simp[q]):p:=h
theorem y7{p:Prop}(h:p:=by
  exact⟨F0,Xs,G.le (by have:=F05.next;omega),oM,fun x mx=>(sX x mx).step w (Qw (S:=[]) w) iS (fun z q=>.inl (.inl (.inl q)))⟩):p:=h
theorem y8{p:Prop}(h:p:=by
  have hX':∀x∈vb vo++X.filter (fun x=>decide (x<n0)),x<n0\/x∈vb vo:=by grind
  exact NH.app (I _ h2 hX' f3) (N _ h2 hX' f3)):p:=h
theorem y9{p:Prop}(h:p:=by
  rcases G with⟨rfl,_⟩|⟨b,n,rfl,_,_,hb,o⟩
  ·simp[vb]
  ·have:=o.lt F.wf;simp only[vb,RF];rintro y rfl;exact⟨hb,this⟩):p:=h
theorem yaa{p:Prop}(h:p:=by
  rintro _ h4 ⟨F4,u',t',O,rfl,a1,a2,a3⟩;simp only[evs,seval];exact⟨F03.then F4,_,_,O,rfl,a1,a2,oM,.inr ⟨oM,oM⟩⟩):p:=h
theorem yab{p:Prop}(h:p:=by
  intro p loc hp;by_cases e:p=h.next
  ·subst e;rw[aC]at hp;cases hp;simp
  ·rw[aK _ _ e]at hp;have:=H.inb p loc hp;simp;omega):p:=h
theorem yac{p:Prop}(h:p:=by
  refine aa ?_;simp only[evs,seval,<-e_h1,l0,l1,eq_false (oM:¬(k:Int)=0),eq_true (oM:0<(k:Int)),c1,c2];exact⟨F_h1,iS⟩):p:=h
theorem yad{p:Prop}(h:p:=by
  refine⟨_,w,m,.inl ?_,⟨loc,hm,rfl⟩,H,Sa _ _ _⟩;rw[go,Lib.run_unsafeSliceData_row (P:=P) w ts o.type _ _ _ oM];rfl):p:=h
theorem yae{p:Prop}(h:p:=by
  refine⟨j1,l1,e1,fun j' hj s hs=>?_⟩;rcases gC _ _ _ _ _ hs with⟨_,rfl,_⟩|⟨_,hs⟩
  ·simp
  ·exact p1 j' hj s hs):p:=h
theorem yaf{p:Prop}(h:p:=by
  obtain⟨_,_,_,_,_,_,_,_,_,ge,_⟩:=id cp;exact⟨F,ca,va,Xa,0,rfl,sc.m,.inr ⟨oM,rfl,cp,ce,sc,ce.cf cf,ge.cap⟩⟩):p:=h
theorem yag{p:Prop}(h:p:=by
  exact⟨[],iS,Qw w,.inl rfl⟩):p:=h
theorem yah{p:Prop}(h:p:=by
  rename_i y hy;obtain⟨z,e,r⟩:=bJ hv;rw[hy]at e;simp[Op.operands]at e;exact⟨z,r,fun w=>by simp[execOp,hy,e]⟩):p:=h
theorem yai{p:Prop}(h:p:=by
  cases h;exact⟨_,hop,hgd,hds,by rw[hds];exact hI' _ (fun y v hy he=>hI t _ hl y v hy he),by rw[hds];exact hE'⟩):p:=h
theorem yaj{p:Prop}(h:p:=by
  exact Ru w F_h1 (Qx (T:=[h1.next,h2.next]) (Qx (T:=[h1.next,h2.next]) M6.f F7 F_h1.wf iS iS) F8 F_h1.wf iS iS) oO):p:=h
theorem yak{p:Prop}(h:p:=by
  rintro _ h2 ⟨r,rfl,e,F2⟩;simp[evs];exact⟨by rw[e],F2⟩):p:=h
theorem yal{p:Prop}(h:p:=by
  have z:fU (dA l i) a=true:=by
   unfold fU;rw[c1,c3,x,y,(oO:decide (a.2.1<=3)=true)];rfl
  rw[z,RU]at e;rw[en];exact e):p:=h
theorem yam{p:Prop}(h:p:=by
  rcases x with⟨_,rfl⟩|⟨e',x⟩
  ·exact hb
  ·rcases Rn f h.next with y|y
   ·exact y
   ·rw[(w f y).2]at x;cases x):p:=h
theorem yan{p:Prop}(h:p:=by
  rcases g with⟨rfl,_⟩|⟨b,n,rfl,_,_,_,o⟩
  ·simp[vb]
  ·have:=o.lt w;simp only[vb,RF];rintro x rfl;exact this):p:=h
theorem yao{p:Prop}(h:p:=by
  refine stu F_h2.wf o_h2 ?_;rintro h3 o3 F3 n3;simp only[evs,seval,fin o3];exact⟨F02.fresh F3 wf oM,0,_,rfl⟩):p:=h
theorem yap{p:Prop}(h:p:=by
  simp only[evs,seval,g13,g12,(oM:¬(i:Int)<L.length)];rw[Qs oM,Qs oM]at e;exact⟨true,rfl,by simpa using e⟩):p:=h
theorem yaq{p:Prop}(h:p:=by
  intro s hs;rcases Ra hs with h|rfl
  ·exact o.st s h
  ·omega):p:=h
theorem yar{p:Prop}(h:p:=by
  obtain⟨n,hn⟩:=ihr _ _ _ _ _ h2;refine⟨n,fun m hm=>?_⟩;have a:=hn m hm;simp only[]at a;rw[a];exact y):p:=h
theorem yas{p:Prop}(h:p:=by
  show(bif Nat.beq 1 1&&Nat.beq s.length s.length then some (s.map c8)else none)=_;simp only[Rk,Sb,cond_true]):p:=h
theorem yat{p:Prop}(h:p:=by
  exact ih env1 h2 m' a' w' ex env' h' hC' e (fun a'' w'' m'' hC'' E''=>hL a'' w'' m'' hC'' (E'.trans E''))):p:=h
theorem yau{p:Prop}(h:p:=by
  exact⟨e',w'',fr',hR',ComesIn.of_steps (.head i1 h1 (StepsIn.trans hsteps (.one i2 h2))) hs',hfn',hl'⟩):p:=h
theorem yav{p:Prop}(h:p:=by
  obtain⟨n0,K,X,st,vK,bg,B,bm,S,bl,pm,mc,s,r⟩:=s;exact⟨n0,K,X,st,vK,bg,B,bm,S,bl,pm,mc,s.fr w f,r⟩):p:=h
theorem yaw{p:Prop}(h:p:=by
  simp only[IntKind.wrap,IntKind.bits,IntKind.signed];simp):p:=h
theorem yax{p:Prop}(h:p:=by
  show((h.fams.set f _).get f1=none/\_)\/∃e,(h.fams.set f _).get f1=some (q,e);rw[Qu _ _ hne];exact x1):p:=h
theorem yay{p:Prop}(h:p:=by
  simp only[evs,seval];exact⟨rfl,F_h1⟩):p:=h
theorem yaz{p:Prop}(h:p:=by
  split at hs
  ·rename_i cs hl;obtain⟨loc,hm,_,hx⟩:=rx;exact main _ _ _ _ _ loc hm hx hl hs
  ·cases hs):p:=h
theorem yaA{p:Prop}(h:p:=by
  rintro h' ⟨q1,q2,q3,c,q4,q5,q6⟩;exact⟨by rw[QN,q1];omega,rfl,pi _,c,q4,oM,by rw[q6,Tc,Rt im]⟩):p:=h
theorem yaB{p:Prop}(h:p:=by
  have h:j%2=0\/j%2=1:=oM
  rcases h with h|h<;>rw[h]<;>rfl):p:=h
theorem yaC{p:Prop}(h:p:=by
  rcases(by omega:x.k=1\/x.k=2\/x.k=3\/x.k=4\/x.k=5\/x.k=6\/x.k=7)with q|q|q|q|q|q|q<;>rw[q]<;>decide):p:=h
theorem yaD{p:Prop}(h:p:=by
  refine aa ?_;simp only[evs,seval,ra.len,(oM:(8:Int)<(l.length:Nat))];exact⟨by simp[bU,c8],Qw w⟩):p:=h
theorem yaE{p:Prop}(h:p:=by
  simp only[evs,seval,g6,g2,g5,l3,am.len,(oM:¬(i:Int)<x.marks.length),jV];rw[<-e']at k;exact k _ rfl):p:=h
theorem yaF{p:Prop}(h:p:=by
  rw[<-RH i Xs,QV]
  have l:((Xs.take i).flatMap Evt.cells).length=i*5:=by rw[au aZ,QN,Rt oM]
  rw[<-l,Ud]):p:=h
theorem yaG{p:Prop}(h:p:=by
  obtain⟨rfl,_,c,hc,hlen,e⟩:=a;exact⟨b,o+m*esz,bO _ _ _ _ _ _ _ h0 h1,main b o c hc hlen e⟩):p:=h
theorem yaH{p:Prop}(h:p:=by
  obtain⟨rfl,rfl,c,hc,hlen,e⟩:=a;exact⟨b,o+m*q,uv _ _ _ _ _ _ _ h0 h1,main b o c hc hlen e⟩):p:=h
theorem yaI{p:Prop}(h:p:=by
  refine rqn ⟨l.length-(i+1),oM,F04,i+1,iS,iX,iX,iX,oM,fin iX (by rw[pe];simp[cJ,c5]),rfl⟩
  done):p:=h
theorem yaJ{p:Prop}(h:p:=by
  refine⟨max n j,fun m hm=>?_⟩;have a:=hn m oM;have b:=hj m oM;simp only[]at a b;rw[a];exact b):p:=h
theorem yaK{p:Prop}(h:p:=by
  subst e;rw[aC]at hp;cases hp;rw[aK _ _ (Sx hne)]at hq;have:=H.inb q lq hq;simp only[]at he;omega):p:=h
theorem yaL{p:Prop}(h:p:=by
  rcases hX z mz with q|q
  ·omega
  ·have:=vlt z q;omega):p:=h
theorem yaM{p:Prop}(h:p:=by
  cases y with
  |l k=>cases o<;>simp[qq]at h
  |v s=>cases o<;>simp[qq]at h
  |c x=>exact e
  |g n=>exact e):p:=h
theorem yaN{p:Prop}(h:p:=by
  refine rqn ⟨l.length-(i+1),oM,F04,i+1,iS,iX,iX,iX,oM,fin iX (by simp[dA,c4,cJ]),rfl⟩
  done):p:=h
theorem yaO{p:Prop}(h:p:=by
  cases aM call loc env h o with
  |none=>simp
  |some r=>obtain⟨v,h'⟩:=r;simp[iN,fO,and_assoc]):p:=h
theorem yaP{p:Prop}(h:p:=by
  have q1:=aT (n:=n.natAbs) oM;simp only[evs,seval,aI [45] (dec n.natAbs) oO];rw[dG,if_pos c]):p:=h
theorem yaQ{p:Prop}(h:p:=by
  rw[Oper.semAt_eq ro a.eval o (fun c hcc=>by rw[hop]at hcc;cases hcc)];simp[execOp,hop]):p:=h
theorem yaR{p:Prop}(h:p:=by
  exact⟨by simp[okR];omega,F_h1⟩):p:=h
theorem yaS{p:Prop}(h:p:=by
  simp only[eM]at h;by_cases c:u=t
  ·rw[if_pos c]at h;cases h
  ·rw[if_neg c]at h;exact h):p:=h
theorem yaT{p:Prop}(h:p:=by
  refine Rm _ ?_;have:m<=cs.length:=by rw[hm];exact Nat.le_mul_of_pos_right m he
  omega):p:=h
theorem yaU{p:Prop}(h:p:=by
  cases h;exact oj hc hv (fun x hx=>by obtain⟨_,_,_,rfl⟩:=hx;exact⟨_,_,rfl⟩)):p:=h
theorem yaV{p:Prop}(h:p:=by
  exact⟨f1,m,E,_,rfl,rfl,f2,oM⟩):p:=h
theorem yaW{p:Prop}(h:p:=by
  exact⟨rfl,0,iS,iS,oM,rfl,rfl⟩):p:=h
theorem yaX{p:Prop}(h:p:=by
  simp only[evs,seval,c,c1];exact⟨_,rfl,oM⟩):p:=h
theorem yaY{p:Prop}(h:p:=by
  exact .inr ⟨b,n,z1,z2,z3,z4,f.own _ _ (fun m=>d _ m (by rw[z1];simp[vb])) o⟩):p:=h
theorem yaZ{p:Prop}(h:p:=by
  obtain⟨b2,o2,p1',p2'⟩:=(rc.fr f).ix6 hlt e2;rw[p1]at p1';cases p1';exact p2'):p:=h
theorem ya0{p:Prop}(h:p:=by
  refine rqn ⟨z.length-(i+1),oM,rfl,i+1,iS,iX,oM,good (by simp[dv];omega),rfl⟩):p:=h
theorem ya1{p:Prop}(h:p:=by
  refine aa ?_;simp only[evs,seval,<-e_h1,<-e_h2,l0,l1,p1,l7,c];exact⟨F02,iS⟩):p:=h
theorem ya2{p:Prop}(h:p:=by
  exact⟨rfl,0,iS,iS,iS,oM,rfl⟩):p:=h
theorem ya3{p:Prop}(h:p:=by
  have hnr:=cY (P:=P) (w:=w) z.cells t;simp[execOp,hy,Instr.alloc,hz,newVar,hnr]):p:=h
theorem ya4{p:Prop}(h:p:=by
  refine rqn ⟨E.length-(k+1),oM,rfl,k+1,z,iS,iX,iX,iX,iX,iX,iX,iX,iX,oM,rfl⟩):p:=h
theorem ya5{p:Prop}(h:p:=by
  subst hb;rw[iA _ _ _ oM];congr 2):p:=h
theorem ya6{p:Prop}(h:p:=by
  refine rqn ⟨17-(i+1),oM,rfl,i+1,iS,iX,oM,oM,good (by simp[dv];omega),rfl⟩):p:=h
theorem ya7{p:Prop}(h:p:=by
  rw[if_neg e]at hp;exact H.wf.fam _ _ _ _ hp):p:=h
theorem ya8{p:Prop}(h:p:=by
  simp only[RO]at hr;rcases hr with hr|hr
  ·have:=py hr;omega
  ·have:=py hr;omega):p:=h
theorem ya9{p:Prop}(h:p:=by
  cases x<;>simp only[vis,QQ]at h;rename_i a;exact⟨a.toList,iS,dz m l _ h⟩):p:=h
theorem yba{p:Prop}(h:p:=by
  simp only[IntKind.wrap,IntKind.bits,IntKind.signed];simp
  simp only[uw8];omega):p:=h
theorem ybb{p:Prop}(h:p:=by
  exact⟨F_h1.then F2,_,_,rfl⟩):p:=h
theorem ybc{p:Prop}(h:p:=by
  obtain⟨i,s,hi,hs⟩:=o.room;refine⟨i,s,?_,hs⟩;rw[Ss]
  ·exact hi
  ·grind):p:=h
theorem ybd{p:Prop}(h:p:=by
  rcases q with q|q
  ·grind
  ·simp at q;omega):p:=h
theorem ybe{p:Prop}(h:p:=by
  refine aa ?_;simp[evs];refine aN (CZ w T hv) fun h1 F=>?_;simp[evs];exact F):p:=h
theorem ybf{p:Prop}(h:p:=by
  refine rqn ⟨L.length-(i+1),oM,rfl,i+1,iS,iX,iX,iX,oM,rE e p4 q4 cs,rfl⟩):p:=h
theorem ybg{p:Prop}(h:p:=by
  have ym:=Of v4;simp only[Qy,Rz,or_false]at ym;rcases ym with rfl|rfl<;>rfl):p:=h
theorem ybh{p:Prop}(h:p:=by
  rename_i hj;by_cases hij:j=i
  ·subst hij;simp
  ·rw[if_neg oM,if_neg oM];simp):p:=h
theorem ybi{p:Prop}(h:p:=by
  show((h.bl.set b _).set h.next _).get q=_;rw[Qu _ _ oM,Qu _ _ hq];exact e2):p:=h
theorem ybj{p:Prop}(h:p:=by
  refine aa ?_;simp[evs,<-e_h1,l6,lc,c0];exact⟨by simp[okL];omega,F_h1⟩):p:=h
theorem ybk{p:Prop}(h:p:=by
  refine aa ?_;simp[evs,<-e_h1,l8,c0,c1];exact⟨by simp[okP];omega,F_h1⟩):p:=h
theorem ybl{p:Prop}(h:p:=by
  obtain⟨e,env',h',y,q⟩:=k;exact⟨e,env',h',by rw[eq,ht];exact y,q⟩):p:=h
theorem ybm{p:Prop}(h:p:=by
  refine rqn ⟨E.length-(j+1),oM,F.then F2,j+1,r,iS,iX,iX,iX,iX,oM,rfl⟩):p:=h
theorem ybn{p:Prop}(h:p:=by
  subst e2;rw[aC]at hq;cases hq;have:=H.inb p lp hp;simp only[]at he;omega):p:=h
theorem ybo{p:Prop}(h:p:=by
  exact callsIn_wide.1 (callsIn_of_wp_marks (n:=0) hfd hbody trivial hwp)):p:=h
theorem ybp{p:Prop}(h:p:=by
  refine Je w hA ra na rc nc ones iS fun h' f=>⟨by simp[c1,ca,cs],f⟩):p:=h
theorem ybq{p:Prop}(h:p:=by
  rintro _ h1 ⟨r,rfl,e,F⟩;simp only[evs,seval];exact⟨by rw[e],F⟩):p:=h
theorem ybr{p:Prop}(h:p:=by
  split at e
  ·rename_i r' h2 h3;cases e;simp[mu l _ _ _ _ _ h3]
  ·cases e):p:=h
theorem ybs{p:Prop}(h:p:=by
  exact⟨F02,_,rfl,oM,fun h=>by omega⟩):p:=h
theorem ybt{p:Prop}(h:p:=by
  rintro _ h1 ⟨r,rfl,e,F⟩;simp only[evs,seval];exact⟨r,rfl,e,F⟩):p:=h
theorem ybu{p:Prop}(h:p:=by
  simp[Knd.er]at this;try omega):p:=h
theorem ybv{p:Prop}(h:p:=by
  rw[iB _ _ _ dI,(iR:((n:Int)).tdiv 10=((n/10:Nat):Int)),Rj _ oM oM]):p:=h
theorem ybw{p:Prop}(h:p:=by
  simp[evs];exact F_h1.then F2):p:=h
noncomputable section
theorem oM{p:Prop}(h:p:=by omega):p:=h
theorem iS{p:Prop}(h:p:=by simp):p:=h
theorem oO{p:Prop}(h:p:=by simp;omega):p:=h
theorem dI{p:Prop}(h:p:=by decide):p:=h
theorem iR{p:Prop}(h:p:=by rfl):p:=h
theorem iX{p:Prop}(h:p:=by simp[*]):p:=h
theorem eG{p q:Prop}(h:q)(k:p=q:=by simp):p:=k▸h
theorem eV{p q:Prop}(h:q)(k:q->p:=by simpa):p:=k h
namespace Go.Ev
abbrev be:=@Bool.and_eq_true
abbrev pi:=@Nat.le_refl
abbrev py:=@Nat.eq_of_beq_eq_true
abbrev so:=@Int.toNat_natCast
abbrev Of:=@List.mem_of_getElem?
abbrev Qp:=@List.mem_append
abbrev Qq:=@List.getElem?_eq_getElem
abbrev Qr:=@Go.Result.andThen_ok
abbrev Qs:=@List.take_of_length_le
abbrev Qt:=@Nat.le_of_ble_eq_true
abbrev Qv:=@List.length_append
abbrev Qy:=@List.mem_cons
abbrev Qz:=@Go.Sem.run_bind
abbrev QA:=@Option.some.injEq
abbrev QB:=@List.length_cons
abbrev QC:=@List.cons.injEq
abbrev QD:=@List.getElem?_eq_some_iff
abbrev QE:=@List.append_assoc
abbrev QF:=@List.drop_of_length_le
abbrev QG:=@Option.map_some
abbrev QH:=@Nat.lt_of_lt_of_le
abbrev QJ:=@Nat.blt_eq
abbrev QK:=@Array.getElem?_eq_getElem
abbrev QL:=@Go.Sem.run_pure
abbrev QM:=@List.all_eq_true
abbrev QN:=@List.length_take
abbrev QO:=@List.mem_cons_of_mem
abbrev QP:=@List.mem_of_mem_take
abbrev QQ:=@Bool.false_eq_true
abbrev QR:=@Nat.mod_lt
abbrev QS:=@List.take_add_one
abbrev QT:=@List.flatMap_cons
abbrev QU:=@List.map_cons
abbrev QV:=@List.flatMap_append
abbrev QX:=@Option.bind_some
abbrev QY:=@Nat.le_trans
abbrev Ra:=@List.mem_or_eq_of_mem_set
abbrev Rb:=@List.cons_append
abbrev Rc:=@Nat.zero_add
abbrev Rd:=@List.length_set
abbrev Re:=@Prod.mk.injEq
abbrev Rf:=@List.length_nil
abbrev Rh:=@Array.getD_eq_getD_getElem?
abbrev Ri:=@List.nil_append
abbrev Rk:=@Nat.beq_refl
abbrev Rl:=@List.getElem?_drop
abbrev Rm:=@Nat.mul_le_mul_right
abbrev Rn:=@Nat.lt_or_ge
abbrev Rq:=@List.append_nil
abbrev Rt:=@Nat.min_eq_left
abbrev Rv:=@List.getElem?_append_right
abbrev Rw:=@Array.getElem?_eq_some_iff
abbrev Rx:=@List.length_eq_zero_iff
abbrev Ry:=@List.drop_eq_getElem_cons
abbrev Rz:=@List.not_mem_nil
abbrev RA:=@Bool.not_eq_true'
abbrev RC:=@List.drop_drop
abbrev RF:=@List.mem_singleton
abbrev RG:=@Nat.add_zero
abbrev RH:=@List.take_append_drop
abbrev RL:=@List.map_append
abbrev RN:=@List.flatMap_singleton
abbrev RO:=@Bool.or_eq_true
abbrev RQ:=@Nat.div_le_self
abbrev RR:=@Nat.mod_eq_of_lt
abbrev RT:=@Nat.add_assoc
abbrev RU:=@Bool.true_and
abbrev RW:=@Nat.ble_eq
abbrev RX:=@List.mem_cons_self
abbrev RY:=@List.drop_append_of_le_length
abbrev Sb:=@Bool.and_self
abbrev Sc:=@List.getElem?_take
abbrev Sd:=@Option.some.inj
abbrev Se:=@List.set_eq_take_append_cons_drop
abbrev Sf:=@List.mem_of_mem_drop
abbrev Sh:=@Nat.sub_zero
abbrev Si:=@Nat.div_div_eq_div_mul
abbrev Sj:=@Nat.mul_one
abbrev Sk:=@List.getElem?_append_left
abbrev Sm:=@Iff.rfl
abbrev So:=@Option.isSome_iff_exists
abbrev Sq:=@List.length_drop
abbrev Sr:=@List.take_length
abbrev Ss:=@List.getElem?_set_ne
abbrev Su:=@List.all_cons
abbrev Sw:=@Nat.add_mul
abbrev Sx:=@Ne.symm
abbrev Sy:=@Array.getElem?_append_left
abbrev Sz:=@Nat.lt_succ_self
abbrev SD:=@List.filter_cons
abbrev SF:=@List.getElem?_eq_none
abbrev SG:=@List.take_succ_eq_append_getElem
abbrev SI:=@Bool.eq_iff_iff
abbrev SJ:=@List.mem_filter
abbrev SK:=@List.getElem?_map
abbrev SL:=@List.eq_of_mem_replicate
abbrev SN:=@Nat.zero_mul
abbrev SO:=@List.getElem?_cons_succ
abbrev SP:=@List.getElem?_cons_zero
abbrev SR:=@Bool.false_or
abbrev SU:=@List.take_succ_cons
abbrev SX:=@Option.getD_none
abbrev SY:=@Array.ext'
abbrev Ta:=@List.drop_take
abbrev Tc:=@List.take_take
abbrev Td:=@List.getElem?_set_self
abbrev Te:=@Nat.mul_div_cancel
abbrev Tf:=@List.filter_append
abbrev Ti:=@Array.getElem?_modify
abbrev Tj:=@Nat.succ_mul
abbrev Tk:=@List.drop_length_add_append
abbrev Tn:=@List.mem_map
abbrev To:=@List.map_map
abbrev Tp:=@Bool.not_true
abbrev Tu:=@Bool.and_true
abbrev Tw:=@Nat.eq_of_mul_eq_mul_right
abbrev Tx:=@Int.fdiv_eq_ediv_of_nonneg
abbrev Ty:=@List.getD_eq_getElem?_getD
abbrev Tz:=@Bool.and_eq_true_iff
abbrev TA:=@List.drop_zero
abbrev TB:=@List.any_eq_true
abbrev TD:=@List.set_cons_succ
abbrev TE:=@List.any_cons
abbrev TF:=@List.drop_left
abbrev TH:=@Nat.mul_comm
abbrev TI:=@List.getElem?_toArray
abbrev TJ:=@List.getElem?_reverse
abbrev TK:=@Nat.pow_succ
abbrev TL:=@List.countP_cons
abbrev TM:=@List.count_le_length
abbrev TO:=@List.getElem_of_mem
abbrev TP:=@Nat.le_succ
abbrev TQ:=@List.countP_pos_iff
abbrev TR:=@List.map_nil
abbrev TS:=@List.set_cons_zero
abbrev TY:=@Nat.sub_self
abbrev Ua:=@List.mapM_cons
abbrev Ud:=@List.take_left
abbrev Ue:=@Function.comp_def
abbrev Uf:=@List.filter_congr
abbrev Ui:=@List.getElem?_set
abbrev Uj:=@Nat.mul_pos
end Go.Ev
namespace Go.Ev
inductive T(α:Type) where
 |e
 |n (l:T α) (v:Option α) (r:T α)
namespace T
variable {α : Type}
noncomputable def get(t:T α):Nat→Option α:=
 T.rec (motive:=fun _=>Nat→Option α) (fun _=>none)
  (fun _ v _ gl gr i=>Nat.rec (motive:=fun _=>Option α) v
   (fun j _=>Nat.rec (motive:=fun _=>Option α) (gl (Nat.div j 2)) (fun _ _=>gr (Nat.div j 2)) (Nat.mod j 2)) i) t
noncomputable def put(v:α)(d:Nat):T α→Nat→T α:=
 Nat.rec (motive:=fun _=>T α→Nat→T α) (fun t _=>t)
  (fun _ rec t i=>T.rec (motive:=fun _=>T α)
   (Nat.rec (motive:=fun _=>T α) (.n .e (some v) .e)
    (fun j _=>Nat.rec (motive:=fun _=>T α) (.n (rec .e (Nat.div j 2)) none .e) (fun _ _=>.n .e none (rec .e (Nat.div j 2))) (Nat.mod j 2)) i)
   (fun l x r _ _=>Nat.rec (motive:=fun _=>T α) (.n l (some v) r)
    (fun j _=>Nat.rec (motive:=fun _=>T α) (.n (rec l (Nat.div j 2)) x r) (fun _ _=>.n l x (rec r (Nat.div j 2))) (Nat.mod j 2)) i)
   t) d
noncomputable def set(t:T α)(i:Nat)(v:α):T α:=put v (Nat.succ i) t i
@[simp] theorem Qo (i : Nat) : (T.e : T α).get i = none := rfl
theorem get_n0(l:T α)(v:Option α)(r:T α):(T.n l v r).get 0=v:=rfl
theorem get_nS(l:T α)(v:Option α)(r:T α)(j:Nat):(T.n l v r).get (j+1)=if j%2=0 then l.get (j/2)else r.get (j/2):=by
 show Nat.rec (motive:=fun _=>Option α) (l.get (j/2)) (fun _ _=>r.get (j/2)) (j%2)=_;exact yaB
theorem MW(v:α)(d:Nat):put v (d+1) .e 0=.n .e (some v) .e:=rfl
theorem MV(v:α)(d j:Nat):put v (d+1) .e (j+1)=if j%2=0 then .n (put v d .e (j/2)) none .e else .n .e none (put v d .e (j/2)):=by
 show Nat.rec (motive:=fun _=>T α) (.n (put v d .e (j/2)) none .e) (fun _ _=>.n .e none (put v d .e (j/2))) (j%2)=_;exact yaB
theorem MU(v:α)(d:Nat)(l r:T α)(x:Option α):put v (d+1) (.n l x r) 0=.n l (some v) r:=rfl
theorem MT(v:α)(d j:Nat)(l r:T α)(x:Option α):put v (d+1) (.n l x r) (j+1)=if j%2=0 then .n (put v d l (j/2)) x r else .n l x (put v d r (j/2)):=by
 show Nat.rec (motive:=fun _=>T α) (.n (put v d l (j/2)) x r) (fun _ _=>.n l x (put v d r (j/2))) (j%2)=_;exact yaB
theorem KJ(v:α)(d:Nat):∀(t:T α)(i j:Nat),i<d->(put v d t i).get j=if j=i then some v else t.get j:=by
 induction d with
 |zero=>intro t i j h;omega
 |succ d ih=>
  intro t i j h;cases t with
  |e=>
   cases i with
   |zero=>
    rw[MW];cases j with
    |zero=>simp[get_n0]
    |succ j=>rw[get_nS];simp
   |succ i=>
    rw[MV];cases j with
    |zero=>split<;>simp[get_n0]
    |succ j=>
     split
     ·rename_i Z;rw[get_nS,ih _ _ _ oM];split
      ·exact ybh
      ·rw[if_neg oM];simp
     ·rename_i Z;rw[get_nS,ih _ _ _ oM];split
      ·rw[if_neg oM];simp
      ·exact ybh
  |n l x r=>
   cases i with
   |zero=>
    rw[MU];cases j with
    |zero=>simp[get_n0]
    |succ j=>rw[get_nS,get_nS];simp
   |succ i=>
    rw[MT];cases j with
    |zero=>split<;>simp[get_n0]
    |succ j=>
     split
     ·rename_i Z;rw[get_nS,get_nS,ih _ _ _ oM];split
      ·grind
      ·grind
     ·rename_i Z;rw[get_nS,get_nS,ih _ _ _ oM];split
      ·grind
      ·grind
theorem get_set(t:T α)(i j:Nat)(v:α):(t.set i v).get j=if j=i then some v else t.get j:=KJ v _ t i j (Sz i)
theorem get_set_self(t:T α)(i:Nat)(v:α):(t.set i v).get i=some v:=by rw[get_set,if_pos rfl]
theorem get_set_ne(t:T α){i j:Nat}(v:α)(h:j≠i):(t.set i v).get j=t.get j:=by rw[get_set,if_neg h]
end T
noncomputable def nth{α:Type}(l:List α):Nat→Option α:=
 List.rec (motive:=fun _=>Nat→Option α) (fun _=>none) (fun v _ ih i=>Nat.rec (motive:=fun _=>Option α) (some v) (fun j _=>ih j) i) l
theorem fq{α:Type}(l:List α)(i:Nat):nth l i=l[i]? :=by
 induction l generalizing i with
 |nil=>rfl
 |cons v l ih=>cases i with
  |zero=>rfl
  |succ i=>exact(ih i).trans iS
noncomputable def upd{α:Type}(l:List α):Nat→List α→List α:=
 List.rec (motive:=fun _=>Nat→List α→List α) (fun _ _=>[]) (fun x _ ih i vs=>Nat.rec (motive:=fun _=>List α)
  (List.rec (motive:=fun _=>List α) (x::ih 0 []) (fun v vs _=>v::ih 0 vs) vs) (fun j _=>x::ih j vs) i) l
@[simp] theorem PD {α : Type} (i : Nat) (vs : List α) : upd [] i vs = [] := rfl
inductive V where
 |bool (b:Bool)
 |int (k:IntKind) (n:Int)
 |str (s:List UInt8)
 |nilp
 |ptr (b o:Nat)
 |nils
 |slice (b o len cap:Nat)
 |sliceU (b o len esz:Nat)
 |sliceE
 |nilm
 |map (b:Nat)
 |nilf
 |func (fn:Fn) (first caps:List V)
 |nili
 |iface (t:Nat) (v:V)
 |agg (l:List V)
 |tup (l:List V)
 |yld (b:Nat)
 |sliceZ (a:Addr) (cap:Nat)
inductive PK where
 |mv|pick|nilck
 |ib (op:BinOp)|sh (left:Bool)
 |not|neg
 |bb (ne:Bool)
 |nil (kind:Nat) (ne:Bool)
 |faddr (off:Nat)
 |ixa (len esz:Nat)|ixs (esz:Nat)|ixarr (len esz:Nat) (isAgg:Bool)
 |ext (i:Nat)
 |mkf (fn:Fn) (nfirst:Nat)
 |mki (t:Nat)
 |build (zero:List V) (places:List (Nat×Nat))
 |sl (arr:Option Nat) (esz:Nat) (lo hi mx:Bool)
 |lenS
 |capS
 |mn|mx
 |conv (k:IntKind)
 |seq (ne:Bool) (ks:List Nat)
 |sb (op:BinOp)
 |lenStr|ixstr
 |slstr (lo hi:Bool)
 |tya (t:Nat)
inductive Opd where
 |l (k:Nat)
 |v (s:Nat)
 |c (x:V)
 |g (n:Nat)
inductive XK where
 |same|cnt|ixb
inductive UK where
 |alt (ty:Nat) (zero:List V)
 |tou
 |fru (tab:List (Nat×Nat×Nat))
 |sd
 |us (ty:Nat)
 |apt (ty esz bytes:Nat)
 |s2b
 |pe
 |ext (k:XK)
 |mnz (ty:Nat)
inductive IOp where
 |p (k:PK) (xs:List Opd)
 |ld (n:Nat) (ia:Bool) (x:Opd)
 |st (n:Nat) (x y:Opd)
 |al (zero:List V)
 |bx (x:Opd)
 |bs (zero:List V) (places:List (Nat×Nat)) (len:Nat) (xs:List Opd)
 |mk (zero:List V) (bytes:Nat) (x y:Opd)
 |ap (esz bytes:Nat) (x y:Opd)
 |cp (esz:Nat) (x y:Opd)
 |cf (f:Nat) (xs:List Opd)
 |cv (x:Opd) (xs:List Opd)
 |b2s (x:Opd)
 |df (x:Opd) (xs:List Opd)
 |it (nx:Bool) (x:Opd)
 |ux (k:UK) (xs:List Opd)
 |bad
 |pn (x:Opd)
structure IStep where
 gd:Option (Opd×Bool)
 op:IOp
 dst:Option Nat
inductive IC where
 |skip
 |ops (l:List IStep)
 |seq (a b:IC)
 |cond (x:Opd) (a b:IC)
 |block (id:Nat) (c:IC)
 |loop (c:IC)
 |exit (id:Nat)
 |ret
 |scope (c:IC) (l:Nat) (r:IC)
 |goto (l:Nat)
 |dops (l:List IStep) (late R:List Nat) (reads:List (Nat×Nat×Nat)) (sets:List (Nat×Nat))
 |bad
 |wd (c:IC)
inductive Ex where
 |norm|ret
 |exit (id:Nat)
 |goto (l:Nat)
def YB:Nat:=1099511627776
def DSL:Nat:=1048576
structure LG where
 r:Loop
 ps:List Nat
 as:IC
 bd:IC
 vars:List Nat
 N:Nat
structure Loc where
 block:Nat
 base:Nat
 room:Nat
 lp:Option LG
abbrev M:=Nat->Option Loc
mutual
def VRel(m:M):V->Value->Prop
 |.bool b,x=>x=.bool b
 |.int k n,x=>x=.int k n
 |.str s,x=>x=.string ⟨s.toArray⟩
 |.nilp,x=>x=.pointer none
 |.ptr b o,x=>∃loc,m b=some loc/\x=.pointer (some ⟨loc.block,loc.base+o,none⟩)
 |.nils,x=>x=.slice none 0 0
 |.slice b o len cap,x=>∃loc,m b=some loc/\len<=cap/\x=.slice (some ⟨loc.block,loc.base+o,none⟩) len cap
 |.sliceU b o len esz,x=>∃loc,m b=some loc/\len<=(loc.room-o)/esz/\x=.slice (some ⟨loc.block,loc.base+o,none⟩) len ((loc.room-o)/esz)
 |.sliceE,x=>∃a cap,x=.slice (some a) 0 cap
 |.nilm,x=>x=.map none
 |.map b,x=>∃loc,m b=some loc/\x=.map (some loc.block)
 |.nilf,x=>x=.nilFunc
 |.func fn first caps,x=>∃f' c',x=.func fn (List.toArray f') (List.toArray c')/\VsRel m first f'/\VsRel m caps c'
 |.nili,x=>x=.nilIface
 |.iface t v,x=>∃v',x=.iface t v'/\VRel m v v'
 |.agg l,x=>∃l',x=.agg (List.toArray l')/\VsRel m l l'
 |.tup l,x=>∃l',x=.tuple (List.toArray l')/\VsRel m l l'
 |.yld b,x=>∃loc,m b=some loc/\x=.func (.yield loc.block) #[] #[]
 |.sliceZ a cap,x=>x=.slice (some a) 0 cap
def VsRel(m:M):List V->List Value->Prop
 |[],l=>l=[]
 |v::vs,l=>∃v' vs',l=v'::vs'/\VRel m v v'/\VsRel m vs vs'
end
def Le(m m':M):Prop:=∀b loc,m b=some loc->m' b=some loc
mutual
theorem VRel.mono{m m':M}(h:Le m m'):∀(v:V)(x:Value),VRel m v x->VRel m' v x
 |.bool _,_,r=>r
 |.int _ _,_,r=>r
 |.str _,_,r=>r
 |.nilp,_,r=>r
 |.ptr _ _,_,⟨loc,hb,r⟩=>⟨loc,h _ _ hb,r⟩
 |.nils,_,r=>r
 |.slice _ _ _ _,_,⟨loc,hb,r⟩=>⟨loc,h _ _ hb,r⟩
 |.sliceU _ _ _ _,_,⟨loc,hb,r⟩=>⟨loc,h _ _ hb,r⟩
 |.sliceE,_,r=>r
 |.nilm,_,r=>r
 |.map _,_,⟨loc,hb,r⟩=>⟨loc,h _ _ hb,r⟩
 |.nilf,_,r=>r
 |.func _ first caps,_,⟨f',c',r,a,b⟩=>⟨f',c',r,VsRel.mono h first f' a,VsRel.mono h caps c' b⟩
 |.nili,_,r=>r
 |.iface _ v,_,⟨v',r,a⟩=>⟨v',r,VRel.mono h v v' a⟩
 |.agg l,_,⟨l',r,a⟩=>⟨l',r,VsRel.mono h l l' a⟩
 |.tup l,_,⟨l',r,a⟩=>⟨l',r,VsRel.mono h l l' a⟩
 |.yld _,_,⟨loc,hb,r⟩=>⟨loc,h _ _ hb,r⟩
 |.sliceZ _ _,_,r=>r
theorem VsRel.mono{m m':M}(h:Le m m'):∀(l:List V)(x:List Value),VsRel m l x->VsRel m' l x
 |[],_,r=>r
 |v::vs,_,⟨v',vs',r,a,b⟩=>⟨v',vs',r,VRel.mono h v v' a,VsRel.mono h vs vs' b⟩
end
theorem VsRel.nil{m:M}:VsRel m [] []:=rfl
theorem VsRel.cons{m:M}{v:V}{vs:List V}{x:Value}{xs:List Value}(h:VRel m v x)(t:VsRel m vs xs):VsRel m (v::vs) (x::xs):=⟨x,xs,rfl,h,t⟩
theorem VsRel.length{m:M}:∀{vs:List V}{xs:List Value},VsRel m vs xs->xs.length=vs.length
 |[],_,rfl=>rfl
 |_::_,_,⟨_,_,rfl,_,t⟩=>by simp[VsRel.length t]
theorem VsRel.get{m:M}:∀{vs:List V}{xs:List Value}(i:Nat)(v:V),VsRel m vs xs->vs[i]? =some v->∃x,xs[i]? =some x/\VRel m v x
 |[],_,_,_,_,h=>by simp at h
 |_::_,_,0,_,⟨x,_,rfl,r,_⟩,h=>by simp at h;subst h;exact⟨x,iS,r⟩
 |_::_,_,i+1,v,⟨_,_,rfl,_,t⟩,h=>by simpa using VsRel.get i v t (eV h)
theorem VsRel.append{m:M}:∀{as bs:List V}{xs ys:List Value},VsRel m as xs->VsRel m bs ys->VsRel m (as++bs) (xs++ys)
 |[],_,_,_,rfl,h=>h
 |_::_,_,_,_,⟨_,_,rfl,r,t⟩,h=>⟨_,_,rfl,r,VsRel.append t h⟩
theorem VsRel.of_get{m:M}:∀{vs:List V}{xs:List Value},xs.length=vs.length→(∀(i:Nat) v,vs[i]? =some v→∃x,xs[i]? =some x∧VRel m v x)→VsRel m vs xs
 |[],xs,h,_=>by cases xs<;>simp_all [VsRel]
 |v::vs,[],h,_=>by simp at h
 |v::vs,x::xs,h,g=>by
  refine⟨x,xs,rfl,?_,VsRel.of_get (eV h) fun i u hu=>by simpa using g (i+1) u (eV hu)⟩;obtain⟨y,hy,r⟩:=g 0 v rfl;simp at hy;subst hy;exact r
def V.one:V->Bool
 |.agg _=>false
 |.tup _=>false
 |_=>true
def qM:Value->Bool
 |.agg _|.tuple _=>false
 |_=>true
theorem VRel.one{m:M}{v:V}{x:Value}(h:VRel m v x)(o:v.one=true):qM x=true:=by
 cases v<;>simp[V.one]at o<;>simp only[VRel]at h;all_goals first
  |(subst h;rfl)
  |(obtain⟨_,_,rfl⟩:=h;rfl)
  |(obtain⟨_,_,_,rfl⟩:=h;rfl)
  |(obtain⟨_,rfl,_⟩:=h;rfl)
  |(obtain⟨_,_,rfl,_⟩:=h;rfl)
def az(l:List V):Bool:=l.all V.one
inductive Blk where
 |row (c:List V) (fam mk:Nat)
 |mp (es:List (V×V×Nat)) (clock:Nat)
 |lp (ps:List Nat) (as bd:IC) (env:T V) (st:Nat) (pend:Option Ex)
 |si (s:List UInt8) (pos:Nat)
 |dead
structure Heap where
 bl:T Blk
 next:Nat
 fams:T (Nat×Nat)
 tys:T (Nat×Nat)
noncomputable def rd(h:Heap)(p f k:Nat):Bool:=
 match h.fams.get f with
 |none=>true
 |some (o,e)=>Nat.beq o p||Nat.beq k e
structure HWF(h:Heap):Prop where
 fam:∀p c f k,h.bl.get p=some (.row c f k)->match h.fams.get f with
  |none=>f=p
  |some (_,e)=>k<=e
 fresh:∀p,h.next<=p->h.bl.get p=none/\h.fams.get p=none
def lst:Nat->LoopState
 |0=>.ready
 |1=>.busy
 |2=>.done
 |_=>.exhausted
def H6:Ex->Code
 |.norm=>.skip
 |.ret=>.ret
 |.exit id=>.exit id
 |.goto l=>.goto l
def BRel(m:M)(h:Heap)(p:Nat)(loc:Loc)(w:World):Blk->Prop
 |.row c f k=>rd h p f k=true->∃C elem fz,w.heap[loc.block]? =some (.cells C elem fz)/\loc.base+loc.room<=C.size/\c.length<=loc.room/\
  (∀(i:Nat) v,c[i]? =some v->∃x,C[loc.base+i]? =some x/\VRel m v x)/\
  (∀i:Nat,i<loc.room->¬(fz.1<=loc.base+i/\loc.base+i<fz.2))
 |.mp es clock=>∃es',w.heap[loc.block]? =some (.map (List.toArray es') clock)/\es'.length=es.length/\
  ∀(i:Nat) k v n,es[i]? =some (k,v,n)->∃e:MapEntry,es'[i]? =some e/\VRel m k e.key/\VRel m v e.val/\e.born=n
 |.lp ps as bd env st pend=>∃g,loc.lp=some g/\g.ps=ps/\g.as=as/\g.bd=bd/\w.heap[loc.block]? =some (.loop {g.r with state:=lst st,pending:=pend.map H6})/\
  ∀s v,env.get s=some v->s=DSL\/(g.vars.contains s=true/\VRel m v (g.r.tmps.getD s undef))
 |.si s pos=>loc.base=0/\w.heap[loc.block]? =some (.stringIter ⟨s.toArray⟩ pos)
 |.dead=>True
def TG(m:M)(t:T (Nat×Nat))(w:World):Prop:=∀p ty n,t.get p=some (ty,n)->∃loc C fz,m p=some loc/\loc.base=0/\w.heap[loc.block]? =some (.cells C ty fz)/\(n=0\/C.size=n)
structure HRel0(m:M)(h:Heap)(w:World):Prop where
 wf:HWF h
 blk:∀p loc,m p=some loc->∃b,h.bl.get p=some b/\BRel m h p loc w b
 inb:∀p loc,m p=some loc->loc.block<w.heap.size
 sep:∀p q lp lq,m p=some lp->m q=some lq->lp.block=lq.block->p≠q->
  ∃cp cq f kp kq,h.bl.get p=some (.row cp f kp)/\h.bl.get q=some (.row cq f kq)/\
   (∀e,h.fams.get f=some (q,e)->lp.base+cp.length<=lq.base+cq.length)
structure HRel(m:M)(h:Heap)(w:World):Prop extends HRel0 m h w where
 tg:TG m h.tys w
def Cov(m:M)(b i:Nat):Prop:=∃p loc,m p=some loc/\loc.block=b/\loc.base<=i/\i<loc.base+loc.room
def Kept(m:M)(b:Nat)(o o':Option Obj):Prop:=∀x,o=some x->∃x',o'=some x'/\match x,x' with
 |.cells c t fr,.cells c' t' fr'=>t'=t/\(fr'=fr\/∃j:Nat,fr'.1<=j/\j<fr'.2/\Cov m b j)/\c'.size=c.size/\∀j:Nat,¬Cov m b j->c'[j]? =c[j]?
 |.map _ _,.map _ _=>True
 |.loop _,.loop _=>True
 |.stringIter _ _,.stringIter _ _=>True
 |x,x'=>x'=x
theorem Kept.refl(m:M)(b:Nat)(o:Option Obj):Kept m b o o:=fun x h=>⟨x,h,by cases x<;>simp⟩
theorem Kept.of_eq{m:M}{b:Nat}{o o':Option Obj}(e:o'=o):Kept m b o o':=e▸Kept.refl m b o
theorem Kept.trans{m U:M}{b:Nat}{o R Z:Option Obj}(hc:∀j,Cov U b j->Cov m b j)(a:Kept m b o R)(d:Kept U b R Z):Kept m b o Z:=by
 intro x hx;obtain⟨J,h1,a⟩:=a x hx;obtain⟨I,h2,d⟩:=d J h1;refine⟨I,h2,?_⟩;cases x with
 |cells c t fr=>
  cases J with
  |cells c1 t1 f1=>
   cases I with
   |cells c2 t2 f2=>
    obtain⟨a1,a2,a3,a4⟩:=a;obtain⟨d1,d2,d3,d4⟩:=d;refine⟨d1.trans a1,?_,d3.trans a3,fun j D=>(d4 j fun x=>D (hc j x)).trans (a4 j D)⟩;rcases d2 with rfl|⟨j,j1,j2,j3⟩
    ·exact a2
    ·grind
   |_=>simp at d
  |_=>simp at a
 |map es k=>
  cases J with
  |map es1 k1=>
   cases I with
   |map es2 k2=>trivial
   |_=>simp at d
  |_=>simp at a
 |loop r=>
  cases J with
  |loop r1=>
   cases I with
   |loop r2=>trivial
   |_=>simp at d
  |_=>simp at a
 |stringIter s p=>
  cases J with
  |stringIter s1 p1=>
   cases I with
   |stringIter s2 p2=>trivial
   |_=>simp at d
  |_=>simp at a
 |_=>
  simp at a;subst a;simpa using d
structure Ext(m:M)(h:Heap)(w:World)(m':M)(h':Heap)(w':World):Prop where
 le:Le m m'
 new:∀p loc,m' p=some loc->m p=none->h.next<=p/\(w.heap.size<=loc.block\/∃q lq,m q=some lq/\lq.block=loc.block)
 next:h.next<=h'.next
 phan:∀p,m p=none->p<h.next->h'.bl.get p=h.bl.get p
 size:w.heap.size<=w'.heap.size
 keep:∀b,(∀p loc,m p=some loc->loc.block≠b)->b<w.heap.size->w'.heap[b]? =w.heap[b]?
 os:w'.os=w.os
 tape:w'.tape=w.tape
 output:w'.output=w.output
 cov:∀b i,b<w.heap.size->Cov m' b i->Cov m b i
 out:∀b,b<w.heap.size->Kept m b w.heap[b]? w'.heap[b]?
 lps:∀p loc,m' p=some loc->m p=none->loc.lp=none
theorem Ext.refl(m:M)(h:Heap)(w:World):Ext m h w m h w:=
 ⟨fun _ _ x=>x,fun _ _ a b=>by simp[a]at b,pi _,fun _ _ _=>rfl,pi _,fun _ _ _=>rfl,rfl,rfl,rfl,fun _ _ _ x=>x,fun _ _=>Kept.refl _ _ _,fun _ _ a b=>by simp[a]at b⟩
theorem Ext.trans{m m₁ m₂:M}{h h₁ h₂:Heap}{w w₁ w₂:World}(a:Ext m h w m₁ h₁ w₁)(b:Ext m₁ h₁ w₁ m₂ h₂ w₂):Ext m h w m₂ h₂ w₂ where
 le:=fun p loc x=>b.le _ _ (a.le _ _ x)
 new:=fun p loc h2 h0=>by
  cases h1:m₁ p with
  |some l1=>
   have e:=b.le _ _ h1;rw[e]at h2;cases h2;exact a.new _ _ h1 h0
  |none=>
   obtain⟨n1,n2⟩:=b.new _ _ h2 h1;refine⟨Nat.le_trans a.next n1,?_⟩;rcases n2 with n2|⟨q,lq,hq,e⟩
   ·exact .inl (Nat.le_trans a.size n2)
   ·cases hq0:m q with
    |some l0=>
     have e0:=a.le _ _ hq0;rw[hq]at e0;cases e0;exact .inr ⟨q,lq,hq0,e⟩
    |none=>
     rcases(a.new _ _ hq hq0).2 with s|⟨r,lr,hr,e2⟩
     ·exact .inl (e▸s)
     ·grind
 next:=Nat.le_trans a.next b.next
 phan:=fun p h0 hp=>by
  cases h1:m₁ p with
  |some l1=>have:=(a.new _ _ h1 h0).1;omega
  |none=>exact(b.phan p h1 (Nat.lt_of_lt_of_le hp a.next)).trans (a.phan p h0 hp)
 size:=Nat.le_trans a.size b.size
 keep:=fun c h0 hc=>by
  refine(b.keep c (fun p loc hp he=>?_) (Nat.lt_of_lt_of_le hc a.size)).trans (a.keep c h0 hc);cases hp0:m p with
  |some l0=>
   have e0:=a.le _ _ hp0;rw[hp]at e0;cases e0;exact h0 p loc hp0 he
  |none=>
   rcases(a.new _ _ hp hp0).2 with s|⟨r,lr,hr,e2⟩
   ·omega
   ·grind
 os:=b.os.trans a.os
 tape:=b.tape.trans a.tape
 output:=b.output.trans a.output
 cov:=fun c i hc x=>a.cov c i hc (b.cov c i (Nat.lt_of_lt_of_le hc a.size) x)
 lps:=fun p loc h2 h0=>by
  cases h1:m₁ p with
  |some l1=>
   have e:=b.le _ _ h1;rw[e]at h2;cases h2;exact a.lps _ _ h1 h0
  |none=>exact b.lps _ _ h2 h1
 out:=fun c hc=>(a.out c hc).trans (fun j x=>a.cov c j hc x) (b.out c (Nat.lt_of_lt_of_le hc a.size))
theorem TG.ext{m U:M}{h h':Heap}{w w':World}{t:T (Nat×Nat)}(a:TG m t w)(i:∀p loc,m p=some loc->loc.block<w.heap.size)(E:Ext m h w U h' w'):TG U t w':=by
 intro p ty n D;obtain⟨loc,C,fz,R,J,q3,q4⟩:=a p ty n D;obtain⟨I,hx,Z⟩:=E.out loc.block (i p loc R) _ q3;cases I with
 |cells C' ty' fz'=>
  obtain⟨r1,_,r3,_⟩:=Z;subst r1;exact⟨loc,C',fz',E.le _ _ R,J,hx,q4.imp id fun e=>r3.trans e⟩
 |_=>simp at Z
theorem HRel.up{m m':M}{h h':Heap}{w w':World}(H:HRel m h w)(e:h'.tys=h.tys)(a:HRel0 m' h' w'/\Ext m h w m' h' w'):HRel m' h' w'/\Ext m h w m' h' w':=
 ⟨⟨a.1,by rw[e];exact H.tg.ext H.inb a.2⟩,a.2⟩
theorem gu(b o n:Nat):Addr.add ⟨b,o,none⟩ n=⟨b,o+n,none⟩:=by
 unfold Addr.add;split
 ·grind
 ·rfl
theorem Bc(x:Value):qM x=x.oneCell':=by cases x<;>rfl
structure Stored(g lo:Nat)(vs:List Value)(w w':World):Prop where
 row:∀cur t fz,w.heap[g]? =some (.cells cur t fz)->∃cur',w'.heap[g]? =some (.cells cur' t fz)/\cur'.size=cur.size/\
  ∀j:Nat,cur'[j]? =if lo<=j/\j<lo+vs.length then(if j<cur.size then vs[j-lo]? else none)else cur[j]?
 other:∀k,k≠g->w'.heap[k]? =w.heap[k]?
 size:w'.heap.size=w.heap.size
 os:w'.os=w.os
 tape:w'.tape=w.tape
 output:w'.output=w.output
theorem jT(P:Program)(g o:Nat)(t:TypeId)(I:Nat×Nat):∀(vs:List Value)(i:Nat)(Z:Array Value)(w:World),
 w.heap[g]? =some (.cells Z t I)->o+i+vs.length<=Z.size->(∀j:Nat,j<vs.length->¬(I.1<=o+i+j/\o+i+j<I.2))->
 (∀v∈vs,qM v=true)->∃w',(storeCells ⟨g,o,none⟩ vs i).run P w=.ok () w'/\Stored g (o+i) vs w w':=by
 intro vs;induction vs with
 |nil=>
  intro i Z w D _ _ _;refine⟨w,rfl,⟨fun c t' f' h=>⟨c,h,rfl,fun j=>by simp;intro a b;omega⟩,fun _ _=>rfl,rfl,rfl,rfl,rfl⟩⟩
 |cons v vs ih=>
  intro i Z w D aj ah R;simp only[QB]at aj;have ak:o+i<Z.size:=oM
  have J:w.cell? ⟨g,o+i,none⟩=some Z[o+i]:=by
   rw[cell_of_row w g (o+i) Z t I D];simp[ak]
  have ao:w.frozen? ⟨g,o+i,none⟩=false:=by
   have:=ah 0 iS;simp only[World.frozen?,D];simp only[RG]at this;cases h1:decide (I.1<=o+i)<;>simp_all
  have hv:v.oneCell'=true:=by rw[<-Bc];exact R v iS
  have ab:(w.setCell ⟨g,o+i,none⟩ v).heap[g]? =some (.cells (Z.setIfInBounds (o+i) v) t I):=by
   simp only[World.setCell,Ti,D];simp
  obtain⟨w',hr,U⟩:=ih (i+1) (Z.setIfInBounds (o+i) v) (w.setCell ⟨g,o+i,none⟩ v) ab oO
   (fun j hj=>by have:=ah (j+1) oO;rwa[(oM:o+i+(j+1)=o+(i+1)+j)]at this) (fun u hu=>R u iX)
  refine⟨w',?_,?_⟩
  ·unfold storeCells;simp only[Qz,gu,run_store P w _ v .plain hv,J,ao];simpa using hr
  ·refine⟨?_,fun k hk=>(U.other k hk).trans (heap_setCell_other w _ k v hk),U.size.trans iS,U.os,U.tape,U.output⟩;intro c t' f' hc;rw[D]at hc;cases hc;obtain⟨ad,h1,h2,h3⟩:=U.row _ _ _ ab;refine⟨ad,h1,h2.trans iS,fun j=>?_⟩;rw[h3 j];simp only[Array.size_setIfInBounds,QB];by_cases hj:j=o+i
   ·grind
   ·grind
noncomputable def fQ(l:List V):Nat→List V:=
 List.rec (motive:=fun _=>Nat→List V) (fun _=>[]) (fun x xs ih o=>Nat.rec (motive:=fun _=>List V) (x::xs) (fun j _=>ih j) o) l
theorem bA(l:List V)(o:Nat):fQ l o=l.drop o:=by
 induction l generalizing o with
 |nil=>cases o<;>rfl
 |cons x xs ih=>cases o with
  |zero=>rfl
  |succ o=>exact(ih o).trans iS
noncomputable def dL(n:Nat):List V→Option (List V):=
 Nat.rec (motive:=fun _=>List V→Option (List V)) (fun _=>some [])
  (fun _ ih l=>List.rec (motive:=fun _=>Option (List V)) none (fun x xs _=>Option.rec (motive:=fun _=>Option (List V)) none (fun r=>some (x::r)) (ih xs)) l) n
theorem jv(l:List V):dL 0 l=some []:=rfl
theorem Eh(n:Nat):dL (n+1) []=none:=rfl
theorem fF(n:Nat)(x:V)(Z:List V):dL (n+1) (x::Z)=(dL n Z).map (x:: ·):=by
 show Option.rec (motive:=fun _=>Option (List V)) none (fun r=>some (x::r)) (dL n Z)=_;cases dL n Z<;>rfl
theorem iE{n:Nat}:∀{l r:List V},dL n l=some r->r=l.take n/\n<=l.length:=by
 induction n with
 |zero=>intro l r h;cases h;simp
 |succ n ih=>
  intro l r h;cases l with
  |nil=>rw[Eh]at h;cases h
  |cons x Z=>
   rw[fF]at h;cases hx:dL n Z with
   |none=>rw[hx]at h;cases h
   |some y=>
    rw[hx]at h;cases h;obtain⟨rfl,U⟩:=ih hx;exact⟨iS,by simp;omega⟩
noncomputable def dt(h:Heap)(b:Nat):Option (List V):=
 match h.bl.get b with
 |some (.row c f k)=>bif rd h b f k then some c else none
 |_=>none
noncomputable def aH(h:Heap)(b o n:Nat):Option (List V):=
 match dt h b with
 |some c=>dL n (fQ c o)
 |none=>none
noncomputable def ai(h:Heap)(b o:Nat):Option V:=
 match dt h b with
 |some c=>nth c o
 |none=>none
theorem jF{h:Heap}{b:Nat}{c:List V}(x:dt h b=some c):∃f k,h.bl.get b=some (.row c f k)/\rd h b f k=true:=by
 unfold dt at x;split at x
 ·grind
 ·cases x
theorem HRel.cell{m:M}{h:Heap}{w:World}(H:HRel m h w){b o:Nat}{loc:Loc}{c:List V}{v:V}(hm:m b=some loc)(hc:dt h b=some c)(hv:c[o]? =some v):
 ∃x,w.cell? ⟨loc.block,loc.base+o,none⟩=some x/\VRel m v x:=by
 obtain⟨f,k,U,R⟩:=jF hc;obtain⟨bk,Z,rel⟩:=H.blk b loc hm;rw[U]at Z;cases Z;obtain⟨C,D,fz,J,_,_,I,_⟩:=rel R;obtain⟨x,hx,r⟩:=I o v hv;exact⟨x,by rw[cell_of_row w _ _ C D fz J];exact hx,r⟩
theorem HRel.load1{m:M}{h:Heap}{w:World}(H:HRel m h w){b o:Nat}{loc:Loc}{v:V}(hm:m b=some loc)(Z:ai h b o=some v):
 ∃x,w.cell? ⟨loc.block,loc.base+o,none⟩=some x/\VRel m v x:=by
 unfold ai at Z;cases U:dt h b with
 |none=>rw[U]at Z;cases Z
 |some c=>
  rw[U]at Z;exact H.cell hm U (by rw[<-fq];exact Z)
theorem HRel.load{m:M}{h:Heap}{w:World}(H:HRel m h w)(P:Program){b o n:Nat}{loc:Loc}{vs:List V}(hm:m b=some loc)(Z:aH h b o n=some vs):
 ∃xs,(loadCells ⟨loc.block,loc.base+o,none⟩ n).run P w=.ok (List.toArray xs) w/\VsRel m vs xs/\vs.length=n:=by
 unfold aH at Z;cases R:dt h b with
 |none=>rw[R]at Z;cases Z
 |some c=>
  rw[R]at Z;simp only[]at Z;obtain⟨rfl,D⟩:=iE Z;rw[bA]at *;have U:(List.take n (List.drop o c)).length=n:=by grind
  have cell:∀i:Nat,i<n->∃x,w.cell? ⟨loc.block,loc.base+o+i,none⟩=some x/\∀v,(List.take n (List.drop o c))[i]? =some v->VRel m v x:=by
   intro i hi;have hi':o+i<c.length:=by simp at D;omega
   obtain⟨x,hx,r⟩:=H.cell hm R (o:=o+i) (v:=c[o+i]) iX;refine⟨x,by rw[RT];exact hx,fun v hv=>?_⟩;have:v=c[o+i]:=by grind
   rw[this];exact r
  let xs:List Value:=(List.range n).map fun i=>((w.cell? ⟨loc.block,loc.base+o+i,none⟩).getD undef);have I:xs.length=n:=by simp[xs]
  have J:∀(j:Nat) x,xs[j]? =some x->w.cell? ⟨loc.block,loc.base+o+j,none⟩=some x:=by grind
  refine⟨xs,?_,VsRel.of_get oM ?_,U⟩
  ·have:=run_loadCells_list (P:=P) w ⟨loc.block,loc.base+o,none⟩ xs (fun j x hx=>by rw[gu];exact J j x hx);rw[I]at this;exact this
  ·grind
noncomputable def bF(l:List V):Nat→List V→Option (List V):=
 List.rec (motive:=fun _=>Nat→List V→Option (List V))
  (fun _ vs=>List.rec (motive:=fun _=>Option (List V)) (some []) (fun _ _ _=>none) vs)
  (fun x xs ih i vs=>Nat.rec (motive:=fun _=>Option (List V))
   (List.rec (motive:=fun _=>Option (List V)) (some (x::xs)) (fun v vs _=>Option.rec (motive:=fun _=>Option (List V)) none (fun r=>some (v::r)) (ih 0 vs)) vs)
   (fun j _=>Option.rec (motive:=fun _=>Option (List V)) none (fun r=>some (x::r)) (ih j vs)) i) l
theorem CI{α β:Type}(f:α->β)(o:Option α):Option.rec (motive:=fun _=>Option β) none (fun r=>some (f r)) o=o.map f:=by cases o<;>rfl
theorem iD(i:Nat):bF [] i []=some []:=rfl
theorem lH(i:Nat)(v:V)(vs:List V):bF [] i (v::vs)=none:=rfl
theorem dD(x:V)(l:List V):bF (x::l) 0 []=some (x::l):=rfl
theorem bC(x:V)(l:List V)(v:V)(vs:List V):bF (x::l) 0 (v::vs)=(bF l 0 vs).map (v:: ·):=CI _ _
theorem bH(x:V)(l:List V)(i:Nat)(vs:List V):bF (x::l) (i+1) vs=(bF l i vs).map (x:: ·):=CI _ _
theorem uM:∀(l:List V)(i:Nat)(vs r:List V),bF l i vs=some r->
 r.length=l.length/\(vs≠[]->i+vs.length<=l.length)/\∀j:Nat,r[j]? =if i<=j/\j<i+vs.length then vs[j-i]? else l[j]? :=by
 intro l;induction l with
 |nil=>
  intro i vs r h;cases vs with
  |nil=>rw[iD]at h;cases h;simp
  |cons v vs=>rw[lH]at h;cases h
 |cons x l ih=>
  intro i vs r h;cases i with
  |zero=>
   cases vs with
   |nil=>rw[dD]at h;cases h;simp
   |cons v vs=>
    rw[bC]at h;cases Z:bF l 0 vs with
    |none=>rw[Z]at h;cases h
    |some q=>
     rw[Z]at h;cases h;obtain⟨a,b,c⟩:=ih 0 vs q Z;refine⟨by simp[a],fun _=>?_,fun j=>?_⟩
     ·grind
     ·grind
  |succ i=>
   rw[bH]at h;cases Z:bF l i vs with
   |none=>rw[Z]at h;cases h
   |some q=>
    rw[Z]at h;cases h;obtain⟨a,b,c⟩:=ih i vs q Z;refine⟨by simp[a],fun U=>by have:=b U;simp;omega,fun j=>?_⟩;cases j with
    |zero=>simp
    |succ j=>
     have:=c j;simp only[SO,this];by_cases R:i<=j/\j<i+vs.length
     ·grind
     ·grind
noncomputable def dk(h:Heap)(b o:Nat)(vs:List V):Option Heap:=
 match h.bl.get b with
 |some (.row c f k)=>
  bif az vs then
   match bF c o vs with
   |some c'=>
    match h.fams.get f with
    |none=>some ⟨h.bl.set b (.row c' f k),h.next,h.fams,h.tys⟩
    |some (ow,e)=>bif Nat.beq ow b then some ⟨h.bl.set b (.row c' f k),h.next,h.fams.set f (ow,e+1),h.tys⟩else none
   |none=>none
  else none
 |_=>none
theorem qf{h h':Heap}{b o:Nat}{vs:List V}(x:dk h b o vs=some h'):∃c f k c',h.bl.get b=some (.row c f k)/\az vs=true/\bF c o vs=some c'/\
 h'.bl=h.bl.set b (.row c' f k)/\h'.next=h.next/\
 ((h.fams.get f=none/\h'.fams=h.fams)\/∃e,h.fams.get f=some (b,e)/\h'.fams=h.fams.set f (b,e+1)):=by
 unfold dk at x;split at x
 ·rename_i c f k J;cases U:az vs
  ·simp[U]at x
  ·simp only[U,cond_true]at x;split at x
   ·rename_i c' R;split at x
    ·grind
    ·rename_i ow e hf;cases Z:Nat.beq ow b
     ·simp[Z]at x
     ·simp only[Z,cond_true]at x;cases x;have:=py Z;subst this;exact⟨c,f,k,c',J,rfl,R,rfl,rfl,.inr ⟨e,hf,rfl⟩⟩
   ·cases x
 ·cases x
theorem BB{h h':Heap}{b o:Nat}{vs:List V}(x:dk h b o vs=some h'):h'.tys=h.tys:=by
 unfold dk at x;split at x
 ·grind
 ·cases x
theorem mI{h:Heap}{b f k:Nat}(x:h.fams.get f=none\/∃e,h.fams.get f=some (b,e)):rd h b f k=true:=by
 unfold rd;rcases x with x|⟨e,x⟩<;>rw[x];show(Nat.beq b b||_)=true;have:=Rk b;rw[this];rfl
theorem Hj{h h':Heap}(W:HWF h){b f p:Nat}{cp:List V}{U kp:Nat}{c:List V}{k:Nat}
 (hb:h.bl.get b=some (.row c f k)) (D:h.bl.get p=some (.row cp U kp)) (ab:p≠b)
 (hf:(h.fams.get f=none/\h'.fams=h.fams)\/∃e,h.fams.get f=some (b,e)/\h'.fams=h.fams.set f (b,e+1))
 (hr:rd h' p U kp=true):U≠f/\rd h p U kp=true:=by
 rcases hf with⟨hn,J⟩|⟨e,hs,J⟩
 ·have Z:U≠f:=by
   intro e;subst e;have I:=W.fam _ _ _ _ hb;have R:=W.fam _ _ _ _ D;rw[hn]at I R;simp only[]at I R;omega
  exact⟨Z,by unfold rd at *;rw[J]at hr;exact hr⟩
 ·have Z:U≠f:=by
   intro q;subst q;unfold rd at hr;rw[J,T.get_set_self]at hr;have R:=W.fam _ _ _ _ D;rw[hs]at R;simp only[]at R;exact ya8
  exact⟨Z,by unfold rd at *;rw[J,T.get_set_ne _ _ Z]at hr;exact hr⟩
theorem vD{vs:List V}{Z:List Value}{m:M}(h:az vs=true)(r:VsRel m vs Z):∀x∈Z,qM x=true:=by
 intro x hx;obtain⟨i,J,R⟩:=TO hx;have D:=r.length;have hi':i<vs.length:=oM
 obtain⟨y,I,U⟩:=r.get i vs[i] iX;have:y=x:=by grind
 subst this;exact U.one (QM.1 h _ (List.getElem_mem hi'))
theorem HRel.store{m:M}{h h':Heap}{w:World}(H:HRel m h w)(P:Program){b o:Nat}{loc:Loc}{vs:List V}{xs:List Value}(hm:m b=some loc)
 (hs:dk h b o vs=some h') (hv:VsRel m vs xs):
 ∃w',(storeCells ⟨loc.block,loc.base+o,none⟩ xs).run P w=.ok () w'/\HRel m h' w'/\Ext m h w m h' w':=by
 obtain⟨c,f,k,c',hg,h1,hu,U,hnx,hf⟩:=qf hs;obtain⟨ul,ub,ug⟩:=uM _ _ _ _ hu;have a7:rd h b f k=true:=mI (by rcases hf with⟨a,_⟩|⟨e,a,_⟩<;>simp[a])
 obtain⟨bk,hb,rel⟩:=H.blk b loc hm;rw[hg]at hb;cases hb;obtain⟨C,el,fz,hC,a1,bf,a6,a0⟩:=rel a7;have a9:=hv.length;have ab:xs≠[]->o+xs.length<=c.length:=by grind
 obtain⟨w',aF,Z⟩:∃w',(storeCells ⟨loc.block,loc.base+o,none⟩ xs).run P w=.ok () w'/\Stored loc.block (loc.base+o) xs w w':=by
  cases xs with
  |nil=>exact⟨w,rfl,⟨fun a3 t f' e=>⟨a3,e,rfl,fun j=>by simp;intro a b;omega⟩,fun _ _=>rfl,rfl,rfl,rfl,rfl⟩⟩
  |cons y ys=>
   have bc:=ab iS;exact jT P loc.block (loc.base+o) el fz (y::ys) 0 C w hC oM
    (fun j hj=>by have:=a0 (o+j) oM;rwa[(oM:loc.base+(o+j)=loc.base+o+0+j)]at this) (vD h1 hv)
 refine⟨w',aF,H.up (BB hs) ⟨?_,?_⟩⟩
 ·refine⟨?_,?_,?_,?_⟩
  ·refine⟨?_,?_⟩
   ·intro p cp fp kp hp;rw[U,T.get_set]at hp;have key:∀cq,h.bl.get p=some (.row cq fp kp)->match h'.fams.get fp with|none=>fp=p|some (_,e)=>kp<=e:=by
     intro cq hq;have:=H.wf.fam _ _ _ _ hq;rcases hf with⟨_,D⟩|⟨e,ax,D⟩
     ·rw[D];exact this
     ·rw[D,T.get_set];by_cases ad:fp=f
      ·grind
      ·grind
    by_cases hpb:p=b
    ·grind
    ·grind
   ·intro p hp;rw[hnx]at hp;have aj:=H.wf.fresh p hp;have hpb:p≠b:=by grind
    refine⟨by rw[U,T.get_set_ne _ _ hpb];exact aj.1,?_⟩;rcases hf with⟨_,D⟩|⟨e,ax,D⟩
    ·rw[D];exact aj.2
    ·rw[D,T.get_set_ne]
     ·exact aj.2
     ·grind
  ·intro p lp hp;by_cases hpb:p=b
   ·subst hpb;rw[hm]at hp;cases hp;refine⟨.row c' f k,by rw[U,T.get_set_self],fun _=>?_⟩;obtain⟨C',ah,aA,I⟩:=Z.row _ _ _ hC;refine⟨C',el,fz,ah,oM,oM,?_,a0⟩;intro i v hi;rw[ug i]at hi;rw[I (loc.base+i)];by_cases hc:o<=i/\i<o+vs.length
    ·rw[if_pos hc]at hi;obtain⟨x,hx,r⟩:=hv.get _ _ hi;have:i<c.length:=by grind
     refine⟨x,?_,r⟩;rw[if_pos oM,if_pos oM,(oM:loc.base+i-(loc.base+o)=i-o)];exact hx
    ·grind
   ·obtain⟨bp,hgp,R⟩:=H.blk p lp hp;refine⟨bp,by rw[U,T.get_set_ne _ _ hpb];exact hgp,?_⟩;cases bp with
    |row cp fp kp=>
     intro hr;obtain⟨ad,a4⟩:=Hj H.wf hg hgp hpb hf hr;have J:lp.block≠loc.block:=by
      intro e;obtain⟨cp',cq',f',kp',kq',ha,hb2,_⟩:=H.sep p b lp loc hp hm e hpb;rw[hgp]at ha;cases ha;rw[hg]at hb2;cases hb2;exact ad rfl
     have:=R a4;rw[Z.other _ J];exact this
    |mp es clock=>
     have J:lp.block≠loc.block:=by
      exact yK
     show∃es',w'.heap[lp.block]? =_/\_;rw[Z.other _ J];exact R
    |lp ps as bd en st pend=>
     have J:lp.block≠loc.block:=by
      exact yK
     obtain⟨g,q1,q2,q3,q4,q5,q6⟩:=R;exact⟨g,q1,q2,q3,q4,(Z.other _ J).trans q5,q6⟩
    |si s pos=>
     have J:lp.block≠loc.block:=by
      exact yK
     exact⟨R.1,(Z.other _ J).trans R.2⟩
    |dead=>trivial
  ·intro p lp hp;rw[Z.size];exact H.inb p lp hp
  ·intro p q lp lq hp hq D ao;obtain⟨cp,cq,f',kp,kq,ha,hb2,hl⟩:=H.sep p q lp lq hp hq D ao;have fin:∀cp' cq':List V,cp'.length=cp.length->cq'.length=cq.length->h'.bl.get p=some (.row cp' f' kp)->h'.bl.get q=some (.row cq' f' kq)->
    ∃cp cq f kp kq,h'.bl.get p=some (.row cp f kp)/\h'.bl.get q=some (.row cq f kq)/\(∀e,h'.fams.get f=some (q,e)->lp.base+cp.length<=lq.base+cq.length):=by
    intro cp' cq' e1 e2 g1 g2;refine⟨cp',cq',f',kp,kq,g1,g2,fun e a2=>?_⟩;rw[e1,e2];rcases hf with⟨_,aE⟩|⟨e',ax,aE⟩
    ·grind
    ·rw[aE,T.get_set]at a2;by_cases ad:f'=f
     ·grind
     ·grind
   by_cases hpb:p=b
   ·subst hpb;rw[hg]at ha;cases ha;exact fin c' cq ul rfl (by rw[U,T.get_set_self]) (by rw[U,T.get_set_ne _ _ (Sx ao)];exact hb2)
   ·by_cases aR:q=b
    ·subst aR;rw[hg]at hb2;cases hb2;exact fin cp c' rfl ul (by rw[U,T.get_set_ne _ _ hpb];exact ha) (by rw[U,T.get_set_self])
    ·exact fin cp cq rfl rfl (by rw[U,T.get_set_ne _ _ hpb];exact ha) (by rw[U,T.get_set_ne _ _ aR];exact hb2)
 ·refine⟨fun _ _ x=>x,fun _ _ a b=>by simp[a]at b,by rw[hnx];exact pi _,?_,by rw[Z.size];exact pi _,?_,Z.os,Z.tape,Z.output,fun _ _ _ x=>x,?_,fun _ _ a b=>by simp[a]at b⟩
  ·intro p hp _;have hpb:p≠b:=by grind
   rw[U,T.get_set_ne _ _ hpb]
  ·intro g a5 _;exact Z.other g (fun e=>a5 b loc hm e.symm)
  ·intro g a8;by_cases ak:g=loc.block
   ·subst ak;obtain⟨C',ah,aA,I⟩:=Z.row _ _ _ hC;intro x hx;rw[hC]at hx;cases hx;refine⟨_,ah,rfl,.inl rfl,aA,fun j hj=>?_⟩;rw[I j];by_cases hc:loc.base+o<=j/\j<loc.base+o+xs.length
    ·exfalso;have:=ab (by intro e;subst e;simp at hc;omega);exact hj ⟨b,loc,hm,rfl,oM,oM⟩
    ·rw[if_neg hc]
   ·exact Kept.of_eq (Z.other g ak)
theorem HRel.congr{m:M}{h:Heap}{w w':World}(H:HRel m h w)(e:w'.heap=w.heap):HRel m h w':=by
 refine⟨⟨H.wf,fun p loc Z=>?_,fun p loc Z=>by rw[e];exact H.inb p loc Z,H.sep⟩,fun p ty n Z=>by rw[e];exact H.tg p ty n Z⟩;obtain⟨b,R,r⟩:=H.blk p loc Z;refine⟨b,R,?_⟩;cases b with
 |row c f k=>intro J;rw[e];exact r J
 |mp es clock=>show∃es',w'.heap[loc.block]? =_/\_;rw[e];exact r
 |lp ps as bd en st pend=>
  obtain⟨g,D,U,q3,q4,q5,I⟩:=r;exact⟨g,D,U,q3,q4,by rw[e];exact q5,I⟩
 |si s pos=>exact⟨r.1,by rw[e];exact r.2⟩
 |dead=>trivial
theorem Ext.drew(m:M)(h:Heap)(w:World):Ext m h w m h w.drew:=
 ⟨fun _ _ x=>x,fun _ _ a b=>by simp[a]at b,pi _,fun _ _ _=>rfl,pi _,fun _ _ _=>rfl,rfl,rfl,rfl,fun _ _ _ x=>x,fun _ _=>Kept.refl _ _ _,fun _ _ a b=>by simp[a]at b⟩
def ir(m:M)(p:Nat)(loc:Loc):M:=fun q=>if q=p then some loc else m q
theorem aC(m:M)(p:Nat)(loc:Loc):ir m p loc p=some loc:=if_pos rfl
theorem aK(m:M){p q:Nat}(loc:Loc)(h:q≠p):ir m p loc q=m q:=if_neg h
theorem HRel.unmapped{m:M}{h:Heap}{w:World}(H:HRel m h w){p:Nat}(U:h.next<=p):m p=none:=by
 cases hm:m p with
 |none=>rfl
 |some loc=>
  obtain⟨b,Z,_⟩:=H.blk p loc hm;rw[(H.wf.fresh p U).1]at Z;cases Z
theorem HRel.le_mset{m:M}{h:Heap}{w:World}(H:HRel m h w)(loc:Loc):Le m (ir m h.next loc):=by
 intro p l Z;rw[aK]
 ·exact Z
 ·intro e;subst e;rw[H.unmapped (pi _)]at Z;cases Z
theorem Cov.new{n:Nat}(m:M)(p:Nat)(loc:Loc)(h:loc.block=n):∀b i,b<n->Cov (ir m p loc) b i->Cov m b i:=by
 rintro b i I ⟨q,l,Z,J,R,U⟩;by_cases e:q=p
 ·subst e;rw[aC]at Z;cases Z;omega
 ·rw[aK _ _ e]at Z;exact⟨q,l,Z,J,R,U⟩
noncomputable def halloc(h:Heap)(c:List V):Heap:=⟨h.bl.set h.next (.row c h.next 0),h.next+1,h.fams,h.tys⟩
theorem BRel.mono{m D:M}(Z:Le m D){h h':Heap}{p:Nat}{loc:Loc}{w w':World}{b:Blk}(r:BRel m h p loc w b)
 (hr:∀c f k,b=.row c f k->rd h' p f k=true->rd h p f k=true) (U:w'.heap[loc.block]? =w.heap[loc.block]?):BRel D h' p loc w' b:=by
 cases b with
 |row c f k=>
  intro J;obtain⟨C,el,fz,a,b,c',d,e⟩:=r (hr c f k rfl J);exact⟨C,el,fz,U.trans a,b,c',fun i v R=>let⟨x,hx,rx⟩:=d i v R;⟨x,hx,VRel.mono Z _ _ rx⟩,e⟩
 |mp es clock=>
  obtain⟨I,a,b,c⟩:=r;refine⟨I,U.trans a,b,fun i k v n R=>?_⟩;obtain⟨e,he,r1,r2,r3⟩:=c i k v n R;exact⟨e,he,VRel.mono Z _ _ r1,VRel.mono Z _ _ r2,r3⟩
 |lp ps as bd en st pend=>
  obtain⟨g,q1,q2,q3,q4,q5,q6⟩:=r;exact⟨g,q1,q2,q3,q4,U.trans q5,fun s v hs=>(q6 s v hs).imp id fun q=>⟨q.1,VRel.mono Z _ _ q.2⟩⟩
 |si s pos=>exact⟨r.1,U.trans r.2⟩
 |dead=>trivial
theorem sK{m:M}{p:Nat}{loc:Loc}(h:loc.lp=none):∀q l,ir m p loc q=some l->m q=none->l.lp=none:=by
 intro q l Z U;by_cases e:q=p
 ·subst e;rw[aC]at Z;cases Z;exact h
 ·rw[aK _ _ e,U]at Z;cases Z
theorem HRel.alloc{m:M}{h:Heap}{w:World}(H:HRel m h w)(c:List V)(X:Array Value)(elem:TypeId)(R:c.length<=X.size)
 (D:∀(i:Nat) v,c[i]? =some v->∃x,X[i]? =some x/\VRel m v x):
 HRel (ir m h.next ⟨w.heap.size,0,X.size,none⟩) (halloc h c) (w.alloc (.cells X elem))/\
 Ext m h w (ir m h.next ⟨w.heap.size,0,X.size,none⟩) (halloc h c) (w.alloc (.cells X elem)):=by
 have Z:=H.le_mset ⟨w.heap.size,0,X.size,none⟩;have J:∀p loc,m p=some loc->p≠h.next:=fun p loc hp e=>by subst e;rw[H.unmapped (pi _)]at hp;cases hp
 refine H.up rfl ⟨⟨⟨?_,?_⟩,?_,?_,?_⟩,⟨Z,?_,TP _,?_,iS,?_,rfl,rfl,rfl,Cov.new m _ _ rfl,fun b U=>Kept.of_eq (heap_alloc_old w _ _ U),sK rfl⟩⟩
 ·intro p cp f k hp;show match h.fams.get f with|none=>f=p|some (_,e)=>k<=e
  rw[halloc,T.get_set]at hp;by_cases e:p=h.next
  ·grind
  ·exact ya7
 ·intro p hp;have ab:h.next+1<=p:=hp;refine⟨?_,(H.wf.fresh p oM).2⟩;rw[halloc,T.get_set_ne _ _ oM];exact(H.wf.fresh p oM).1
 ·intro p loc hp;by_cases e:p=h.next
  ·subst e;rw[aC]at hp;cases hp;refine⟨.row c h.next 0,by rw[halloc,T.get_set_self],fun _=>?_⟩;refine⟨X,elem,(0,0),heap_alloc_new w _,iS,R,fun i v I=>?_,fun i _=>by simp⟩;obtain⟨x,hx,rx⟩:=D i v I;exact⟨x,by simpa using hx,VRel.mono Z _ _ rx⟩
  ·rw[aK _ _ e]at hp;obtain⟨b,U,r⟩:=H.blk p loc hp;refine⟨b,by rw[halloc,T.get_set_ne _ _ e];exact U,r.mono Z (fun _ _ _ _ x=>x) (heap_alloc_old w _ _ (H.inb p loc hp))⟩
 ·exact yab
 ·intro p q lp lq hp hq he hne;by_cases e:p=h.next
  ·exact yaK
  ·rw[aK _ _ e]at hp;by_cases e2:q=h.next
   ·exact ybn
   ·rw[aK _ _ e2]at hq;obtain⟨cp,cq,f,kp,kq,a,b,d⟩:=H.sep p q lp lq hp hq he hne;exact⟨cp,cq,f,kp,kq,by rw[halloc,T.get_set_ne _ _ e];exact a,by rw[halloc,T.get_set_ne _ _ e2];exact b,d⟩
 ·exact y2
 ·intro p _ hp;rw[halloc,T.get_set_ne _ _ oM]
 ·intro b _ U;exact heap_alloc_old w _ _ U
noncomputable def jB(h:Heap)(b pos:Nat)(c':List V):Option Heap:=
 match h.bl.get b with
 |some (.row c f _)=>
  let go (e:Nat):Option Heap:=some ⟨(h.bl.set b (.row c f e)).set h.next (.row c' f 0),h.next+1,h.fams.set f (h.next,bif Nat.beq pos c.length then e else e+1),h.tys⟩;match h.fams.get f with
  |none=>go 0
  |some (ow,e)=>bif Nat.beq ow b then go e else none
 |_=>none
theorem zN{h h':Heap}{b pos:Nat}{c':List V}(W:HWF h)(x:jB h b pos c'=some h'):∃c f k e e',h.bl.get b=some (.row c f k)/\
 ((h.fams.get f=none/\f=b/\e=0)\/h.fams.get f=some (b,e))/\(e'=e/\pos=c.length\/e'=e+1)/\
 h'.bl=(h.bl.set b (.row c f e)).set h.next (.row c' f 0)/\h'.next=h.next+1/\h'.fams=h.fams.set f (h.next,e'):=by
 unfold jB at x;split at x
 ·rename_i c f k R;have Z:∀e:Nat,(bif Nat.beq pos c.length then e else e+1)=e/\pos=c.length\/(bif Nat.beq pos c.length then e else e+1)=e+1:=by
   intro e;cases U:Nat.beq pos c.length
   ·right;rfl
   ·left;exact⟨rfl,py U⟩
  split at x
  ·rename_i hf;cases x;refine⟨c,f,k,0,_,R,.inl ⟨hf,?_,rfl⟩,Z 0,rfl,rfl,rfl⟩;have:=W.fam _ _ _ _ R;rw[hf]at this;exact this
  ·rename_i ow e hf;cases U:Nat.beq ow b
   ·simp[U]at x
   ·simp only[U,cond_true]at x;cases x;have:=py U;subst this;exact⟨c,f,k,e,_,R,.inr hf,Z e,rfl,rfl,rfl⟩
 ·cases x
theorem BA{h h':Heap}{b pos:Nat}{c':List V}(x:jB h b pos c'=some h'):h'.tys=h.tys:=by
 unfold jB at x;split at x
 ·grind
 ·cases x
theorem HRel.super{m:M}{h h':Heap}{w w':World}(H:HRel m h w){b o n:Nat}{loc:Loc}{c' news:List V}{c:List V}{f k:Nat}{loc':Loc}
 (hm:m b=some loc) (hg:h.bl.get b=some (.row c f k)) (hs:jB h b (o+n) c'=some h')
 (aF:c'.length=n+news.length) (cc:o+n<=c.length) (bI:c.length<=o+n+news.length)
 (hnew:loc'.base+loc'.room<=loc'.base+loc'.room/\c'.length<=loc'.room)
 (a8:∃C' el fz',w'.heap[loc'.block]? =some (.cells C' el fz')/\loc'.base+loc'.room<=C'.size/\
  (∀(i:Nat) v,c'[i]? =some v->∃x,C'[loc'.base+i]? =some x/\VRel m v x)/\(∀i:Nat,i<loc'.room->¬(fz'.1<=loc'.base+i/\loc'.base+i<fz'.2)))
 (hcase:(loc'.block=w.heap.size/\(∀i,i<w.heap.size->w'.heap[i]? =w.heap[i]?))\/
  (loc'.block=loc.block/\loc'.base=loc.base+o/\(∀i,i≠loc.block->w'.heap[i]? =w.heap[i]?)/\
   ∀C el fz,w.heap[loc.block]? =some (.cells C el fz)->∃C',w'.heap[loc.block]? =some (.cells C' el fz)/\C'.size=C.size/\∀j:Nat,j<loc.base+(o+n)->C'[j]? =C[j]?))
 (aE:loc'.block=loc.block->loc'.base+loc'.room<=loc.base+loc.room/\∀C el fz C',w.heap[loc.block]? =some (.cells C el fz)->w'.heap[loc.block]? =some (.cells C' el fz)->∀j:Nat,loc.base+loc.room<=j->C'[j]? =C[j]?)
 (bB:w.heap.size<=w'.heap.size) (bn:loc'.block<w'.heap.size) (bz:w'.os=w.os) (bo:w'.tape=w.tape) (bc:w'.output=w.output) (bu:loc'.lp=none:=by rfl):
 HRel (ir m h.next loc') h' w'/\Ext m h w (ir m h.next loc') h' w':=by
 obtain⟨c0,f0,k0,e,e',bf,I,ce,aR,hnx,a9⟩:=zN H.wf hs;rw[hg]at bf;cases bf;have hle:=H.le_mset loc';have bg:b≠h.next:=fun x=>by subst x;rw[H.unmapped (pi _)]at hm;cases hm
 have b6:f<h.next:=by
  rcases Rn f h.next with q|q
  ·exact q
  ·have ax:=H.wf.fresh f q;rcases I with⟨_,rfl,_⟩|hf
   ·rw[hg]at ax;simp at ax
   ·rw[hf]at ax;simp at ax
 have ah:∀p cp kp,h.bl.get p=some (.row cp f kp)->p≠b->h.fams.get f=some (b,e)/\kp<=e:=by
  intro p cp kp hp D;have hw:=H.wf.fam _ _ _ _ hp;rcases I with⟨hn,ah,_⟩|hf
  ·rw[hn]at hw;simp only[]at hw;omega
  ·rw[hf]at hw;exact⟨hf,hw⟩
 have gb:h'.bl.get b=some (.row c f e):=by rw[aR,T.get_set_ne _ _ bg,T.get_set_self]
 have gn:h'.bl.get h.next=some (.row c' f 0):=by rw[aR,T.get_set_self]
 have go:∀p,p≠b->p≠h.next->h'.bl.get p=h.bl.get p:=fun p U h2=>by rw[aR,T.get_set_ne _ _ h2,T.get_set_ne _ _ U]
 have gf:h'.fams.get f=some (h.next,e'):=by rw[a9,T.get_set_self]
 have ao:∀g,g≠f->h'.fams.get g=h.fams.get g:=fun g a7=>by rw[a9,T.get_set_ne _ _ a7]
 have bL:∀p l,m p=some l->p≠h.next:=fun p l hp x=>by subst x;rw[H.unmapped (pi _)]at hp;cases hp
 refine H.up (BA hs) ⟨⟨⟨?_,?_⟩,?_,?_,?_⟩,⟨hle,?_,oM,?_,bB,?_,bz,bo,bc,?_,?_,sK bu⟩⟩
 ·intro p cp fp kp hp;by_cases R:fp=f
  ·subst R;rw[gf];show kp<=e';by_cases U:p=h.next
   ·subst U;rw[gn]at hp;cases hp;exact Nat.zero_le _
   ·by_cases h2:p=b
    ·subst h2;rw[gb]at hp;cases hp;omega
    ·rw[go p h2 U]at hp;have:=(ah p cp kp hp h2).2;omega
  ·rw[ao fp R];by_cases U:p=h.next
   ·subst U;rw[gn]at hp;cases hp;exact absurd rfl R
   ·by_cases h2:p=b
    ·subst h2;rw[gb]at hp;cases hp;exact absurd rfl R
    ·rw[go p h2 U]at hp;exact H.wf.fam _ _ _ _ hp
 ·intro p hp;rw[hnx]at hp;have bY:b<h.next:=by
   rcases Rn b h.next with q|q
   ·exact q
   ·rw[H.unmapped q]at hm;cases hm
  rw[go p oM oM,ao p oM];exact H.wf.fresh p oM
 ·intro p lp hp;by_cases U:p=h.next
  ·subst U;rw[aC]at hp;cases hp;refine⟨_,gn,fun _=>?_⟩;obtain⟨C',el,fz',a1,a2,a3,a4⟩:=a8;exact⟨C',el,fz',a1,a2,hnew.2,fun i v hi=>let⟨x,hx,rx⟩:=a3 i v hi;⟨x,hx,VRel.mono hle _ _ rx⟩,a4⟩
  ·rw[aK _ _ U]at hp;by_cases h2:p=b
   ·subst h2;rw[hm]at hp;cases hp;refine⟨_,gb,fun hr=>?_⟩;have bN:o+n=c.length:=by
     unfold rd at hr;rw[gf]at hr;exact ya8
    obtain⟨bk,hb,rel⟩:=H.blk p loc hm;rw[hg]at hb;cases hb;obtain⟨C,el,fz,hC,a2,a3,a4,a5⟩:=rel (mI (by rcases I with⟨q,_⟩|q<;>simp[q]));rcases hcase with⟨_,hk⟩|⟨_,_,_,hk⟩
    ·exact⟨C,el,fz,by rw[hk _ (H.inb p loc hm)];exact hC,a2,a3,fun i v hi=>let⟨x,hx,rx⟩:=a4 i v hi;⟨x,hx,VRel.mono hle _ _ rx⟩,a5⟩
    ·obtain⟨C',ab,a6,hj⟩:=hk C el fz hC;refine⟨C',el,fz,ab,oM,a3,fun i v hi=>?_,a5⟩;obtain⟨x,hx,rx⟩:=a4 i v hi;have:i<c.length:=by
      rcases Rn i c.length with q|q
      ·exact q
      ·rw[SF q]at hi;cases hi
     exact⟨x,by rw[hj _ oM];exact hx,VRel.mono hle _ _ rx⟩
   ·obtain⟨bp,hgp,relp⟩:=H.blk p lp hp;refine⟨bp,by rw[go p h2 U];exact hgp,?_⟩;have bi:=H.inb p lp hp;cases bp with
    |mp es clock=>
     exact yh
    |lp ps as bd en st pend=>
     exact yh
    |si s pos=>
     exact yh
    |dead=>trivial
    |row cp fp kp=>
     intro hr;by_cases R:fp=f
     ·subst R;obtain⟨bh,ci⟩:=ah p cp kp hgp h2;have cj:kp=e':=by
       unfold rd at hr;rw[gf]at hr;simp only[RO]at hr;rcases hr with hr|hr
       ·have:=py hr;omega
       ·exact py hr
      have bE:kp=e/\o+n=c.length:=oM
      have a0:rd h p fp kp=true:=by
       unfold rd;rw[bh];show(_||Nat.beq kp e)=true;rw[bE.1,Rk];simp
      obtain⟨C,el,fz,hC,a2,a3,a4,a5⟩:=relp a0;by_cases hbk:lp.block=loc.block
      ·obtain⟨ca,bP,f',ak,aj,ha,Z,hl⟩:=H.sep p b lp loc hp hm hbk h2;rw[hgp]at ha;cases ha;rw[hg]at Z;cases Z;have bK:=hl e bh;rcases hcase with⟨_,hk⟩|⟨_,_,_,hk⟩
       ·exact⟨C,el,fz,by rw[hk _ bi];exact hC,a2,a3,fun i v hi=>let⟨x,hx,rx⟩:=a4 i v hi;⟨x,hx,VRel.mono hle _ _ rx⟩,a5⟩
       ·obtain⟨C',ab,a6,hj⟩:=hk C el fz (by rw[<-hbk];exact hC);refine⟨C',el,fz,by rw[hbk];exact ab,oM,a3,fun i v hi=>?_,a5⟩;obtain⟨x,hx,rx⟩:=a4 i v hi;have:i<cp.length:=by
         rcases Rn i cp.length with q|q
         ·exact q
         ·rw[SF q]at hi;cases hi
        exact⟨x,by rw[hj _ oM];exact hx,VRel.mono hle _ _ rx⟩
      ·exact yL
     ·have hbk:lp.block≠loc.block:=by
       intro q;obtain⟨_,_,_,_,_,ha,Z,_⟩:=H.sep p b lp loc hp hm q h2;rw[hgp]at ha;cases ha;rw[hg]at Z;cases Z;exact R rfl
      have a0:rd h p fp kp=true:=by unfold rd at *;rw[ao fp R]at hr;exact hr
      obtain⟨C,el,fz,hC,a2,a3,a4,a5⟩:=relp a0;exact yL
 ·intro p lp hp;by_cases U:p=h.next
  ·subst U;rw[aC]at hp;cases hp;exact bn
  ·rw[aK _ _ U]at hp;have:=H.inb p lp hp;omega
 ·intro p q lp lq hp hq he D;have own:∀g q',q'≠h.next->∀x,h'.fams.get g=some (q',x)->g≠f:=by
   intro g q' bt x hx a7;subst a7;rw[gf]at hx;cases hx;exact bt rfl
  by_cases U:p=h.next
  ·subst U;rw[aC]at hp;cases hp;rw[aK _ _ (Sx D)]at hq;have bT:=H.inb q lq hq;rcases hcase with⟨hk,_⟩|⟨hk,ad,_⟩
   ·omega
   ·by_cases J:q=b
    ·subst J;exact⟨c',c,f,0,e,gn,gb,fun x hx=>absurd rfl (own f q bg x hx)⟩
    ·obtain⟨cq,c0,f0,kq,kb,ha,Z,_⟩:=H.sep q b lq loc hq hm oM J;rw[hg]at Z;cases Z;exact⟨c',cq,f,0,kq,gn,by rw[go q J (Sx D)];exact ha,fun x hx=>absurd rfl (own f q (Sx D) x hx)⟩
  ·rw[aK _ _ U]at hp;have b7:=H.inb p lp hp;by_cases h2:q=h.next
   ·subst h2;rw[aC]at hq;cases hq;rcases hcase with⟨hk,_⟩|⟨hk,ad,_⟩
    ·omega
    ·by_cases J:p=b
     ·subst J;rw[hm]at hp;cases hp;exact⟨c,c',f,e,0,gb,gn,fun x hx=>by rw[ad,aF];omega⟩
     ·obtain⟨cp,c0,f0,kp,kb,ha,Z,hl⟩:=H.sep p b lp loc hp hm oM J;rw[hg]at Z;cases Z;refine⟨cp,c',f,kp,0,by rw[go p J U];exact ha,gn,fun x hx=>?_⟩;have:=hl e (ah p cp kp ha J).1;rw[ad,aF];omega
   ·rw[aK _ _ h2]at hq;obtain⟨cp,cq,f',kp,kq,ha,Z,hl⟩:=H.sep p q lp lq hp hq he D;have fin:∀ak aj,h'.bl.get p=some (.row cp f' ak)->h'.bl.get q=some (.row cq f' aj)->
     ∃cp cq f kp kq,h'.bl.get p=some (.row cp f kp)/\h'.bl.get q=some (.row cq f kq)/\(∀e,h'.fams.get f=some (q,e)->lp.base+cp.length<=lq.base+cq.length):=
     fun ak aj g1 g2=>⟨cp,cq,f',ak,aj,g1,g2,fun x hx=>by
      have:=own f' q h2 x hx;rw[ao f' this]at hx;exact hl x hx⟩
    by_cases J:p=b
    ·subst J;rw[hg]at ha;cases ha;exact fin e kq gb (by rw[go q (Sx D) h2];exact Z)
    ·by_cases h4:q=b
     ·subst h4;rw[hg]at Z;cases Z;exact fin kp e (by rw[go p J U];exact ha) gb
     ·exact fin kp kq (by rw[go p J U];exact ha) (by rw[go q h4 h2];exact Z)
 ·intro p lp hp hn;by_cases U:p=h.next
  ·subst U;rw[aC]at hp;cases hp;refine⟨pi _,?_⟩;rcases hcase with⟨hk,_⟩|⟨hk,_⟩
   ·exact .inl oM
   ·exact .inr ⟨b,loc,hm,hk.symm⟩
  ·rw[aK _ _ U]at hp;rw[hp]at hn;cases hn
 ·intro p hp ch;exact go p (fun x=>by subst x;rw[hm]at hp;cases hp) oM
 ·intro g bm aA;rcases hcase with⟨_,hk⟩|⟨_,_,hk,_⟩
  ·exact hk g aA
  ·exact hk g (fun x=>bm b loc hm x.symm)
 ·rintro g i aA ⟨q,l,hq,U,h2,J⟩;by_cases h4:q=h.next
  ·subst h4;rw[aC]at hq;cases hq;rcases hcase with⟨hk,_⟩|⟨hk,ad,_⟩
   ·omega
   ·have:=(aE hk).1;exact⟨b,loc,hm,oM,oM,oM⟩
  ·rw[aK _ _ h4]at hq;exact⟨q,l,hq,U,h2,J⟩
 ·intro g aA;rcases hcase with⟨_,hk⟩|⟨br,_,hk,bw⟩
  ·exact Kept.of_eq (hk g aA)
  ·by_cases h4:g=loc.block
   ·subst h4;obtain⟨bk,hb,rel⟩:=H.blk b loc hm;rw[hg]at hb;cases hb;obtain⟨C,el,fz,hC,a2,a3,a4,a5⟩:=rel (mI (by rcases I with⟨q,_⟩|q<;>simp[q]));obtain⟨C',ab,a6,hj⟩:=bw C el fz hC;intro x hx;rw[hC]at hx;cases hx;refine⟨_,ab,rfl,.inl rfl,a6,fun j bv=>?_⟩;rcases Rn j (loc.base+(o+n))with c1|c1
    ·exact hj j c1
    ·rcases Rn j (loc.base+loc.room)with c2|c2
     ·exact absurd ⟨b,loc,hm,rfl,oM,c2⟩ bv
     ·exact(aE br).2 C el fz C' hC ab j c2
   ·exact Kept.of_eq (hk g h4)
def lim:IntKind->Nat
 |.i8=>128|.i16=>32768|.i32=>2147483648|.i64=>9223372036854775808
 |.u8=>256|.u16=>65536|.u32=>4294967296|.u64=>18446744073709551616
def aB(k:IntKind)(n:Int):Int:=
 match n with
 |.ofNat a=>bif Nat.blt a (lim k)then .ofNat a else k.wrap (.ofNat a)
 |.negSucc a=>bif k.signed&&Nat.blt a (lim k)then .negSucc a else k.wrap (.negSucc a)
theorem bq(k:IntKind)(n:Int):aB k n=k.wrap n:=by
 cases n with
 |ofNat a=>
  simp only[aB];cases h:Nat.blt a (lim k)
  ·rfl
  ·have h':a<lim k:=by simpa[QJ]using h
   simp only[cond_true,IntKind.wrap];cases k<;>simp[lim]at h'<;>simp[IntKind.bits,IntKind.signed]<;>omega
 |negSucc a=>
  simp only[aB];cases Z:k.signed
  ·rfl
  ·cases h:Nat.blt a (lim k)
   ·rfl
   ·have h':a<lim k:=by simpa[QJ]using h
    simp only[Sb,cond_true,IntKind.wrap];have e:Int.negSucc a=-(a:Int)-1:=oM
    rw[e];cases k<;>simp only[IntKind.signed,QQ]at Z<;>simp only[lim]at h'<;>
     simp only[IntKind.bits,IntKind.signed,RU,seval]<;>split<;>rename_i U<;>simp only[decide_eq_true_eq,ge_iff_le]at U<;>omega
def ilt:Int->Int->Bool
 |.ofNat a,.ofNat b=>Nat.blt a b
 |.ofNat _,.negSucc _=>false
 |.negSucc _,.ofNat _=>true
 |.negSucc a,.negSucc b=>Nat.blt b a
theorem iu(a b:Int):ilt a b=decide (a<b):=by
 rw[SI];cases a<;>cases b<;>simp[ilt,QJ]<;>omega
def ieq:Int->Int->Bool
 |.ofNat a,.ofNat b=>Nat.beq a b
 |.negSucc a,.negSucc b=>Nat.beq a b
 |_,_=>false
theorem fK(a b:Int):ieq a b=(a==b):=by
 rw[SI];cases a<;>cases b<;>simp[ieq];omega
def jA(k k':IntKind):Bool:=Nat.beq k.ctorIdx k'.ctorIdx
theorem mP{k k':IntKind}(h:jA k k'=true):k=k':=by
 cases k<;>cases k'<;>first|rfl|(simp[jA,IntKind.ctorIdx]at h)
def jO(op:BinOp)(k:IntKind)(a b:Int):Option V:=
 match op with
 |.add=>some (.int k (aB k (Int.add a b)))
 |.sub=>some (.int k (aB k (Int.sub a b)))
 |.mul=>some (.int k (aB k (Int.mul a b)))
 |.quo=>bif ieq b 0 then none else some (.int k (aB k (Int.tdiv a b)))
 |.rem=>bif ieq b 0 then none else some (.int k (Int.tmod a b))
 |.and=>some (.int k (aB k (BitVec.toNat (BitVec.ofInt k.bits a&&&BitVec.ofInt k.bits b))))
 |.or=>some (.int k (aB k (BitVec.toNat (BitVec.ofInt k.bits a|||BitVec.ofInt k.bits b))))
 |.xor=>some (.int k (aB k (BitVec.toNat (BitVec.ofInt k.bits a^^^BitVec.ofInt k.bits b))))
 |.andNot=>some (.int k (aB k (BitVec.toNat (BitVec.ofInt k.bits a&&& ~~~BitVec.ofInt k.bits b))))
 |.eql=>some (.bool (ieq a b))
 |.neq=>some (.bool (!ieq a b))
 |.lss=>some (.bool (ilt a b))
 |.leq=>some (.bool (!ilt b a))
 |.gtr=>some (.bool (ilt b a))
 |.geq=>some (.bool (!ilt a b))
 |_=>none
theorem zM{op:BinOp}{k:IntKind}{a b:Int}{v:V}(h:jO op k a b=some v)(P:Program)(w:World)(t:TypeId):
 ∃x,(binOp op t (.int k a) (.int k b)).run P w=.ok x w/\(∀m,VRel m v x)/\v.one=true:=by
 have dl:∀a b:Int,(!ilt b a)=decide (a<=b):=by
  intro a b;rw[iu,SI];simp
 cases op<;>simp only[jO]at h;case shl=>cases h
 case shr=>cases h
 case quo=>
  cases U:ieq b 0
  ·rw[U]at h;simp only[cond_false]at h;cases h;have Z:¬b=0:=by rw[fK]at U;simpa using U
   exact⟨.int k (k.wrap (a.tdiv b)),by simp[binOp,Op.intDiv,Z],fun m=>by rw[bq];rfl,rfl⟩
  ·grind
 case rem=>
  cases U:ieq b 0
  ·rw[U]at h;simp only[cond_false]at h;cases h;have Z:¬b=0:=by rw[fK]at U;simpa using U
   exact⟨.int k (a.tmod b),by simp[binOp,Op.intDiv,Z],fun m=>rfl,rfl⟩
  ·grind
 all_goals cases h
 all_goals first
  |exact⟨_,by simp only[binOp,ne_eq,not_true_eq_false,if_false,Op.intArith,Op.intBits];rfl,fun m=>by rw[bq];rfl,rfl⟩
  |exact⟨_,by simp only[binOp,ne_eq,not_true_eq_false,if_false,Op.intCmp];rfl,fun m=>by rw[fK];rfl,rfl⟩
  |exact⟨_,by simp only[binOp,ne_eq,not_true_eq_false,if_false,Op.intCmp];rfl,fun m=>by rw[iu];rfl,rfl⟩
  |exact⟨_,by simp only[binOp,ne_eq,not_true_eq_false,if_false,Op.intCmp];rfl,fun m=>by rw[dl];rfl,rfl⟩
def sW(left:Bool)(k:IntKind)(a:Int)(b:Int):Option V:=
 match b with
 |.ofNat n=>
  let p:Int:=Int.ofNat (Nat.pow 2 (Nat.min n k.bits))
  some (.int k (bif left then aB k (Int.mul a p)else Int.fdiv a p))
 |.negSucc _=>none
theorem sV{left:Bool}{k k':IntKind}{a b:Int}{v:V}(h:sW left k a b=some v)(P:Program)(w:World)(t:TypeId):
 ∃x,(binOp (bif left then .shl else .shr) t (.int k a) (.int k' b)).run P w=.ok x w/\(∀m,VRel m v x)/\v.one=true:=by
 cases b with
 |negSucc n=>cases h
 |ofNat n=>
  simp only[sW]at h;cases h;have U:(Int.ofNat (Nat.pow 2 (Nat.min n k.bits)))=(2:Int)^(min n k.bits):=by
   show((2^(min n k.bits):Nat):Int)=_;simp
  have Z:¬(Int.ofNat n<0):=by simp
  cases left
  ·exact⟨.int k (a.fdiv (2^min n k.bits)),by simp only[cond_false,binOp,Op.shift,if_neg Z];rfl,fun m=>by show _=_;simp only[cond_false];rw[U],rfl⟩
  ·exact⟨.int k (k.wrap (a*2^min n k.bits)),by simp only[cond_true,binOp,Op.shift,if_neg Z];rfl,fun m=>by show _=_;simp only[cond_true];rw[U,bq];rfl,rfl⟩
def iU:List Nat->List V->List V->Option Bool
 |[],_,_=>some true
 |0::ks,.int k a::l,.int k' b::l'=>bif jA k k' then(bif ieq a b then iU ks l l' else some false)else none
 |1::ks,.bool a::l,.bool b::l'=>bif xor a b then some false else iU ks l l'
 |2::ks,.str a::l,.str b::l'=>bif a==b then iU ks l l' else some false
 |_,_,_=>none
def oR(op:BinOp)(a b:List UInt8):Option V:=
 match op with
 |.add=>bif Nat.blt (a.length+b.length) 9223372036854775808 then some (.str (a++b))else none
 |.eql=>some (.bool (a==b))
 |.neq=>some (.bool (!(a==b)))
 |.lss=>some (.bool (Op.bytesLess a b))
 |.leq=>some (.bool (Op.bytesLess a b||a==b))
 |.gtr=>some (.bool (!(Op.bytesLess a b||a==b)))
 |.geq=>some (.bool (!Op.bytesLess a b))
 |_=>none
def jX:Nat->V->V->Option Bool
 |0,.nilp,.nilp=>some true
 |0,.nilp,.ptr _ _=>some false
 |0,.ptr _ _,.nilp=>some false
 |1,.nils,.nils=>some true
 |1,.nils,.slice _ _ _ _=>some false
 |1,.nils,.sliceU _ _ _ _=>some false
 |1,.nils,.sliceE=>some false
 |1,.nils,.sliceZ _ _=>some false
 |1,.slice _ _ _ _,.nils=>some false
 |1,.sliceU _ _ _ _,.nils=>some false
 |1,.sliceE,.nils=>some false
 |1,.sliceZ _ _,.nils=>some false
 |2,.nilm,.nilm=>some true
 |2,.nilm,.map _=>some false
 |2,.map _,.nilm=>some false
 |3,.nilf,.nilf=>some true
 |3,.nilf,.func _ _ _=>some false
 |3,.func _ _ _,.nilf=>some false
 |4,.nili,.nili=>some true
 |4,.nili,.iface _ _=>some false
 |4,.iface _ _,.nili=>some false
 |_,_,_=>none
def V.cells:V->List V
 |.agg l=>l
 |v=>[v]
noncomputable def dP(c:List V):List (Nat×Nat)→List V→Option (List V)
 |[],[]=>some c
 |(off,size)::ps,v::vs=>
  bif Nat.beq v.cells.length size&&Nat.blt 0 size then
   match bF c off v.cells with
   |some c'=>dP c' ps vs
   |none=>none
  else none
 |_,_=>none
def cO(v:V)(y:Nat):Option Nat:=
 match v with
 |.int _ (.ofNat n)=>bif Nat.ble n y then some n else none
 |_=>none
def aO(len y:Nat)(lo hi mx:Bool)(bs:List V):Option (Nat×Nat×Option Nat):=
 match lo,hi,mx,bs with
 |false,false,false,[]=>some (0,len,none)
 |true,false,false,[a]=>(cO a len).map fun l=>(l,len,none)
 |false,true,false,[b]=>(cO b y).map fun h=>(0,h,none)
 |true,true,false,[a,b]=>(cO b y).bind fun h=>(cO a h).map fun l=>(l,h,none)
 |false,true,true,[b,c]=>(cO c y).bind fun m=>(cO b m).map fun h=>(0,h,some m)
 |true,true,true,[a,b,c]=>(cO c y).bind fun m=>(cO b m).bind fun h=>(cO a h).map fun l=>(l,h,some m)
 |_,_,_,_=>none
def dW(v:V)(esz:Nat)(lo hi mx:Bool)(bs:List V):Option V:=
 match v with
 |.nils=>(aO 0 0 lo hi mx bs).map fun _=>.nils
 |.slice b o len cap=>(aO len cap lo hi mx bs).map fun(l,h,m)=>
  let m:=m.getD cap
  .slice b (bif Nat.beq m l then o else o+l*esz) (h-l) (m-l)
 |.sliceU b o len e=>bif Nat.beq e esz&&Nat.blt 0 e then
  (aO len len lo hi mx bs).bind fun(l,h,m)=>
   match m with
   |some m=>some (.slice b (bif Nat.beq m l then o else o+l*esz) (h-l) (m-l))
   |none=>bif Nat.blt l len then some (.sliceU b (o+l*esz) (h-l) e)
             else bif Nat.beq l 0 then some (.sliceU b o (h-l) e)else some .sliceE
  else none
 |_=>none
def uo(n:Nat)(v:V)(esz:Nat)(lo hi mx:Bool)(bs:List V):Option V:=
 match v with
 |.ptr b o=>(aO n n lo hi mx bs).map fun(l,h,m)=>
  let m:=m.getD n
  .slice b (bif Nat.beq m l then o else o+l*esz) (h-l) (m-l)
 |_=>none
def lD(v:V)(len:Nat):Option Nat:=
 match v with
 |.int _ (.ofNat n)=>bif Nat.blt n len then some n else none
 |_=>none
noncomputable def aP(k:PK)(vs:List V):Option V:=
 match k,vs with
 |.mv,[x]=>some x
 |.pick,[.bool c,a,b]=>some (bif c then a else b)
 |.nilck,[.ptr b o]=>some (.ptr b o)
 |.nilck,[.func (.func f) x y]=>some (.func (.func f) x y)
 |.ib op,[.int k a,.int k' b]=>bif jA k k' then jO op k a b else none
 |.sh left,[.int k a,.int _ b]=>sW left k a b
 |.not,[.bool b]=>some (.bool (!b))
 |.neg,[.int k n]=>some (.int k (aB k (Int.sub 0 n)))
 |.bb ne,[.bool a,.bool b]=>some (.bool (bif ne then xor a b else !(xor a b)))
 |.nil kd ne,[a,b]=>(jX kd a b).map fun r=>.bool (bif ne then !r else r)
 |.faddr off,[.ptr b o]=>some (.ptr b (o+off))
 |.ixa len esz,[.ptr b o,i]=>(lD i len).map fun n=>.ptr b (o+n*esz)
 |.ixs esz,[.slice b o len _,i]=>(lD i len).map fun n=>.ptr b (o+n*esz)
 |.ixs esz,[.sliceU b o len _,i]=>(lD i len).map fun n=>.ptr b (o+n*esz)
 |.ixarr len esz isAgg,[.agg l,i]=>(lD i len).bind fun n=>bif isAgg then(dL esz (fQ l (n*esz))).map .agg else nth l (n*esz)
 |.ext i,[.tup l]=>nth l i
 |.mkf fn n,vs=>(dL n vs).map fun f=>.func fn f (fQ vs n)
 |.mki t,[v]=>some (.iface t v)
 |.tya t,[.iface t' v]=>bif Nat.beq t t' then some (.tup [v,.bool true])else none
 |.build zero places,vs=>(dP zero places vs).map .agg
 |.sl none esz lo hi mx,v::bs=>dW v esz lo hi mx bs
 |.sl (some n) esz lo hi mx,v::bs=>uo n v esz lo hi mx bs
 |.lenS,[.nils]=>some (.int .i64 0)
 |.lenS,[.slice _ _ len _]=>some (.int .i64 len)
 |.lenS,[.sliceU _ _ len _]=>some (.int .i64 len)
 |.lenS,[.sliceE]=>some (.int .i64 0)
 |.lenS,[.sliceZ _ _]=>some (.int .i64 0)
 |.capS,[.nils]=>some (.int .i64 0)
 |.capS,[.slice _ _ _ cap]=>some (.int .i64 cap)
 |.mn,[.int k a,.int _ b]=>some (.int k (bif ilt b a then b else a))
 |.mx,[.int k a,.int _ b]=>some (.int k (bif ilt a b then b else a))
 |.conv k,[.int _ n]=>some (.int k (aB k n))
 |.seq ne ks,[.agg l,.agg l']=>(iU ks l l').map fun r=>.bool (bif ne then !r else r)
 |.sb op,[.str a,.str b]=>oR op a b
 |.lenStr,[.str a]=>some (.int .i64 (a.length:Nat))
 |.ixstr,[.str a,.int _ (.ofNat i)]=>(a[i]?).map fun c=>.int .u8 (c.toNat:Nat)
 |.slstr lo hi,.str a::bs=>(aO a.length a.length lo hi false bs).map fun(l,h,_)=>.str ((a.drop l).take (h-l))
 |_,_=>none
mutual
def vis:V->Value->Bool
 |.bool b,.bool c=>b==c
 |.int k n,.int k' n'=>jA k k'&&ieq n n'
 |.str s,.string t=>t.data.toList==s
 |.nilp,.pointer none=>true
 |.nils,.slice none 0 0=>true
 |.nilm,.map none=>true
 |.nilf,.nilFunc=>true
 |.nili,.nilIface=>true
 |.func fn f c,.func fn' f' c'=>decide (fn=fn')&&qZ f f'.toList&&qZ c c'.toList
 |.agg l,.agg a=>qZ l a.toList
 |.tup l,.tuple a=>qZ l a.toList
 |_,_=>false
def qZ:List V->List Value->Bool
 |[],[]=>true
 |v::vs,x::xs=>vis v x&&qZ vs xs
 |_,_=>false
end
mutual
theorem Co(m:M):∀(v:V)(x:Value),vis v x=true→VRel m v x
 |.bool b,x,h=>by cases x<;>simp[vis]at h;subst h;rfl
 |.int k n,x,h=>by
  cases x<;>simp[vis]at h;obtain⟨a,b⟩:=h;rw[fK]at b;have:=mP a;subst this;simp at b;subst b;rfl
 |.str s,x,h=>by
  cases x<;>simp[vis]at h;rename_i t;cases t;rename_i d;cases d;simp at h;subst h;rfl
 |.nilp,x,h=>by
  cases x with
  |pointer a=>cases a with
   |none=>rfl
   |some a=>simp[vis]at h
  |_=>simp[vis]at h
 |.nils,x,h=>by
  cases x with
  |slice a l c=>
   cases a with
   |some a=>simp[vis]at h
   |none=>cases l with
    |succ l=>simp[vis]at h
    |zero=>cases c with
     |zero=>rfl
     |succ c=>simp[vis]at h
  |_=>simp[vis]at h
 |.nilm,x,h=>by
  cases x with
  |map a=>cases a with
   |none=>rfl
   |some a=>simp[vis]at h
  |_=>simp[vis]at h
 |.nilf,x,h=>by cases x<;>simp[vis]at h;rfl
 |.nili,x,h=>by cases x<;>simp[vis]at h;rfl
 |.func fn f c,x,h=>by
  cases x<;>simp only[vis,Bool.false_eq_true]at h;rename_i fn' f' c';simp only[Bool.and_eq_true,decide_eq_true_eq]at h;obtain⟨⟨rfl,h1⟩,h2⟩:=h;exact⟨f'.toList,c'.toList,iS,dz m f _ h1,dz m c _ h2⟩
 |.agg l,x,h=>by
  cases x<;>simp only[vis,Bool.false_eq_true]at h;rename_i a;exact⟨a.toList,iS,dz m l _ h⟩
 |.tup l,x,h=>by
  cases x<;>simp only[vis,Bool.false_eq_true]at h;rename_i a;exact⟨a.toList,iS,dz m l _ h⟩
 |.ptr _ _,x,h=>by cases x<;>simp[vis]at h
 |.slice _ _ _ _,x,h=>by cases x<;>simp[vis]at h
 |.sliceU _ _ _ _,x,h=>by cases x<;>simp[vis]at h
 |.sliceE,x,h=>by cases x<;>simp[vis]at h
 |.map _,x,h=>by cases x<;>simp[vis]at h
 |.iface _ _,x,h=>by cases x<;>simp[vis]at h
theorem dz(m:M):∀(vs:List V)(xs:List Value),qZ vs xs=true->VsRel m vs xs
 |[],[],_=>rfl
 |[],_::_,h=>by simp[qZ]at h
 |_::_,[],h=>by simp[qZ]at h
 |v::vs,x::xs,h=>by
  simp only[qZ,be]at h;exact⟨x,xs,rfl,Co m v x h.1,dz m vs xs h.2⟩
end
def Mi(P:Program)(t:TypeId)(k:IntKind):Bool:=match P.underlying t with|some (.int k')=>jA k k'|_=>false
def CX(P:Program)(t:TypeId):Bool:=(P.underlying t).isSome
def dQ(P:Program)(t:TypeId)(n:Nat):Bool:=match P.info? t with|some i=>Nat.beq i.size n|none=>false
def qE(P:Program)(t:TypeId)(b:Bool):Bool:=match P.underlying t with
 |some (.struct _)|some (.array _ _)=>b
 |some _=> !b
 |none=>false
def jP(P:Program)(t:TypeId)(z:List V):Bool:=match P.info? t with
 |some i=>match i.zero with
  |some x=>qZ z x.cells.toList
  |none=>false
 |none=>false
def fY(P:Program)(t:TypeId)(kd:Nat):Bool:=match kd,P.underlying t with
 |0,some (.pointer _)|1,some (.slice _)|2,some (.map _ _)|3,some (.func _ _ _)|4,some (.interface _)=>true
 |_,_=>false
def kA(P:Program)(t:TypeId)(arr:Option Nat)(esz:Nat):Bool:=match arr,P.underlying t with
 |none,some (.slice e)=>dQ P e esz
 |some n,some (.array n' e)=>Nat.beq n n'&&dQ P e esz
 |_,_=>false
section
variable {P : Program} {w : World} {t : TypeId}
theorem aL{d:TypeDesc}(h:P.underlying t=some d):(underlying t).run P w=.ok d w:=by simp[underlying,h]
theorem eJ{i:TypeInfo}(h:P.info? t=some i):(typeInfo t).run P w=.ok i w:=by simp[typeInfo,h]
theorem cH{n:Nat}(h:dQ P t n=true):(sizeOf t).run P w=.ok n w:=by
 unfold dQ at h;split at h
 ·rename_i i Z;simp[sizeOf,eJ Z,py h]
 ·cases h
theorem jz{b:Bool}(h:qE P t b=true):(isAgg t).run P w=.ok b w:=by
 unfold qE at h;split at h
 ·rename_i f hf;subst h;simp[isAgg,aL hf]
 ·rename_i n e hf;subst h;simp[isAgg,aL hf]
 ·rename_i d R Z U;cases b<;>simp at h;cases d<;>simp_all [isAgg,aL]
 ·cases h
theorem iF{z:List V}(h:jP P t z=true):∃x,(zeroValue t).run P w=.ok x w/\qZ z x.cells.toList=true:=by
 unfold jP at h;split at h
 ·rename_i i Z;split at h
  ·rename_i x hx;exact⟨x,by simp[zeroValue,eJ Z,hx],h⟩
  ·cases h
 ·cases h
end
def sZ:Operand->Bool
 |.const _=>true
 |_=>false
def dT(P:Program)(t:TypeId):List (Nat×Operand)->List (Nat×Nat)->Bool
 |[],[]=>true
 |(i,_)::ps,(off,n)::qs=>
  (match P.underlying t with
   |some (.struct fields)=>match fields[i]? with
    |some fd=>Nat.beq fd.offset off&&dQ P fd.type n
    |none=>false
   |some (.array _ e)=>Nat.beq off (i*n)&&dQ P e n
   |_=>false)&&dT P t ps qs
 |_,_=>false
def xj(P:Program)(t:TypeId):Bool:=
 match P.underlying t with
 |some (.struct fields)=>fields.toList.all fun f=>(P.info? f.type).isSome
 |some (.array _ e)=>(P.info? e).isSome
 |_=>false
def Dc(P:Program)(s:TypeId)(f off:Nat):Bool:=match P.underlying s with
 |some (.struct fields)=>match fields[f]? with
  |some fd=>Nat.beq fd.offset off&&(match P.info? fd.type with|some i=> !(Nat.beq i.size 0)|none=>false)
  |none=>false
 |_=>false
def du(op:Op)(b:Builtin):Option (Array Operand×Array TypeId):=
 match op with
 |.call {callee:=.builtin b',args,argTypes}=>if b=b' then some (args,argTypes)else none
 |_=>none
def sF(P:Program)(op:Op)(b:Builtin)(ok:TypeDesc->Bool):Bool:=
 match du op b with
 |some (args,ts)=>Nat.beq args.size 1&&(match ts[0]? with
  |some t=>match P.underlying t with
   |some d=>ok d
   |none=>false
  |none=>false)
 |none=>false
def xQ(P:Program)(t:TypeId)(k:Nat):Bool:=match k,P.underlying t with
 |0,some (.int _)|1,some .bool|2,some .string=>true
 |_,_=>false
def pB(P:Program):Nat->List Field->List Nat->Bool
 |_,[],[]=>true
 |j,f::fs,k::ks=> !(f.name== "_")&&Nat.beq f.offset j&&xQ P f.type k&&pB P (j+1) fs ks
 |_,_,_=>false
def LK(P:Program)(t:TypeId)(ks:List Nat):Bool:=match P.underlying t with
 |some (.struct fields)=> !P.stoodInHeld t&& !P.eqGuardType P.depth t&&pB P 0 fields.toList ks
 |_=>false
def CW(P:Program)(t:TypeId):Bool:=match P.underlying t with|some .string=>true|_=>false
def bG(P:Program)(op:Op):PK->Bool
 |.mv=>match op with|.move _|.assign _=>true|_=>false
 |.pick=>match op with|.pick _ _ _=>true|_=>false
 |.nilck=>match op with|.nilCheck _=>true|_=>false
 |.ib b=>match op with|.binOp b' _ _ _ _=>decide (b=b')|_=>false
 |.sh l=>match op with|.binOp b' _ _ _ _=>decide (b'=bif l then BinOp.shl else BinOp.shr)|_=>false
 |.not=>match op with|.unOp .not _ _=>true|_=>false
 |.neg=>match op with|.unOp .neg _ _=>true|_=>false
 |.bb ne=>match op with|.binOp b t _ _ _=>decide (b=bif ne then BinOp.neq else BinOp.eql)&&(match P.underlying t with|some .bool=>true|_=>false)|_=>false
 |.nil kd ne=>match op with|.binOp b t x y _=>decide (b=bif ne then BinOp.neq else BinOp.eql)&&fY P t kd&&(sZ x||sZ y)|_=>false
 |.faddr off=>match op with|.fieldAddr s _ f=>Dc P s f off|_=>false
 |.ixa len esz=>match op with|.indexAddr t _ _=>kA P t (some len) esz|_=>false
 |.ixs esz=>match op with|.indexAddr t _ _=>kA P t none esz|_=>false
 |.ixarr len esz a=>match op with|.index t _ _=>(match P.underlying t with|some (.array n e)=>Nat.beq n len&&dQ P e esz&&qE P e a|_=>false)|_=>false
 |.ext i=>match op with|.extract _ j=>Nat.beq i j|_=>false
 |.mkf fn n=>match op with|.makeFunc fn' first _=>decide (fn=fn')&&Nat.beq first.size n|_=>false
 |.mki t=>match op with|.makeInterface t' _=>Nat.beq t t'&&(match P.underlying t with|some (.interface _)=>false|some _=>true|none=>false)|_=>false
 |.tya t=>match op with|.typeAssert _ _ t' true=>Nat.beq t t'&&(match P.underlying t with|some (.interface _)=>false|some _=>true|none=>false)|_=>false
 |.build zero places=>match op with|.build t parts=>jP P t zero&&dT P t parts.toList places&&xj P t|_=>false
 |.sl arr esz lo hi mx=>match op with|.slice t _ l h m=>kA P t arr esz&&(l.isSome==lo)&&(h.isSome==hi)&&(m.isSome==mx)|_=>false
 |.lenS=>sF P op .len fun|.slice _=>true|_=>false
 |.capS=>sF P op .cap fun|.slice _=>true|_=>false
 |.mn=>match du op .min with|some (args,_)=>Nat.beq args.size 2|none=>false
 |.mx=>match du op .max with|some (args,_)=>Nat.beq args.size 2|none=>false
 |.conv k=>match op with|.convert s d _=>CX P s&&Mi P d k|_=>false
 |.seq ne ks=>match op with|.binOp b t _ _ _=>decide (b=bif ne then BinOp.neq else BinOp.eql)&&LK P t ks|_=>false
 |.sb b=>match op with|.binOp b' _ _ _ _=>decide (b=b')|_=>false
 |.lenStr=>sF P op .len fun|.string=>true|_=>false
 |.ixstr=>match op with|.index t _ _=>CW P t|_=>false
 |.slstr lo hi=>match op with|.slice t _ l h m=>CW P t&&(l.isSome==lo)&&(h.isSome==hi)&&m.isNone|_=>false
section
variable {P : Program} {w : World}
theorem qk{op:BinOp}{t:TypeId}{x y:Operand}{k k':IntKind}{a b:Int}:(eqGuard op t x y (.int k a) (.int k' b)).run P w=.ok () w:=by cases op<;>rfl
theorem mV{op:BinOp}{t:TypeId}{x y:Operand}{a b:Bool}:(eqGuard op t x y (.bool a) (.bool b)).run P w=.ok () w:=by cases op<;>rfl
theorem j8{op:BinOp}{t:TypeId}{x y:Operand}{a b:Option Addr}:(eqGuard op t x y (.pointer a) (.pointer b)).run P w=.ok () w:=by cases op<;>rfl
theorem eO{op:BinOp}{t:TypeId}{x y:Operand}{a b:Option Addr}{l c Z c':Nat}:(eqGuard op t x y (.slice a l c) (.slice b Z c')).run P w=.ok () w:=by cases op<;>rfl
theorem j9{op:BinOp}{t:TypeId}{x y:Operand}{a b:Option Nat}:(eqGuard op t x y (.map a) (.map b)).run P w=.ok () w:=by cases op<;>rfl
theorem uH{op:BinOp}{t:TypeId}{x y:Operand}:(eqGuard op t x y .nilFunc .nilFunc).run P w=.ok () w:=by cases op<;>rfl
theorem uG{op:BinOp}{t:TypeId}{x y:Operand}{f:Fn}{a b:Array Value}:(eqGuard op t x y .nilFunc (.func f a b)).run P w=.ok () w:=by cases op<;>rfl
theorem uF{op:BinOp}{t:TypeId}{x y:Operand}{f:Fn}{a b:Array Value}:(eqGuard op t x y (.func f a b) .nilFunc).run P w=.ok () w:=by cases op<;>rfl
theorem z8{op:BinOp}{t:TypeId}{x y:Operand}(h:(sZ x||sZ y)=true):(eqGuard op t x y .nilIface .nilIface).run P w=.ok () w:=by
 unfold eqGuard;cases x<;>cases y<;>simp[sZ]at h<;>cases op<;>rfl
theorem zZ{op:BinOp}{t:TypeId}{x y:Operand}{u:TypeId}{a:Value}:(eqGuard op t x y .nilIface (.iface u a)).run P w=.ok () w:=by cases op<;>rfl
theorem zY{op:BinOp}{t:TypeId}{x y:Operand}{u:TypeId}{a:Value}:(eqGuard op t x y (.iface u a) .nilIface).run P w=.ok () w:=by cases op<;>rfl
theorem ON{t:TypeId}(h:fY P t 0=true):∃e,P.underlying t=some (.pointer e):=by unfold fY at h;split at h<;>simp_all
theorem OM{t:TypeId}(h:fY P t 1=true):∃e,P.underlying t=some (.slice e):=by unfold fY at h;split at h<;>simp_all
theorem OL{t:TypeId}(h:fY P t 2=true):∃e f,P.underlying t=some (.map e f):=by unfold fY at h;split at h<;>simp_all
theorem OK{t:TypeId}(h:fY P t 3=true):∃e f g,P.underlying t=some (.func e f g):=by unfold fY at h;split at h<;>simp_all
theorem OJ{t:TypeId}(h:fY P t 4=true):∃e,P.underlying t=some (.interface e):=by unfold fY at h;split at h<;>simp_all
theorem EA{kd:Nat}{a b:V}{r:Bool}(h:jX kd a b=some r){t:TypeId}(hk:fY P t kd=true){m:M}{x y:Value}(ra:VRel m a x)(rb:VRel m b y)(d:Nat):
 (Op.equalIn (d+1) t x y).run P w=.ok r w:=by
 unfold jX at h;split at h;case h_22=>cases h
 all_goals
  simp only[Option.some.injEq]at h;subst h;simp only[VRel]at ra rb;first
   |(obtain⟨e,hu⟩:=ON hk)
   |(obtain⟨e,hu⟩:=OM hk)
   |(obtain⟨e,f,hu⟩:=OL hk)
   |(obtain⟨e,f,g,hu⟩:=OK hk)
   |(obtain⟨e,hu⟩:=OJ hk)
  simp only[Op.equalIn,Sem.run_bind,aL hu,Result.andThen_ok];first
   |(subst ra;subst rb;rfl)
   |(subst ra;obtain⟨_,_,rfl⟩:=rb;rfl)
   |(obtain⟨_,_,rfl⟩:=ra;subst rb;rfl)
   |(subst ra;obtain⟨_,_,_,rfl⟩:=rb;rfl)
   |(obtain⟨_,_,_,rfl⟩:=ra;subst rb;rfl)
   |(subst ra;obtain⟨_,_,rfl,_⟩:=rb;rfl)
   |(obtain⟨_,_,rfl,_⟩:=ra;subst rb;rfl)
   |(subst ra;obtain⟨_,rfl,_⟩:=rb;rfl)
   |(obtain⟨_,rfl,_⟩:=ra;subst rb;rfl)
theorem zx{kd:Nat}{a b:V}{r:Bool}(h:jX kd a b=some r){t:TypeId}{m:M}{x y:Value}(Z:VRel m a x)(U:VRel m b y){op:BinOp}{u v:Operand}(R:(sZ u||sZ v)=true):
 (eqGuard op t u v x y).run P w=.ok () w:=by
 have h':(jX kd a b).isSome=true:=by rw[h];rfl
 clear h;unfold jX at h';split at h'<;>simp at h'<;>simp only[VRel]at Z U;all_goals first
  |(subst Z;subst U;first|exact j8|exact eO|exact j9|exact uH|exact z8 R)
  |(subst Z;obtain⟨_,_,rfl⟩:=U;first|exact j8|exact eO|exact j9)
  |(obtain⟨_,_,rfl⟩:=Z;subst U;first|exact j8|exact eO|exact j9)
  |(subst Z;obtain⟨_,_,_,rfl⟩:=U;exact eO)
  |(obtain⟨_,_,_,rfl⟩:=Z;subst U;exact eO)
  |(subst Z;obtain⟨_,_,rfl,_⟩:=U;exact uG)
  |(obtain⟨_,_,rfl,_⟩:=Z;subst U;exact uF)
  |(subst Z;obtain⟨_,rfl,_⟩:=U;exact zZ)
  |(obtain⟨_,rfl,_⟩:=Z;subst U;exact zY)
theorem EC{kd:Nat}{a b:V}{r:Bool}(h:jX kd a b=some r){m:M}{x y:Value}(Z:VRel m a x)(U:VRel m b y)(t:TypeId):
 (binOp .eql t x y=do pure (.bool (<-Op.equal t x y)))/\(binOp .neq t x y=do pure (.bool (!(<-Op.equal t x y)))):=by
 have h':(jX kd a b).isSome=true:=by rw[h];rfl
 clear h;unfold jX at h';split at h'<;>simp at h'<;>simp only[VRel]at Z U;all_goals first
  |(subst Z;subst U;exact⟨rfl,rfl⟩)
  |(subst Z;obtain⟨_,_,rfl⟩:=U;exact⟨rfl,rfl⟩)
  |(obtain⟨_,_,rfl⟩:=Z;subst U;exact⟨rfl,rfl⟩)
  |(subst Z;obtain⟨_,_,_,rfl⟩:=U;exact⟨rfl,rfl⟩)
  |(obtain⟨_,_,_,rfl⟩:=Z;subst U;exact⟨rfl,rfl⟩)
  |(subst Z;obtain⟨_,_,rfl,_⟩:=U;exact⟨rfl,rfl⟩)
  |(obtain⟨_,_,rfl,_⟩:=Z;subst U;exact⟨rfl,rfl⟩)
  |(subst Z;obtain⟨_,rfl,_⟩:=U;exact⟨rfl,rfl⟩)
  |(obtain⟨_,rfl,_⟩:=Z;subst U;exact⟨rfl,rfl⟩)
end
theorem VRel.cells{m:M}{v:V}{x:Value}(h:VRel m v x):VsRel m v.cells x.cells.toList:=by
 cases v<;>simp only[V.cells];case agg l=>
  obtain⟨Z,rfl,r⟩:=h;simpa[Value.cells]using r
 all_goals
  have h0:=h;simp only[VRel]at h;first
   |(subst h;exact⟨_,[],rfl,h0,rfl⟩)
   |(obtain⟨_,_,rfl⟩:=h;exact⟨_,[],rfl,h0,rfl⟩)
   |(obtain⟨_,_,_,rfl⟩:=h;exact⟨_,[],rfl,h0,rfl⟩)
   |(obtain⟨_,rfl,_⟩:=h;exact⟨_,[],rfl,h0,rfl⟩)
   |(obtain⟨_,_,rfl,_⟩:=h;exact⟨_,[],rfl,h0,rfl⟩)
section
variable {P : Program} {m : M}
abbrev OV(ρ:Operand->Value)(op:Op):List Value:=op.operands.toList.map ρ
def PS(P:Program)(m:M)(o:Oper)(ρ:Operand->Value)(v:V):Prop:=∃x,VRel m v x/\∀w,(execOp ρ o).run P w=.ok (.value x) w
theorem bJ{v:V}{Z:List Value}(h:VsRel m [v] Z):∃x,Z=[x]/\VRel m v x:=by
 obtain⟨x,r,rfl,a,rfl⟩:=h;exact⟨x,rfl,a⟩
theorem bR{u v:V}{Z:List Value}(h:VsRel m [u,v] Z):∃x y,Z=[x,y]/\VRel m u x/\VRel m v y:=by
 obtain⟨x,r,rfl,a,h⟩:=h;obtain⟨y,rfl,b⟩:=bJ h;exact⟨x,y,rfl,a,b⟩
theorem yT{u v t:V}{Z:List Value}(h:VsRel m [u,v,t] Z):∃x y z,Z=[x,y,z]/\VRel m u x/\VRel m v y/\VRel m t z:=by
 obtain⟨x,r,rfl,a,h⟩:=h;obtain⟨y,z,rfl,b⟩:=bR h;exact⟨x,y,z,rfl,a,b⟩
theorem Pv{o:Oper}{ρ:Operand->Value}{x v:V}(Z:bG P o.op .mv=true)(hv:VsRel m [x] (OV ρ o.op))(h:some x=some v):PS P m o ρ v:=by
 cases h;simp only[bG]at Z;split at Z
 ·exact yah
 ·exact yah
 ·cases Z
theorem Lw{o:Oper}{ρ:Operand->Value}{c:Bool}{a b:V}(U:bG P o.op .pick=true)(D:VsRel m [.bool c,a,b] (OV ρ o.op)):PS P m o ρ (bif c then a else b):=by
 simp only[bG]at U;split at U
 ·rename_i p q r Z;obtain⟨x,y,z,e,R,ry,rz⟩:=yT D;rw[Z]at e;change[ρ p,ρ q,ρ r]=[x,y,z]at e;simp only[QC,and_true]at e;obtain⟨J,e2,I⟩:=e;simp only[VRel]at R;cases c
  ·exact⟨z,rz,fun w=>by simp[execOp,Z,J,I,R,asBool]⟩
  ·exact⟨y,ry,fun w=>by simp[execOp,Z,J,e2,R,asBool]⟩
 ·cases U
theorem JG{o:Oper}{ρ:Operand->Value}{b off:Nat}(Z:bG P o.op .nilck=true)(R:VsRel m [.ptr b off] (OV ρ o.op)):PS P m o ρ (.ptr b off):=by
 simp only[bG]at Z;split at Z
 ·rename_i p U;obtain⟨x,e,r⟩:=bJ R;rw[U]at e;simp[Op.operands]at e;have r0:=r;obtain⟨loc,hm,rfl⟩:=r;exact⟨_,r0,fun w=>by simp[execOp,U,e]⟩
 ·cases Z
theorem Gc{o:Oper}{ρ:Operand->Value}{f:FuncId}{a c:List V}(Z:bG P o.op .nilck=true)(R:VsRel m [.func (.func f) a c] (OV ρ o.op)):PS P m o ρ (.func (.func f) a c):=by
 simp only[bG]at Z;split at Z
 ·rename_i p U;obtain⟨x,e,r⟩:=bJ R;rw[U]at e;simp[Op.operands]at e;have r0:=r;obtain⟨J,c',rfl,_⟩:=r;exact⟨_,r0,fun w=>by simp[execOp,U,e]⟩
 ·cases Z
theorem Px{o:Oper}{ρ:Operand->Value}{op:BinOp}{k k':IntKind}{a b:Int}{v:V}(Z:bG P o.op (.ib op)=true)(hv:VsRel m [.int k a,.int k' b] (OV ρ o.op))
 (h:(bif jA k k' then jO op k a b else none)=some v):PS P m o ρ v:=by
 cases R:jA k k'
 ·grind
 ·rw[R]at h;simp only[cond_true]at h;have:=mP R;subst this;simp only[bG]at Z;split at Z
  ·rename_i b' t x y yt J;have hb:op=b':=by simpa using Z
   subst hb;obtain⟨x',y',e,rx,D⟩:=bR hv;rw[J]at e;change[ρ x,ρ y]=[x',y']at e;simp only[QC,and_true]at e;simp only[VRel]at rx D;obtain⟨z,_,I,_⟩:=zM h P default t;refine⟨z,I m,fun w=>?_⟩;obtain⟨z',hz,U,_⟩:=zM h P w t;have:z'=z:=by
    have r1:=I m;have r2:=U m;cases v with
    |int k n=>simp only[VRel]at r1 r2;rw[r1,r2]
    |bool b=>simp only[VRel]at r1 r2;rw[r1,r2]
    |_=>cases op<;>simp only[jO]at h<;>first|(cases h;done)|(cases hq:ieq b 0<;>rw[hq]at h<;>cases h)
   rw[<-this];simp[execOp,J,e.1,e.2,rx,D,qk,hz]
  ·cases Z
theorem Pq{o:Oper}{ρ:Operand->Value}{left:Bool}{k k':IntKind}{a b:Int}{v:V}(Z:bG P o.op (.sh left)=true)(hv:VsRel m [.int k a,.int k' b] (OV ρ o.op))
 (h:sW left k a b=some v):PS P m o ρ v:=by
 simp only[bG]at Z;split at Z
 ·rename_i b' t x y yt R;have hb:b'=bif left then BinOp.shl else BinOp.shr:=by simpa using Z
  obtain⟨x',y',e,D,I⟩:=bR hv;rw[R]at e;change[ρ x,ρ y]=[x',y']at e;simp only[QC,and_true]at e;simp only[VRel]at D I;obtain⟨z,_,J,_⟩:=sV (k':=k') h P default t;refine⟨z,J m,fun w=>?_⟩;obtain⟨z',hz,U,_⟩:=sV (k':=k') h P w t;have:z'=z:=by
   have r1:=J m;have r2:=U m;cases b with
   |ofNat n=>simp only[sW,QA]at h;subst h;simp only[VRel]at r1 r2;rw[r1,r2]
   |negSucc n=>cases h
  rw[<-this];subst hb;simp[execOp,R,e.1,e.2,D,I,qk,hz]
 ·cases Z
theorem N1{o:Oper}{ρ:Operand->Value}{b:Bool}(Z:bG P o.op .not=true)(R:VsRel m [.bool b] (OV ρ o.op)):PS P m o ρ (.bool (!b)):=by
 simp only[bG]at Z;split at Z
 ·rename_i t p U;obtain⟨x,e,r⟩:=bJ R;rw[U]at e;simp[Op.operands]at e;simp only[VRel]at r;exact⟨.bool (!b),rfl,fun w=>by simp[execOp,U,e,r,Op.unary]⟩
 ·cases Z
theorem N4{o:Oper}{ρ:Operand->Value}{k:IntKind}{n:Int}(Z:bG P o.op .neg=true)(R:VsRel m [.int k n] (OV ρ o.op)):PS P m o ρ (.int k (aB k (Int.sub 0 n))):=by
 simp only[bG]at Z;split at Z
 ·rename_i t p U;obtain⟨x,e,r⟩:=bJ R;rw[U]at e;simp[Op.operands]at e;simp only[VRel]at r;exact⟨.int k (k.wrap (0-n)),by rw[bq];rfl,fun w=>by simp[execOp,U,e,r,Op.unary,Op.intArith]⟩
 ·cases Z
theorem ti{t:TypeId}(Z:P.underlying t=some .bool){w:World}(a b:Bool)(d:Nat):(Op.equalIn (d+1) t (.bool a) (.bool b)).run P w=.ok (a==b) w:=by
 simp only[Op.equalIn,Qz,aL Z,Qr];rfl
theorem Py{o:Oper}{ρ:Operand->Value}{ne a b:Bool}(R:bG P o.op (.bb ne)=true)(hv:VsRel m [.bool a,.bool b] (OV ρ o.op)):PS P m o ρ (.bool (bif ne then xor a b else !(xor a b))):=by
 simp only[bG]at R;split at R
 ·rename_i b' t x y yt U;simp only[be,decide_eq_true_eq]at R;obtain⟨hb,hu⟩:=R;have J:P.underlying t=some .bool:=by grind
  obtain⟨x',y',e,D,I⟩:=bR hv;rw[U]at e;change[ρ x,ρ y]=[x',y']at e;simp only[QC,and_true]at e;simp only[VRel]at D I;refine⟨_,rfl,fun w=>?_⟩;have Z:(Op.equal t (.bool a) (.bool b)).run P w=.ok (a==b) w:=ti J a b 9999;subst hb;cases ne
  ·simp only[cond_false]at U;simp only[cond_false,execOp,U,e.1,e.2,D,I,Qz,mV,Qr];have:binOp BinOp.eql t (.bool a) (.bool b)=(do pure (.bool (<-Op.equal t (.bool a) (.bool b)))):=rfl;rw[this];simp only[Qz,Z,Qr];cases a<;>cases b<;>rfl
  ·simp only[cond_true]at U;simp only[cond_true,execOp,U,e.1,e.2,D,I,Qz,mV,Qr];have:binOp BinOp.neq t (.bool a) (.bool b)=(do pure (.bool (!(<-Op.equal t (.bool a) (.bool b))))):=rfl;rw[this];simp only[Qz,Z,Qr];cases a<;>cases b<;>rfl
 ·cases R
theorem N3{o:Oper}{ρ:Operand->Value}{kd:Nat}{ne:Bool}{a b:V}{r:Bool}(R:bG P o.op (.nil kd ne)=true)(hv:VsRel m [a,b] (OV ρ o.op))(h:jX kd a b=some r):
 PS P m o ρ (.bool (bif ne then !r else r)):=by
 simp only[bG]at R;split at R
 ·rename_i b' t x y yt U;simp only[be,decide_eq_true_eq]at R;obtain⟨⟨hb,hk⟩,J⟩:=R;obtain⟨x',D,e,rx,ry⟩:=bR hv;rw[U]at e;change[ρ x,ρ y]=[x',D]at e;simp only[QC,and_true]at e;refine⟨_,rfl,fun w=>?_⟩;have Z:(Op.equal t x' D).run P w=.ok r w:=EA h hk rx ry 9999;have I:(eqGuard b' t x y x' D).run P w=.ok () w:=zx h rx ry J;obtain⟨b1,b2⟩:=EC h rx ry t;subst hb;cases ne
  ·simp only[cond_false]at I U|-;simp only[execOp,U,e.1,e.2,Qz,I,Qr,b1,Z];rfl
  ·simp only[cond_true]at I U|-;simp only[execOp,U,e.1,e.2,Qz,I,Qr,b2,Z];rfl
 ·cases R
theorem JK{o:Oper}{ρ:Operand->Value}{off b k:Nat}(Z:bG P o.op (.faddr off)=true)(hv:VsRel m [.ptr b k] (OV ρ o.op)):PS P m o ρ (.ptr b (k+off)):=by
 simp only[bG]at Z;split at Z
 ·rename_i s x f J;obtain⟨x',e,r⟩:=bJ hv;rw[J]at e;simp[Op.operands]at e;obtain⟨loc,hm,rfl⟩:=r;unfold Dc at Z;split at Z
  ·rename_i R I;split at Z
   ·rename_i fd hf;simp only[be]at Z;obtain⟨D,U⟩:=Z;split at U
    ·rename_i i hi';have hs:¬i.size=0:=by intro q;rw[q]at U;simp at U
     refine⟨_,⟨loc,hm,rfl⟩,fun w=>?_⟩;have:=py D;simp[execOp,J,e,Instr.fieldAt,aL I,hf,Instr.sureAddr,fieldPlace,sizeOf,eJ hi',hs,gu,this,RT]
    ·cases U
   ·cases Z
  ·cases Z
 ·cases Z
end
section
variable {P : Program} {m : M}
theorem VsRel.take{l:List V}{R:List Value}(h:VsRel m l R)(n:Nat):VsRel m (l.take n) (R.take n):=by
 refine VsRel.of_get (by simp[h.length]) fun i v Z=>?_;rw[Sc]at Z|-;split at Z
 ·rename_i U;rw[if_pos U];exact h.get i v Z
 ·cases Z
theorem VsRel.drop{l:List V}{Z:List Value}(h:VsRel m l Z)(n:Nat):VsRel m (l.drop n) (Z.drop n):=by
 refine VsRel.of_get (by simp[h.length]) fun i v U=>?_;rw[Rl]at U|-;exact h.get _ v U
noncomputable def wN(l:List V)(off n:Nat)(isAgg:Bool):Option V:=bif isAgg then(dL n (fQ l off)).map .agg else nth l off
theorem Ht{l:List V}{Z:List Value}{off n:Nat}{U:Bool}{v:V}{t:TypeId}(h:wN l off n U=some v)(r:VsRel m l Z)(J:dQ P t n=true)(R:qE P t U=true):
 ∃x,VRel m v x/\∀w,(part t (List.toArray Z) off).run P w=.ok x w:=by
 unfold wN at h;cases U
 ·simp only[cond_false]at h;rw[fq]at h;obtain⟨x,hx,I⟩:=r.get off v h;refine⟨x,I,fun w=>?_⟩;simp[part,jz R,hx]
 ·simp only[cond_true]at h;cases ht:dL n (fQ l off)with
  |none=>rw[ht]at h;cases h
  |some c=>
   rw[ht]at h;cases h;obtain⟨rfl,D⟩:=iE ht;rw[bA];refine⟨.agg (List.toArray ((Z.drop off).take n)),⟨_,rfl,(r.drop off).take n⟩,fun w=>?_⟩;simp only[part,Qz,jz R,Qr,if_true,cH J,QL];congr 2;apply SY;simp[List.extract_eq_take_drop]
theorem pO{v:V}{len n:Nat}(h:lD v len=some n):∃k,v=.int k (.ofNat n)/\n<len:=by
 unfold lD at h;split at h
 ·rename_i k U;cases Z:Nat.blt U len
  ·grind
  ·rw[Z]at h;cases h;exact⟨k,rfl,by simpa[QJ]using Z⟩
 ·cases h
theorem mw{t:TypeId}{esz:Nat}(h:kA P t none esz=true):∃e,P.underlying t=some (.slice e)/\dQ P e esz=true:=by
 unfold kA at h;split at h<;>simp_all
theorem Ab{t:TypeId}{n esz:Nat}(h:kA P t (some n) esz=true):∃e,P.underlying t=some (.array n e)/\dQ P e esz=true:=by
 unfold kA at h;split at h
 ·simp_all
 ·rename_i n0 R e Z U;simp only[QA]at Z;subst Z;simp only[be]at h;have:=py h.1;subst this;exact⟨e,U,h.2⟩
 ·cases h
theorem N7{o:Oper}{ρ:Operand->Value}{len esz b k n:Nat}{i:V}(Z:bG P o.op (.ixa len esz)=true)(hv:VsRel m [.ptr b k,i] (OV ρ o.op))
 (h:lD i len=some n):PS P m o ρ (.ptr b (k+n*esz)):=by
 simp only[bG]at Z;split at Z
 ·rename_i t x y U;obtain⟨x',J,e,rx,R⟩:=bR hv;rw[U]at e;change[ρ x,ρ y]=[x',J]at e;simp only[QC,and_true]at e;obtain⟨loc,hm,rfl⟩:=rx;obtain⟨ik,rfl,D⟩:=pO h;simp only[VRel]at R;obtain⟨e',I,hs⟩:=Ab Z;refine⟨_,⟨loc,hm,rfl⟩,fun w=>?_⟩;have h1:(0:Int)<=Int.ofNat n/\Int.ofNat n<(len:Int):=by grind
  simp only[execOp,U,e.1,e.2,R,Instr.indexAt,asIntOf,Instr.sureAddr,Qz,QL,aL I,Qr];rw[if_pos h1];simp[cH hs,gu,RT]
 ·cases Z
theorem JI{o:Oper}{ρ:Operand->Value}{esz b k len n:Nat}{i s:V}{loc:Loc}(hm:m b=some loc)(Z:bG P o.op (.ixs esz)=true)(hv:VsRel m [s,i] (OV ρ o.op))
 (hs:∀x,VRel m s x->∃c,x=.slice (some ⟨loc.block,loc.base+k,none⟩) len c) (h:lD i len=some n):PS P m o ρ (.ptr b (k+n*esz)):=by
 simp only[bG]at Z;split at Z
 ·rename_i t x y R;obtain⟨x',I,e,rx,J⟩:=bR hv;rw[R]at e;change[ρ x,ρ y]=[x',I]at e;simp only[QC,and_true]at e;obtain⟨c,rfl⟩:=hs _ rx;obtain⟨ik,rfl,ab⟩:=pO h;simp only[VRel]at J;obtain⟨e',D,U⟩:=mw Z;refine⟨_,⟨loc,hm,rfl⟩,fun w=>?_⟩;have h1:(0:Int)<=Int.ofNat n/\Int.ofNat n<(len:Int):=by grind
  simp only[execOp,R,e.1,e.2,J,Instr.indexAt,asIntOf,Instr.sureAddr,Qz,QL,aL D,Qr];rw[if_pos h1];simp[cH U,gu,RT]
 ·cases Z
theorem JJ{o:Oper}{ρ:Operand->Value}{len esz n:Nat}{J:Bool}{l:List V}{i v:V}(Z:bG P o.op (.ixarr len esz J)=true)(hv:VsRel m [.agg l,i] (OV ρ o.op))
 (h:lD i len=some n) (I:wN l (n*esz) esz J=some v):PS P m o ρ v:=by
 simp only[bG]at Z;split at Z
 ·rename_i t x y U;obtain⟨x',y',e,rx,R⟩:=bR hv;rw[U]at e;change[ρ x,ρ y]=[x',y']at e;simp only[QC,and_true]at e;obtain⟨l',rfl,rl⟩:=rx;obtain⟨ik,rfl,ab⟩:=pO h;simp only[VRel]at R;split at Z
  ·rename_i n' e' D;simp only[be]at Z;have hn:=py Z.1.1;subst hn;obtain⟨z,rz,hz⟩:=Ht I rl Z.1.2 Z.2;refine⟨z,rz,fun w=>?_⟩;have h1:(0:Int)<=Int.ofNat n/\Int.ofNat n<(n':Int):=by grind
   simp only[execOp,U,e.1,e.2,R,Instr.index,asIntOf,Qz,QL,aL D,Qr];rw[if_pos h1];simp[cH Z.1.2,hz]
  ·cases Z
 ·cases Z
theorem N8{o:Oper}{ρ:Operand->Value}{i:Nat}{l:List V}{v:V}(Z:bG P o.op (.ext i)=true)(J:VsRel m [.tup l] (OV ρ o.op))(h:nth l i=some v):PS P m o ρ v:=by
 simp only[bG]at Z;split at Z
 ·rename_i x j U;obtain⟨D,e,r⟩:=bJ J;rw[U]at e;simp[Op.operands]at e;obtain⟨l',rfl,R⟩:=r;have:=py Z;subst this;rw[fq]at h;obtain⟨x,hx,I⟩:=R.get i v h;exact⟨x,I,fun w=>by simp[execOp,U,e,Instr.extract,hx]⟩
 ·cases Z
theorem N6{o:Oper}{ρ:Operand->Value}{fn:Fn}{n:Nat}{vs f:List V}(Z:bG P o.op (.mkf fn n)=true)(U:VsRel m vs (OV ρ o.op))(h:dL n vs=some f):PS P m o ρ (.func fn f (fQ vs n)):=by
 simp only[bG]at Z;split at Z
 ·rename_i ab first cap I
  simp only[be,decide_eq_true_eq]at Z;obtain⟨rfl,hn⟩:=Z;have R:=py hn;obtain⟨rfl,_⟩:=iE h;rw[bA];rw[I]at U;have ho:OV ρ (.makeFunc fn first cap)=(first.toList.map ρ)++(cap.toList.map ρ):=by simp[OV,Op.operands]
  rw[ho]at U;have D:=U.take n;have J:=U.drop n;have hl:(first.toList.map ρ).length=n:=by simp[R]
  rw[List.take_left' hl]at D;rw[List.drop_left' hl]at J;exact⟨.func fn (List.toArray (first.toList.map ρ)) (List.toArray (cap.toList.map ρ)),⟨_,_,rfl,D,J⟩,fun w=>by
   have q:∀a:Array Operand,Array.map ρ a=List.toArray (a.toList.map ρ):=fun a=>SY iS;simp[execOp,I,Instr.makeFunc,q]⟩
 ·cases Z
theorem N5{o:Oper}{ρ:Operand->Value}{t:Nat}{v:V}(Z:bG P o.op (.mki t)=true)(D:VsRel m [v] (OV ρ o.op)):PS P m o ρ (.iface t v):=by
 simp only[bG]at Z;split at Z
 ·rename_i t' x U;obtain⟨R,e,r⟩:=bJ D;rw[U]at e;simp[Op.operands]at e;simp only[be]at Z;have:=py Z.1;subst this;refine⟨.iface t R,⟨R,rfl,r⟩,fun w=>?_⟩;obtain⟨_,Z⟩:=Z;split at Z
  ·cases Z
  ·rename_i d I J;simp only[execOp,U,e,Instr.makeInterface,Qz,aL J,Qr];cases d<;>first|rfl|exact absurd rfl (I _)
  ·cases Z
 ·cases Z
theorem NZ{o:Oper}{ρ:Operand->Value}{t U:Nat}{v:V}(Z:bG P o.op (.tya t)=true)(D:VsRel m [.iface U v] (OV ρ o.op))(ht:Nat.beq t U=true):PS P m o ρ (.tup [v,.bool true]):=by
 have:=py ht;subst this;simp only[bG]at Z;split at Z
 ·rename_i x xt U R;obtain⟨x',e,r⟩:=bJ D;obtain⟨y,rfl,r⟩:=r;rw[R]at e;simp[Op.operands]at e;simp only[be]at Z;have:=py Z.1;subst this;refine⟨.tuple (List.toArray [y,.bool true]),⟨_,rfl,⟨_,_,rfl,r,⟨_,_,rfl,rfl,rfl⟩⟩⟩,fun w=>?_⟩;obtain⟨_,Z⟩:=Z;split at Z
  ·cases Z
  ·rename_i d I J;simp only[execOp,R,e,Instr.typeAssert,Qz,aL J,Qr];cases d<;>first|rfl|(simp;rfl)|exact absurd rfl (I _)
  ·cases Z
 ·cases Z
theorem xG{op:Op}{b:Builtin}{ok:TypeDesc->Bool}(h:sF P op b ok=true):∃x ts t d,op=.call {callee:=.builtin b,args:= #[x],argTypes:=ts}/\ts[0]? =some t/\P.underlying t=some d/\ok d=true:=by
 unfold sF at h;split at h
 ·rename_i args ts Z;simp only[be]at h;obtain⟨D,R⟩:=h;split at R
  ·rename_i t ht;split at R
   ·rename_i d hd;unfold du at Z;split at Z
    ·rename_i b' U J;split at Z
     ·rename_i I;subst I;simp only[QA,Re]at Z;obtain⟨rfl,rfl⟩:=Z;have hs:=py D;obtain⟨l⟩:=U;match l,hs with
      |[x],_=>exact⟨x,J,t,d,rfl,ht,hd,R⟩
     ·cases Z
    ·cases Z
   ·cases R
  ·cases R
 ·cases h
theorem oj{o:Oper}{ρ:Operand->Value}{s:V}{len:Nat}(I:bG P o.op .lenS=true)(D:VsRel m [s] (OV ρ o.op))
 (J:∀x,VRel m s x->∃a c,x=.slice a len c):PS P m o ρ (.int .i64 len):=by
 obtain⟨x,ts,t,d,Z,ht,U,R⟩:=xG I;obtain⟨x',e,r⟩:=bJ D;rw[Z]at e;simp[Op.operands,Call.operands]at e;obtain⟨a,c,rfl⟩:=J _ r;refine⟨_,rfl,fun w=>?_⟩;cases d<;>simp at R;simp[execOp,Z,resolve,invoke,builtin,Builtin.len_,ht,e,aL U,goInt]
theorem DK{o:Oper}{ρ:Operand->Value}{s:V}{cap:Nat}(I:bG P o.op .capS=true)(D:VsRel m [s] (OV ρ o.op))
 (J:∀x,VRel m s x->∃a l,x=.slice a l cap):PS P m o ρ (.int .i64 cap):=by
 obtain⟨x,ts,t,d,Z,ht,U,R⟩:=xG I;obtain⟨x',e,r⟩:=bJ D;rw[Z]at e;simp[Op.operands,Call.operands]at e;obtain⟨a,c,rfl⟩:=J _ r;refine⟨_,rfl,fun w=>?_⟩;cases d<;>simp at R;simp[execOp,Z,resolve,invoke,builtin,Builtin.cap_,ht,e,aL U,goInt]
theorem Cw{op:Op}{b:Builtin}(h:(match du op b with|some (args,_)=>Nat.beq args.size 2|none=>false)=true):∃x y ts,op=.call {callee:=.builtin b,args:= #[x,y],argTypes:=ts}:=by
 split at h
 ·rename_i args ts Z;unfold du at Z;split at Z
  ·rename_i D U R;split at Z
   ·rename_i J;subst J;simp only[QA,Re]at Z;obtain⟨rfl,rfl⟩:=Z;have I:=py h;obtain⟨l⟩:=U;match l,I with
    |[x,y],_=>exact⟨x,y,R,rfl⟩
   ·cases Z
  ·cases Z
 ·cases h
theorem Pw{o:Oper}{ρ:Operand->Value}{k k':IntKind}{a b:Int}(hc:bG P o.op .mn=true)(D:VsRel m [.int k a,.int k' b] (OV ρ o.op)):PS P m o ρ (.int k (bif ilt b a then b else a)):=by
 obtain⟨x,y,ts,Z⟩:=Cw hc;obtain⟨I,J,e,R,U⟩:=bR D;rw[Z]at e;change[ρ x,ρ y]=[I,J]at e;simp only[QC,and_true]at e;simp only[VRel]at R U;refine⟨.int k (if b<a then b else a),?_,fun w=>?_⟩
 ·rw[iu];by_cases h:b<a<;>simp[h,VRel]
 ·simp[execOp,Z,resolve,invoke,builtin,Builtin.min_,e.1,e.2,R,U,Builtin.min2]
theorem Pt{o:Oper}{ρ:Operand->Value}{k k':IntKind}{a b:Int}(hc:bG P o.op .mx=true)(D:VsRel m [.int k a,.int k' b] (OV ρ o.op)):PS P m o ρ (.int k (bif ilt a b then b else a)):=by
 obtain⟨x,y,ts,Z⟩:=Cw hc;obtain⟨I,J,e,R,U⟩:=bR D;rw[Z]at e;change[ρ x,ρ y]=[I,J]at e;simp only[QC,and_true]at e;simp only[VRel]at R U;refine⟨.int k (if b>a then b else a),?_,fun w=>?_⟩
 ·rw[iu];by_cases h:a<b<;>simp[h,VRel]
 ·simp[execOp,Z,resolve,invoke,builtin,Builtin.max_,e.1,e.2,R,U,Builtin.max2]
theorem Ly{o:Oper}{ρ:Operand->Value}{k k':IntKind}{n:Int}(Z:bG P o.op (.conv k)=true)(hv:VsRel m [.int k' n] (OV ρ o.op)):PS P m o ρ (.int k (aB k n)):=by
 simp only[bG]at Z;split at Z
 ·rename_i s d x J;obtain⟨x',e,r⟩:=bJ hv;rw[J]at e;simp[Op.operands]at e;simp only[VRel]at r;simp only[be,CX,Mi]at Z;obtain⟨I,U⟩:=Z;obtain⟨ds,R⟩:=So.1 I;split at U
  ·rename_i k2 D;have:=mP U;subst this;refine⟨.int k (k.wrap n),by rw[bq];rfl,fun w=>?_⟩;simp only[execOp,J,e,r,convert,Qz,aL R,aL D,Qr];cases ds<;>rfl
  ·cases U
 ·cases Z
end
section
variable {P : Program} {m : M}
theorem KM(off:Nat):∀(l:List Value)(k:Nat)(cs:Array Value),
 ((l.zipIdx k).foldl (fun(cs:Array Value)(p:Value×Nat)=>cs.setIfInBounds (off+p.2) p.1) cs).size=cs.size/\
 ∀j:Nat,j<cs.size->((l.zipIdx k).foldl (fun(cs:Array Value)(p:Value×Nat)=>cs.setIfInBounds (off+p.2) p.1) cs)[j]? =if off+k<=j/\j<off+k+l.length then l[j-(off+k)]? else cs[j]? :=by
 intro l;induction l with
 |nil=>intro k cs;refine⟨rfl,fun j _=>?_⟩;rw[if_neg iS];rfl
 |cons x l ih=>
  intro k cs;simp only[List.zipIdx_cons,List.foldl_cons];obtain⟨Z,R⟩:=ih (k+1) (cs.setIfInBounds (off+k) x);refine⟨by rw[Z];simp,fun j U=>?_⟩;rw[R j (eV U)];simp only[QB];by_cases e:j=off+k
  ·grind
  ·grind
theorem ta(Z:Nat->Option (Nat×Nat)):∀(qs:List (Nat×Nat))(vs:List V)(ps:List (Nat×Value))(c:List V)(c':List Value)(r:List V),
 dP c qs vs=some r->VsRel m c c'->VsRel m vs (ps.map (·.2))->ps.map (fun p=>Z p.1)=qs.map some->
 ∃r',Instr.fill Z (List.toArray c') ps=some (List.toArray r')/\VsRel m r r':=by
 intro qs;induction qs with
 |nil=>
  intro vs ps c c' r h hc hv R;cases vs with
  |nil=>
   cases ps with
   |nil=>simp only[dP,QA]at h;subst h;exact⟨c',rfl,hc⟩
   |cons p ps=>simp at R
  |cons v vs=>simp[dP]at h
 |cons q qs ih=>
  intro vs ps c c' r h hc hv R;obtain⟨off,size⟩:=q;cases vs with
  |nil=>simp[dP]at h
  |cons v vs=>
   cases ps with
   |nil=>simp at R
   |cons p ps=>
    obtain⟨i,x⟩:=p;simp only[QU,QC]at R;obtain⟨x',ak,e,rx,ah⟩:=hv;simp only[QU,QC]at e;obtain⟨rfl,rfl⟩:=e;simp only[dP]at h;cases hb:(Nat.beq v.cells.length size&&Nat.blt 0 size)
    ·rw[hb]at h;cases h
    ·rw[hb]at h;simp only[cond_true]at h;simp only[be,QJ]at hb;have I:=py hb.1;have hn:v.cells≠[]:=by intro q;rw[q]at I;simp at I;omega
     have rc:=rx.cells;have D:=rc.length;cases hu:bF c off v.cells with
     |none=>rw[hu]at h;cases h
     |some c1=>
      rw[hu]at h;simp only[]at h;obtain⟨u1,u2,u3⟩:=uM _ _ _ _ hu;have ao:=hc.length
      -- the model's step
      obtain⟨f1,f2⟩:=KM off x.cells.toList 0 (List.toArray c');let F:=(x.cells.toList.zipIdx 0).foldl (fun(cs:Array Value)(p:Value×Nat)=>cs.setIfInBounds (off+p.2) p.1) (List.toArray c');have ab:VsRel m c1 F.toList:=by
       refine VsRel.of_get ?_ fun j u J=>?_
       ·show F.toList.length=_;rw[Array.length_toList,u1];exact f1.trans iX
       ·have ax:j<c.length:=by
         rcases Rn j c.length with q|q
         ·exact q
         ·rw[SF oM]at J;cases J
        rw[u3 j]at J;have:=f2 j oO;simp only[RG]at this;have e:F.toList[j]? =F[j]? :=by simp
        rw[e,show F[j]? =_ from this,D];split at J
        ·rename_i U;rw[if_pos U];exact rc.get _ _ J
        ·rename_i U;rw[if_neg U];obtain⟨y,hy,ry⟩:=hc.get _ _ J;exact⟨y,by simpa using hy,ry⟩
      obtain⟨r',ad,aj⟩:=ih vs ps c1 F.toList r h ab ah R.2;refine⟨r',?_,aj⟩;simp only[Instr.fill,R.1];rw[if_neg]
      ·have e:(x.cells.zipIdx.foldl (fun(cs:Array Value)(p:Value×Nat)=>cs.setIfInBounds (off+p.2) p.1) (List.toArray c'))=F:=by
        rw[<-Array.foldl_toList];simp[F]
       rw[show(x.cells.zipIdx.foldl (fun cs (c,j)=>cs.setIfInBounds (off+j) c) (List.toArray c'))=F from e];simpa using ad
      ·simp only[Array.length_toList]at D;have:=u2 hn;simp;constructor<;>omega
theorem zB{α β:Type}{f:α→Option β}(d:β):∀{l:List α},(∀x∈l,∃y,f x=some y)→l.mapM f=some (l.map fun x=>(f x).getD d)
 |[],_=>rfl
 |x::l,h=>by
  obtain⟨y,hy⟩:=h x iS;simp[List.mapM_cons,hy,zB d (l:=l) fun z hz=>h z iX]
theorem FO{t:TypeId}{zero:List V}{Z:List (Nat×Nat)}{U:List (Nat×Operand)}{ρ:Operand->Value}{vs c:List V}
 (hz:jP P t zero=true) (hp:dT P t U Z=true) (hs:xj P t=true) (hv:VsRel m vs (U.map fun p=>ρ p.2)) (h:dP zero Z vs=some c):
 ∃c',P.built t (U.map fun p=>(p.1,ρ p.2))=some (List.toArray c')/\VsRel m c c':=by
 unfold jP at hz;split at hz
 ·rename_i it ax;split at hz
  ·rename_i z ad;have ah:=dz m _ _ hz;have ak:VsRel m vs ((U.map fun p=>(p.1,ρ p.2)).map (·.2)):=by simpa[Ue]using hv
   unfold xj at hs;split at hs
   ·rename_i J hu;have ao:∀f∈J.toList,∃y,(P.info? f.type).map (fun i=>(f.offset,i.size))=some y:=by
     intro f hf;have:=QM.1 hs f hf;obtain⟨i,hi⟩:=So.1 this;exact⟨_,by rw[hi];rfl⟩
    have aE:=zB (f:=fun f:Field=>(P.info? f.type).map fun i=>(f.offset,i.size)) ((0:Nat),(0:Nat)) ao;have ab:∀(qs:List (Nat×Nat))(ps:List (Nat×Operand)),dT P t ps qs=true->
     (ps.map fun p=>(p.1,ρ p.2)).map (fun p=>(List.toArray (J.toList.map fun x=>((P.info? x.type).map fun i=>(x.offset,i.size)).getD (0,0)))[p.1]?)=qs.map some:=by
     intro qs;induction qs with
     |nil=>intro ps R;cases ps with
      |nil=>rfl
      |cons p ps=>simp[dT]at R
     |cons q qs ih=>intro ps R;cases ps with
      |nil=>simp[dT]at R
      |cons p ps=>
       obtain⟨i,x⟩:=p;obtain⟨off,n⟩:=q;simp only[dT,hu,be]at R;obtain⟨D,h2⟩:=R;split at D
       ·rename_i fd aA;simp only[be]at D;have I:=py D.1;have hsi:=D.2;unfold dQ at hsi;split at hsi
        ·rename_i i' hi';have hn:=py hsi;simp only[QU,QC];refine⟨?_,ih ps h2⟩;have:J.toList[i]? =some fd:=by simpa using aA
         simp[this,hi',I,hn]
        ·cases hsi
       ·cases D
    obtain⟨r',D,h2⟩:=ta _ Z vs _ zero z.cells.toList c h ah ak (ab Z U hp);refine⟨r',?_,h2⟩;unfold Program.built;simp only[ax,hu,ad,aE];exact(by simpa using D:Instr.fill _ z.cells _=_)
   ·rename_i n e hu;obtain⟨ie,aj⟩:=So.1 hs;have ab:∀(qs:List (Nat×Nat))(ps:List (Nat×Operand)),dT P t ps qs=true->
     (ps.map fun p=>(p.1,ρ p.2)).map (fun p=>some (p.1*ie.size,ie.size))=qs.map some:=by
     intro qs;induction qs with
     |nil=>intro ps R;cases ps with
      |nil=>rfl
      |cons p ps=>simp[dT]at R
     |cons q qs ih=>intro ps R;cases ps with
      |nil=>simp[dT]at R
      |cons p ps=>
       obtain⟨i,x⟩:=p;obtain⟨off,n⟩:=q;simp only[dT,hu,be]at R;obtain⟨⟨D,h3⟩,h2⟩:=R;have I:=py D;unfold dQ at h3;rw[aj]at h3;have hn:=py h3;simp only[QU,QC];refine⟨?_,ih ps h2⟩;simp[I,<-hn]
    obtain⟨r',D,h2⟩:=ta (fun i=>some (i*ie.size,ie.size)) Z vs _ zero z.cells.toList c h ah ak (ab Z U hp);refine⟨r',?_,h2⟩;unfold Program.built;simp only[ax,hu,ad,aj];simpa using D
   ·cases hs
  ·cases hz
 ·cases hz
theorem JL{o:Oper}{ρ:Operand->Value}{zero:List V}{Z:List (Nat×Nat)}{vs c:List V}(R:bG P o.op (.build zero Z)=true)(D:VsRel m vs (OV ρ o.op))
 (h:dP zero Z vs=some c):PS P m o ρ (.agg c):=by
 simp only[bG]at R;split at R
 ·rename_i t U I;simp only[be]at R;obtain⟨⟨h1,h2⟩,h3⟩:=R;rw[I]at D;have J:VsRel m vs (U.toList.map fun p=>ρ p.2):=by simpa[OV,Op.operands,Ue]using D
  obtain⟨c',hb,rc⟩:=FO h1 h2 h3 J h;refine⟨.agg (List.toArray c'),⟨c',rfl,rc⟩,fun w=>?_⟩;have:=run_build (P:=P) w t (U.map fun(i,x)=>(i,ρ x)) (List.toArray c') (eV hb);simp[execOp,I,this]
 ·cases R
end
end Go.Ev
namespace Go.Ev
abbrev Qu:=@Go.Ev.T.get_set_ne
abbrev QZ:=@Go.Ev.T.get_set_self
abbrev RJ:=@VRel.mono
abbrev RP:=@Go.Ev.T.get_set
abbrev Sa:=@Ext.refl
abbrev Tg:=@VsRel.append
end Go.Ev
