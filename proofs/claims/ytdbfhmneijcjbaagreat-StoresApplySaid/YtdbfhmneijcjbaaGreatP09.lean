/- An evaluator of the program, and contracts over it: StaG to StaM. -/
import Derived.Test.YtdbfhmneijcjbaaGreatP04
import Derived.Test.YtdbfhmneijcjbaaGreatP07
import Derived.Test.YtdbfhmneijcjbaaGreatP08
set_option linter.unusedSimpArgs false
set_option linter.unusedVariables false
set_option linter.constructorNameAsVariable false
set_option linter.unnecessarySimpa false
namespace Go.Ev.Lay
variable{tg ky tx:Str}{sub:PT}{cs xs loc:List V}{h' h1 h2:Heap}{X:List Nat}{bs ks:List Bool}{α:Type}{pm:Option Nat}{env:T V}
set_option maxRecDepth 4000
theorem wC:∀(p:Option Str)(l:List Slo),eO p l=true→∀s∈l,s.2.1≤3
 |_,[],_,s,m=>by simp at m
 |p,a::l,e,s,m=>by rw[jV,Bool.and_eq_true]at e;obtain rfl|m:=List.mem_cons.1 m;have:=e.1;simp only[ip,Bool.and_eq_true,decide_eq_true_eq]at this;exact this.2.1;exact wC _ l e.2 s m
theorem rT{k:Nat}{sl:List Slo}{n:Nat}(h:dV k tg ky sl tx n=true):(∀s∈sl,s.2.1<=3)/\n<=16:=by unfold dV at h;by_cases K:k=1;rw[if_pos K]at h;simp only[RU,decide_eq_true_eq,cH]at h;exact⟨wC _ _ h.2.2.2.1.2,h.2.1⟩;rw[if_neg K]at h;by_cases Z:k=5;rw[if_pos Z]at h;simp only[RU,decide_eq_true_eq,cH]at h;exact⟨wC _ _ h.2.1.2,oM⟩;rw[if_neg Z]at h;by_cases k2:k=2;grind;rw[if_neg k2]at h;by_cases ac:k=3\/k=4;grind;grind
theorem wv:∀(t:PT)(l c:Nat),(t.walk l c).2=true→TG t
 |.nil,_,_,_=>trivial
 |.cons k tg ky sl tx _ _ sub nx,l,c,h=>by
  simp only[PT.walk]at h;by_cases q:(PT.node k tg ky sl tx sub sub.walk l c).2=true;rw[if_pos q]at h;have g:=wv nx _ _ h;unfold PT.node at q;by_cases x:6<l∨64<c+1∨dV k tg ky sl tx sub.len=false;grind;rw[if_neg x]at q;have pb:dV k tg ky sl tx sub.len=true:=by grind
  exact⟨(rT pb).1,(rT pb).2,wv sub _ _ q,g⟩;grind
theorem FX{k:Nat}{sl:List Slo}(va vc:V)(h:PT.count k tg ky sl tx sub≠0):k=1/\TG (.cons k tg ky sl tx va vc sub .nil):=by unfold PT.count at h;split at h;rename_i q;refine⟨q.1,wv (.cons k tg ky sl tx va vc sub .nil) 1 0 ?_⟩;simp only[PT.walk];rw[if_pos q.2];exact absurd rfl h
theorem NT.sh_one{s:NT}{k:Nat}{a:List (Str×Str)}{sub:ST}(e:s.sh=.cons k tg ky a tx sub .nil):∃va vc s',s=.cons k tg ky a tx va vc s' .nil/\s'.sh=sub:=by
 cases s with
 |nil=>cases e
 |cons k' tg' ky' a' tx' va vc s' Z=>
  simp only[NT.sh]at e;cases Z with
  |nil=>cases e;exact⟨va,vc,s',rfl,rfl⟩
  |cons _ _ _ _ _ _ _ _ _=>cases e
def fu(k:Nat)(tg ky:Str)(sl:List Slo)(tx:Str)(sub:PT)(x:Itm)(most:Int):Int:=
 if most<1\/64<most then 1
 else if PT.count k tg ky sl tx sub=0 then 14
 else if iH x=false then 6
 else if ST.count 1 tg ky (sl.map (att x)) [] (cE x sub)=0\/most<(ST.count 1 tg ky (sl.map (att x)) [] (cE x sub):Nat)then 14
 else 0
abbrev Z6:List V:=[ZY 0,.str [],.str [],.nils,.str [],.nils]
theorem uD{h:Heap}{k:Nat}{sl:List Slo}{vs vp:V}{x:Itm}{Z:Int}(w:WF h)(n:PH h (.cons k tg ky sl tx vs vp sub .nil))(a:ItmH h x):
 ao go 141 [.agg [ZY (k:Int),.str tg,.str ky,vs,.str tx,vp],.agg x.cells,ZZ Z] h fun u h'=>∃cs,u=.tup [.agg cs,ZZ (fu k tg ky sl tx sub x Z)]/\Fr [] h h'/\
  (fu k tg ky sl tx sub x Z≠0->cs=Z6)/\(fu k tg ky sl tx sub x Z=0->∃(s:NT)(va vc:V),cs=[ZY 1,.str tg,.str ky,va,.str [],vc]/\(∀(X:List Nat)(h2:Heap),(∀y∈X,y<h.next)->Fr X h' h2->NH h2 (.cons 1 tg ky (sl.map (att x)) [] va vc s .nil))/\s.sh=cE x sub):=by
 let⟨h1,e_h1,F_h1,o_h1⟩:=aq w [ZY (k:Int),.str tg,.str ky,vs,.str tx,vp];let⟨h2,e_h2,F_h2,o_h2⟩:=aq F_h1.wf x.cells;let⟨h3,e_h3,F_h3,o_h3⟩:=aq F_h2.wf [ZY 0,.str [],.str [],.nils,.str [],.nils];have n1:=hnx e_h1;have n2:=hnx e_h2;have ar:=(F_h1.then F_h2).then F_h3;have op:=F_h3.get (F_h2.get o_h1);have ox:=F_h3.get o_h2;have p6:=op.at6.2.2.2.2.2.2;have x4:aj h3 h1.next 0 4=some x.cells:=by rw[ox.ld];rfl
 have bad:∀{h4 h5:Heap}{e:Int}{c0:List V},fu k tg ky sl tx sub x Z=e->e≠0->Fr [] h h4->Own h4 h2.next c0->Fr [h2.next] h4 h5->∃cs,V.tup [.agg Z6,ZZ e]=.tup [.agg cs,ZZ (fu k tg ky sl tx sub x Z)]/\Fr [] h h5/\
  (fu k tg ky sl tx sub x Z≠0->cs=Z6)/\(fu k tg ky sl tx sub x Z=0->∃(s:NT)(va vc:V),cs=[ZY 1,.str tg,.str ky,va,.str [],vc]/\(∀(X:List Nat)(h2:Heap),(∀y∈X,y<h.next)->Fr X h5 h2->NH h2 (.cons 1 tg ky (sl.map (att x)) [] va vc s .nil))/\s.sh=cE x sub):=by
  intro h4 h5 e c0 q ne f _ f2;subst q;exact⟨Z6,rfl,f.fresh f2 w oM,fun _=>rfl,fun q=>absurd q ne⟩
 by_cases m1:Z<1;refine ag ?_;simp only[evs,seval,<-e_h1,<-e_h2,<-e_h3,m1];refine stu F_h3.wf o_h3 ?_;rintro h4 o4 F4 n4;simp only[evs,seval,o4.at6.2.2.2.2.2.2];exact bad (if_pos (.inl m1)) oM ar o_h3 F4;by_cases m2:(64:Int)<Z;refine ag ?_;simp only[evs,seval,<-e_h1,<-e_h2,<-e_h3,m1,m2];refine stu F_h3.wf o_h3 ?_;rintro h4 o4 F4 n4;simp only[evs,seval,o4.at6.2.2.2.2.2.2];exact bad (if_pos (.inr m2)) oM ar o_h3 F4;have r1:fu k tg ky sl tx sub x Z=if PT.count k tg ky sl tx sub=0 then 14 else if iH x=false then 6 else if ST.count 1 tg ky (sl.map (att x)) [] (cE x sub)=0\/Z<(ST.count 1 tg ky (sl.map (att x)) [] (cE x sub):Nat)then 14 else 0:=if_neg oM;refine ag ?_;simp only[evs,seval,<-e_h1,<-e_h2,<-e_h3,m1,m2,p6];refine aa (uo F_h3.wf (n.fr ar)) ?_;rintro _ h4 ⟨rfl,F4⟩;have a0:=ar.then F4;have ax:=F4.get o_h3;have a7:aj h4 h1.next 0 4=some x.cells:=by rw[(F4.get ox).ld];rfl
 have bf:=(F4.get op).at6.2.2.2.2.2.2;by_cases c0:PT.count k tg ky sl tx sub=0;rw[if_pos c0];simp only[evs,seval];apply stu F4.wf ax;rintro h5 o5 F5 n5;simp only[evs,seval,o5.at6.2.2.2.2.2.2];exact bad (r1.trans (if_pos c0)) oM a0 ax F5;rw[if_neg c0];rw[if_neg c0]at r1;simp only[evs,seval,a7];apply aa (xC F4.wf (a.fr a0));rintro _ h5 ⟨rfl,F5⟩;have aH:=a0.then F5;have ay:=F5.get ax;have x5:aj h5 h1.next 0 4=some x.cells:=by rw[(F5.get (F4.get ox)).ld];rfl
 have p5:=(F5.get (F4.get op)).at6.2.2.2.2.2.2;cases c1:iH x;rw[c1]at r1;simp only[evs,seval];apply stu F5.wf ay;rintro h6 o6 F6 n6;simp only[evs,seval,o6.at6.2.2.2.2.2.2];exact bad r1 oM aH ay F6;rw[c1,if_neg iS]at r1;let⟨k1,tgd⟩:=FX vs vp c0;have hm:x.marks.length<=8:=by simp only[iH,okM,RU,decide_eq_true_eq]at c1;exact c1.2.2.1
 have em:cE x (.cons k tg ky sl tx vs vp sub .nil)=.cons 1 tg ky (sl.map (att x)) [] (cE x sub) .nil:=by subst k1;rfl
 have a9:aP (.build [ZX 0,ZY 0,.str [],.nils] [(0,4)]) [.agg x.cells]=some (.agg x.cells):=rfl;have n5:=n.fr aH;let⟨h6,e_h6,F_h6,o_h6⟩:=aq F5.wf [ZY (k:Int),.str tg,.str ky,vs,.str tx,vp];have n6:=hnx e_h6;simp only[evs,seval,x5,p5,a9,<-e_h6];have az:=aH.then F_h6;apply aa (Bn (mks _) x h6 _ F_h6.wf (a.fr az) hm (n.fr az) tgd (by simp[PT.len]) (TH o_h6 rfl));rintro u h7 ⟨s,es,F7,uE,_,st⟩;rw[em]at es;obtain⟨va,vc,s',rfl,a4⟩:=NT.sh_one es;have a1:=st [] h7 iS (Sn F7.wf);have a6:=az.then F7;let⟨b,o,i1,i2⟩:=a1.2.ix6 (i:=0) (by simp[NT.len]) (x0:=ZY ((1:Nat):Int)) (x1:=.str tg) (x2:=.str ky) (x3:=va) (x4:=.str []) (x5:=vc) (r:=[]) rfl;have a5:aP (.ixs 6) [u,ZZ 0]=some (.ptr b o):=i1;have on:=NH.ones a1.1;have ba:=F7.get (F_h6.get ay);let⟨h8,e_h8,F_h8,o_h8⟩:=aq F7.wf [ZY 0,.str [],.str [],.nils,.str [],.nils];simp only[evs,seval,a5,i2.2.2.2.2.2.2,<-e_h8];apply ai (c':=[ZY ((1:Nat):Int),.str tg,.str ky,va,.str [],vc]) F_h8.wf o_h8 rfl (by exact on) rfl;rintro h9 o9 F9 n9;have an:Fr [] h7 h9:=F_h8.fresh F9 F7.wf (RW _);have N9:=NH.fr an a1.1;simp only[evs,seval,o9.at6.2.2.2.2.2.2];apply aa (pK F9.wf N9);rintro _ bc ⟨rfl,ac⟩;have K:=ac.get (an.get ba);have af:=(a6.then an).then ac;have ec:ST.count 1 tg ky (sl.map (att x)) [] (cE x sub)=NT.count 1 tg ky (sl.map (att x)) [] s':=by rw[<-a4,NT.sh_count]
 rw[ec]at r1;by_cases z:NT.count 1 tg ky (sl.map (att x)) [] s'=0;simp only[evs,seval,(oM:((NT.count 1 tg ky (sl.map (att x)) [] s':Nat):Int)=0)];apply stu ac.wf K;rintro a3 ak ae a2;simp only[evs,seval,ak.at6.2.2.2.2.2.2];exact bad (r1.trans (if_pos (.inl z))) oM af K ae;by_cases z2:Z<((NT.count 1 tg ky (sl.map (att x)) [] s':Nat):Int);simp only[evs,seval,eq_false (oM:¬((NT.count 1 tg ky (sl.map (att x)) [] s':Nat):Int)=0),z2];apply stu ac.wf K;rintro a3 ak ae a2;simp only[evs,seval,ak.at6.2.2.2.2.2.2];exact bad (r1.trans (if_pos (.inr z2))) oM af K ae;have r2:=r1.trans (if_neg oM);have a8:=(ac.get o9).at6.2.2.2.2.2.2;simp only[evs,seval,eq_false (oM:¬((NT.count 1 tg ky (sl.map (att x)) [] s':Nat):Int)=0),z2,a8];apply ai (c':=[ZY ((1:Nat):Int),.str tg,.str ky,va,.str [],vc]) ac.wf K rfl (by exact on) rfl;rintro a3 ak ae a2;simp only[evs,seval,ak.at6.2.2.2.2.2.2];rw[r2];refine⟨_,rfl,af.fresh ae w oM,fun q=>absurd rfl q,fun _=>⟨s',va,vc,rfl,fun X hh hX f=>?_,a4⟩⟩;have bg:=F7.next;refine(st ([h2.next]++X) hh (fun y m=>?_) (Sj (Sj (T:=[h2.next]) (an.then ac) ae F7.wf iS (fun y hy=>.inl hy)) f F7.wf (fun y m=>.inl (pi.2 (.inl m))) (fun y m=>.inl (pi.2 (.inr m))))).1;have:=F5.next;have:=F4.next;have:=F_h3.next;have:=(show h3.next=h2.next+1 by rw[e_h3];rfl);obtain m|m:=pi.1 m;simp at m;omega;grind
def Gn(e:Nat)(h:Heap)(B:Nat)(v:V)(n:Nat)(cs:List V):Prop:=cs.length=n*e/\((n=0/\(v=.nils\/∃b,B<=b/\v=.slice b 0 0 0/\Own h b []))\/∃b,B<=b/\v=.sliceU b 0 n e/\Own h b cs)
theorem Gn.sl{e:Nat}{h:Heap}{B n:Nat}{v:V}(g:Gn e h B v n cs):Sl h e v n cs:=by obtain⟨Z,⟨rfl,rfl|⟨b,_,rfl,o⟩⟩|⟨b,_,rfl,o⟩⟩:=g;exact⟨Z,rfl⟩;have:cs=[]:=SC.1 oM;subst this;exact⟨Z,rfl,RW _,[],o,iS,iS⟩;exact⟨Z,rfl,rfl,cs,o,oM,by rw[UA,Sf oM]⟩
theorem Gn.fr{e:Nat}{h:Heap}{B n:Nat}{v:V}(g:Gn e h B v n cs)(f:Fr X h h')(hx:∀x∈X,x<B):Gn e h' B v n cs:=by obtain⟨Z,⟨rfl,rfl|⟨b,K,rfl,o⟩⟩|⟨b,K,rfl,o⟩⟩:=g;exact⟨Z,.inl ⟨rfl,.inl rfl⟩⟩;exact⟨Z,.inl ⟨rfl,.inr ⟨b,K,rfl,f.own _ _ (fun m=>by have:=hx _ m;omega) o⟩⟩⟩;exact⟨Z,.inr ⟨b,K,rfl,f.own _ _ (fun m=>by have:=hx _ m;omega) o⟩⟩
theorem Gn.one{e:Nat}{h:Heap}{B n:Nat}{v:V}(g:Gn e h B v n cs):v.one=true:=g.sl.one
theorem Gn.nE{e:Nat}{h:Heap}{B n:Nat}{v:V}(g:Gn e h B v n cs):v≠.sliceE:=by obtain⟨_,⟨_,rfl|⟨b,_,rfl,_⟩⟩|⟨b,_,rfl,_⟩⟩:=g<;>simp
def nZ:V->Bool:=fun _=>true
theorem _root_.Go.Ev.ASl.src{h:Heap}{e:Nat}{v:V}{n:Nat}(a:ASl h e v n cs)(z:nZ v=true):srcLen v=some n/\srcCells h e v n=some cs/\(v≠.nils->aP (.nil 1 false) [v,.nils]=some (.bool false)):=by
 let⟨hl,a⟩:=a;cases v with
 |slice b o len cap=>obtain⟨rfl,_,c,Z,K,q⟩:=a;exact⟨rfl,by simp only[Ev.srcCells,Z.ld,bM,bK _ _ (oO:len*e<=(c.drop o).length),q],fun _=>rfl⟩
 |sliceU b o len e'=>obtain⟨rfl,rfl,c,Z,K,q⟩:=a;exact⟨rfl,by simp only[Ev.srcCells,Z.ld,bM,bK _ _ (oO:len*e'<=(c.drop o).length),q],fun _=>rfl⟩
 |nils=>have a:n=0:=a;subst a;simp at hl;subst hl;exact⟨rfl,rfl,fun q=>absurd rfl q⟩
 |sliceE=>have a:n=0:=a;subst a;simp at hl;subst hl;exact⟨rfl,rfl,fun _=>rfl⟩
 |sliceZ _ _=>have a:n=0:=a;subst a;simp at hl;subst hl;exact⟨rfl,rfl,fun _=>rfl⟩
 |_=>exact a.elim
theorem gY{h:Heap}{e bytes n:Nat}{x:V}(w:WF h)(a:ASl h e x n xs)(z:nZ x=true)(he:0<e)(ac:(2*n+1024) *bytes<=281474976710656){K:V->Heap->Prop}
 (k:∀v' h',Gn e h' h.next v' n xs->Fr [] h h'->K v' h'):OQ (jQ (halloc h []) e bytes (.slice h.next 0 0 0) x) K:=by
 have Z:=SO w ([]:List V);have o1:=Ts w ([]:List V);let⟨s1,s2,_⟩:=(a.fr Z).src z;have hl:=a.1;unfold jQ;rw[s1];simp only[];by_cases c:n=0;subst c;rw[kN rfl,cond_true];exact(cL _ _ _).2 (k _ _ ⟨hl,.inl ⟨rfl,.inr ⟨h.next,RW _,rfl,o1⟩⟩⟩ Z);rw[eP c,cond_false,s2];simp only[];rw[AN oM,cond_false,VK,o1.ld];have:dA 0 (fX ([]:List V) 0)=some []:=rfl;rw[this];simp only[tH,Tj,TO];rw[(Uv ..).mpr ac,cond_true];refine(cL _ _ _).2 (k _ _ ⟨hl,.inr ⟨(halloc h []).next,Z.next,rfl,Ts Z.wf xs⟩⟩ (Z.then (SO Z.wf xs)))
theorem Dk{h:Heap}{n:Nat}{x:V}(w:WF h)(a:ASl h 1 x n xs)(z:nZ x=true)(K:n<=100000):ao go 140 [x] h fun u h'=>Gn 1 h' h.next u n xs/\Fr [] h h':=by by_cases c:x=.nils;subst c;have:n=0:=a.2;subst this;have q:aP (.nil 1 false) [.nils,.nils]=some (.bool true):=rfl;refine ag ?_;simp only[evs,seval,q];exact⟨⟨a.1,.inl ⟨rfl,.inl rfl⟩⟩,Sn w⟩;refine ag ?_;simp only[evs,seval,(a.src z).2.2 c];apply gY (bytes:=16) w a z oM oM;intro Z h' g f;simp only[evs,seval];exact⟨g,f⟩
theorem zu{h:Heap}{n:Nat}{x:V}(w:WF h)(a:ASl h 3 x n xs)(z:nZ x=true)(K:n<=100000):ao go 92 [x] h fun u h'=>Gn 3 h' h.next u n xs/\Fr [] h h':=by by_cases c:x=.nils;subst c;have:n=0:=a.2;subst this;have q:aP (.nil 1 false) [.nils,.nils]=some (.bool true):=rfl;refine ag ?_;simp only[evs,seval,q];exact⟨⟨a.1,.inl ⟨rfl,.inl rfl⟩⟩,Sn w⟩;refine ag ?_;simp only[evs,seval,(a.src z).2.2 c];apply gY (bytes:=40) w a z oM oM;intro Z h' g f;simp only[evs,seval];exact⟨g,f⟩
theorem xr{h:Heap}{n:Nat}{x:V}(w:WF h)(a:ASl h 6 x n xs)(z:nZ x=true)(K:n<=100000):ao go 93 [x] h fun u h'=>Gn 6 h' h.next u n xs/\Fr [] h h':=by by_cases c:x=.nils;subst c;have:n=0:=a.2;subst this;have q:aP (.nil 1 false) [.nils,.nils]=some (.bool true):=rfl;refine ag ?_;simp only[evs,seval,q];exact⟨⟨a.1,.inl ⟨rfl,.inl rfl⟩⟩,Sn w⟩;refine ag ?_;simp only[evs,seval,(a.src z).2.2 c];apply gY (bytes:=104) w a z oM oM;intro Z h' g f;simp only[evs,seval];exact⟨g,f⟩
theorem xu{h:Heap}{n:Nat}{x:V}(w:WF h)(a:ASl h 9 x n xs)(z:nZ x=true)(K:n<=100000):ao go 40 [x] h fun u h'=>Gn 9 h' h.next u n xs/\Fr [] h h':=by by_cases c:x=.nils;subst c;have:n=0:=a.2;subst this;have q:aP (.nil 1 false) [.nils,.nils]=some (.bool true):=rfl;refine ag ?_;simp only[evs,seval,q];exact⟨⟨a.1,.inl ⟨rfl,.inl rfl⟩⟩,Sn w⟩;refine ag ?_;simp only[evs,seval,(a.src z).2.2 c];apply gY (bytes:=128) w a z oM oM;intro Z h' g f;simp only[evs,seval];exact⟨g,f⟩
def Itm.own(x:Itm)(v:V):Itm:=⟨x.key,x.type,x.text,x.marks,v⟩
def CpO(N:Nat)(h:Heap)(v:V)(L:List (List UInt8)):Prop:=(L=[]/\(v=.nils\/∃b,v=.slice b 0 0 0/\N<=b/\Own h b []))\/∃b,v=.slice b 0 L.length L.length/\N<=b/\Own h b (L.flatMap sS)
theorem CpO.fr{N:Nat}{h:Heap}{v:V}{L:List (List UInt8)}(a:CpO N h v L)(f:Fr X h h')(l:∀y∈X,y<N):CpO N h' v L:=by obtain⟨e,rfl|⟨b,rfl,Z,o⟩⟩|⟨b,e,Z,o⟩:=a;exact .inl ⟨e,.inl rfl⟩;exact .inl ⟨e,.inr ⟨b,rfl,Z,f.own _ _ (fun m=>by have:=l b m;omega) o⟩⟩;exact .inr ⟨b,e,Z,f.own _ _ (fun m=>by have:=l b m;omega) o⟩
theorem CpO.rs{N:Nat}{h:Heap}{v:V}{L:List (List UInt8)}(a:CpO N h v L):Recs sS 1 h v L:=by have Z:(L.flatMap sS).length=L.length*1:=aJ fG L;obtain⟨rfl,rfl|⟨b,rfl,_,o⟩⟩|⟨b,rfl,_,o⟩:=a;exact VL;exact TH o rfl;exact TH o Z
theorem CpO.one{N:Nat}{h:Heap}{v:V}{L:List (List UInt8)}(a:CpO N h v L):v.one=true:=TI a.rs
theorem CpO.nE{N:Nat}{h:Heap}{v:V}{L:List (List UInt8)}(a:CpO N h v L):v≠.sliceE:=by obtain⟨_,rfl|⟨b,rfl,_,o⟩⟩|⟨b,rfl,_,o⟩:=a<;>simp
theorem FZ{N:Nat}{h:Heap}{v:V}{L:List (List UInt8)}(g:Gn 1 h N v L.length (L.flatMap sS)):ao go 139 [v] h fun u h'=>CpO N h u L/\h=h':=by
 have q:∀y n,n<=y->aW n y false true true [ZZ (n:Int),ZZ (n:Int)]=some (0,n,some n):=fun y n hy=>by simp only[aW,bS .i64 (n:Int) y oM oM,bS .i64 (n:Int) n oM oM,SZ,Sx,RX]
 obtain⟨K,⟨e,rfl|⟨b,Z,rfl,o⟩⟩|⟨b,Z,rfl,o⟩⟩:=g;have x:aP (.sl none 1 false true true) [.nils,ZZ 0,ZZ 0]=some .nils:=rfl;refine ag ?_;simp only[evs,↓reduceIte,Nat.reduceEqDiff,x];exact .inl ⟨SC.1 e,.inl rfl⟩;have x:aP (.sl none 1 false true true) [.slice b 0 0 0,ZZ ((0:Nat):Int),ZZ ((0:Nat):Int)]=some (.slice b 0 0 0):=by simp only[aP,dX,q 0 0 (RW _),Sx,Vc];rfl
 refine ag ?_;simp only[evs,↓reduceIte,Nat.reduceEqDiff,x];exact .inl ⟨SC.1 e,.inr ⟨b,rfl,Z,o⟩⟩;have x:aP (.sl none 1 false true true) [.sliceU b 0 L.length 1,ZZ ((L.length:Nat):Int),ZZ ((L.length:Nat):Int)]=some (.slice b 0 L.length L.length):=by simp only[aP,dX,kN (rfl:1=1),(SI ..).mpr (oM:0<1),Ui,cond_true,q L.length L.length (RW _),SZ];cases Nat.beq L.length 0<;>simp
 refine ag ?_;simp only[evs,↓reduceIte,Nat.reduceEqDiff,x];exact .inr ⟨b,rfl,Z,o⟩
theorem sV{h:Heap}{x:Itm}(w:WF h)(a:ItmH h x)(z:nZ x.vm=true):ao go 71 [.agg x.cells] h fun u h'=>∃v,u=.agg (x.own v).cells/\Fr [] h h'/\CpO h.next h' v x.marks:=by
 let⟨h1,e_h1,F_h1,o_h1⟩:=aq w x.cells;let⟨h2,e_h2,F_h2,o_h2⟩:=aq F_h1.wf [ZX 0,ZY 0,.str [],.nils];have n1:=hnx e_h1;have ac:=F_h1.then F_h2;have ob:=F_h2.get o_h1;have l3:ab h2 h.next 3=some x.vm:=ob.ld1 3;have n2:=hnx e_h2;refine ag ?_;simp only[evs,seval,<-e_h1,<-e_h2,l3];refine aa (Dk F_h2.wf (a.m.fr ac) z (by have:=a.n;omega)) ?_;rintro v1 h3 ⟨g,F3⟩;simp only[evs];apply aa (FZ g);rintro K _ ⟨cl,rfl⟩;have Z:=cl.one;simp only[evs,seval];refine ai (c':=(x.own K).cells) F3.wf (F3.get ob) (by simp[aw Z]) (by rw[aw Z];simp only[av,aB,Z];rfl) (by rw[aw Z];rfl) ?_;rintro h4 o4 F4 n4;have l4:aj h4 h.next 0 4=some (x.own K).cells:=by rw[o4.ld];rfl
 have ae:=F4.own _ _ oO (F3.get o_h2);simp only[evs,seval,l4];refine ai (c':=(x.own K).cells) F4.wf ae rfl (by show au [ZX (x.key:Int),ZY (x.type:Int),.str x.text,K]=true;simp only[av,aB,Z];rfl) rfl ?_;rintro h5 o5 F5 n5;have l5:aj h5 h1.next 0 4=some (x.own K).cells:=by rw[o5.ld];rfl
 simp only[evs,seval,l5];have af:Fr [] h h4:=(ac.then F3).fresh F4 w (RW _);have c5:=(cl.fr F4 oO).fr F5 oO;refine⟨K,rfl,af.fresh F5 w oM,?_⟩;obtain⟨e,e2|⟨b,e2,hb,o⟩⟩|⟨b,e2,hb,o⟩:=c5;exact .inl ⟨e,.inl e2⟩;exact .inl ⟨e,.inr ⟨b,e2,oM,o⟩⟩;exact .inr ⟨b,e2,oM,o⟩
theorem vN{h:Heap}{x:Itm}(w:WF h)(a:ItmH h x)(z:nZ x.vm=true):ao go 71 [.agg x.cells] h fun u h'=>∃v,u=.agg (x.own v).cells/\Fr [] h h'/\v≠.sliceE/\v.one=true/\
 ∀(X:List Nat)(Z:Heap),(∀y∈X,y<h.next)->Fr X h' Z->Recs sS 1 Z v x.marks:=by
 apply Uu (sV w a z);rintro _ h' ⟨v,e,f,c⟩;exact⟨v,e,f,c.nE,c.one,fun X Z K f2=>(c.fr f2 K).rs⟩
structure Knd where
 k:Nat
 tg:Str
 ky:Str
 sl:List Slo
 tx:Str
 vs:V
 vp:V
 sub:PT
 base:Int
 sticky:Bool
 pool:Int
def Knd.part(q:Knd):List V:=[ZY (q.k:Int),.str q.tg,.str q.ky,q.vs,.str q.tx,q.vp]
def Knd.cells(q:Knd):List V:=q.part++[ZZ q.base,.bool q.sticky,ZZ q.pool]
theorem eM(q:Knd):q.cells.length=9:=rfl
def KndH(h:Heap)(q:Knd):Prop:=PH h (.cons q.k q.tg q.ky q.sl q.tx q.vs q.vp q.sub .nil)
theorem KndH.fr{h:Heap}{q:Knd}(a:KndH h q)(f:Fr [] h h'):KndH h' q:=PH.fr f a
theorem KndH.ones{h:Heap}{q:Knd}(a:KndH h q):au q.part=true:=PH.ones a
theorem KndH.ones9{h:Heap}{q:Knd}(a:KndH h q):au q.cells=true:=by show au (q.part++_)=true;rw[aL,a.ones];rfl
def okB(b:Int):Bool:=decide (1<=b)&&decide (b<=2305843009213693952)
def okK(q:Knd):Bool:=okB q.base&&decide (PT.count q.k q.tg q.ky q.sl q.tx q.sub≠0)
theorem u7{h:Heap}(n:Int):ao go 88 [ZZ n] h fun u h'=>u=.bool (okB n)/\h=h':=by by_cases c:1<=n;refine ag ?_;simp only[evs,seval,c];simp[okB,c];refine ag ?_;simp only[evs,seval,c];simp[okB,c]
theorem IT{h:Heap}{q:Knd}(w:WF h)(a:KndH h q):ao go 87 [.agg q.cells] h fun u h'=>u=.bool (!okK q)/\Fr [] h h':=by
 let⟨Z,e_h1,F_h1,o_h1⟩:=aq w q.cells;have l6:ab Z h.next 6=some (ZZ q.base):=o_h1.ld1 6;have l0:aj Z h.next 0 6=some q.part:=by rw[o_h1.ld];rfl
 refine ag ?_;simp only[evs,seval,<-e_h1,l6];refine aa (u7 _) ?_;rintro _ _ ⟨rfl,rfl⟩;cases c:okB q.base;simp only[evs,seval];exact⟨by simp[okK,c],F_h1⟩;simp only[evs,seval,l0];apply aa (uo (va:=q.vs) (vc:=q.vp) F_h1.wf (a.fr F_h1));rintro _ h2 ⟨rfl,K⟩;by_cases z:PT.count q.k q.tg q.ky q.sl q.tx q.sub=0;rw[if_pos z];simp only[evs,seval];exact⟨by simp[okK,z],F_h1.then K⟩;rw[if_neg z];simp only[evs,seval];exact⟨by simp[okK,c,z],F_h1.then K⟩
theorem As{h:Heap}{v:V}{L:List Knd}(w:WF h)(a:Recs Knd.cells 9 h v L)(hL:∀q∈L,KndH h q)(hn:L.length<=4096):
 ao go 164 [v,.func (.func 87) [] []] h fun u h'=>∃r:Int,u=ZZ r/\(decide (0<=r)= !L.all okK)/\Fr [] h h':=by
 refine ag ?_;simp only[evs,seval,VV a];refine aC (fun k env hh=>Fr [] h hh/\∃(i:Nat),env.get 8=some (ZZ i)/\env.get 7=some (ZZ L.length)/\env.get 0=some v/\env.get 1=some (.func (.func 87) [] [])/\
  i<=L.length/\(L.drop i).all okK=L.all okK/\k=L.length-i) L.length oM ?_ ?_
 ·exact⟨Sn w,0,iS,iS,iS,iS,oM,rfl,rfl⟩
 ·rintro k env hh ⟨F,i,K,g7,g0,g1,hi,e,rfl⟩;by_cases ac:i<L.length
  ·have Z:(i:Int)<L.length:=oM
   let⟨b,o,s,e1,_,e3,e5⟩:=(TK a F).ix eM .i64 i oM Z;rw[RX]at e5;rw[aK e5,Uj]at e;have hs:=hL s (RZ e5);simp only[evs,seval,K,g7,g0,g1,Z,e1,e3];refine aa (IT F.wf (hs.fr F)) ?_;rintro _ h1 ⟨rfl,F1⟩;cases c:okK s
   ·simp only[evs,seval];rw[c]at e;exact⟨i,rfl,by rw[<-e];simp,F.then F1⟩
   ·simp(disch:=omega) only[evs,seval,ah,K];rw[c]at e;refine rqn ⟨L.length-(i+1),oM,F.then F1,i+1,iS,iX,iX,iX,oM,by simpa using e,rfl⟩
    done
  ·simp only[evs,seval,K,g7,(oM:¬(i:Int)<L.length)];rw[So oM]at e;exact⟨-1,rfl,by rw[<-e];rfl,F⟩
def okR(L:List Knd)(cap:Int):Bool:=decide (1<=L.length)&&(decide (L.length<=8)&&(decide (1<=cap)&&(decide (cap<=64)&&L.all okK)))
theorem xR{h:Heap}{v:V}{L:List Knd}{cap:Int}(w:WF h)(a:Recs Knd.cells 9 h v L)(hL:∀q∈L,KndH h q)(hn:L.length<=4096):
 ao go 38 [.agg [v,ZZ cap]] h fun u h'=>u=ZZ (if okR L cap then 0 else 7)/\Fr [] h h':=by
 let⟨h1,e_h1,F_h1,o_h1⟩:=aq w [v,ZZ cap];have Z:ab h1 h.next 0=some v:=o_h1.ld1 0;have l1:ab h1 h.next 1=some (ZZ cap):=o_h1.ld1 1;have len:=VV a;by_cases c0:L.length<1;refine ag ?_;simp only[evs,seval,<-e_h1,Z,len,(oM:(L.length:Int)<1)];exact⟨by simp[okR];omega,F_h1⟩;by_cases c1:8<L.length;refine ag ?_;simp only[evs,seval,<-e_h1,Z,len,(oM:¬(L.length:Int)<1),(oM:(8:Int)<L.length)];exact⟨by simp[okR];omega,F_h1⟩;by_cases c2:cap<1;refine ag ?_;simp only[evs,seval,<-e_h1,Z,l1,len,(oM:¬(L.length:Int)<1),(oM:¬(8:Int)<L.length),c2];exact⟨by simp[okR];omega,F_h1⟩;by_cases c3:64<cap;refine ag ?_;simp only[evs,seval,<-e_h1,Z,l1,len,(oM:¬(L.length:Int)<1),(oM:¬(8:Int)<L.length),c2,c3];exact⟨by simp[okR];omega,F_h1⟩;refine ag ?_;simp only[evs,seval,<-e_h1,Z,l1,len,(oM:¬(L.length:Int)<1),(oM:¬(8:Int)<L.length),c2,c3];refine aa (?_:ao go 90 _ _ (fun u h'=>u=.bool (!L.all okK)/\Fr [] h1 h')) ?_;refine ag ?_;simp only[evs,seval];refine aa (As F_h1.wf (TK a F_h1) (fun q m=>(hL q m).fr F_h1) hn) ?_;rintro _ h2 ⟨r,rfl,e,K⟩;simp only[evs,seval];exact⟨by rw[e],K⟩;rintro _ h2 ⟨rfl,K⟩;have e:okR L cap=L.all okK:=by simp[okR,(oM:1<=L.length),(oM:L.length<=8),(oM:1<=cap),(oM:cap<=64)]
 rw[e];cases c4:L.all okK;simp only[evs,seval];exact F_h1.then K;simp only[evs,seval];exact F_h1.then K
set_option maxRecDepth 4000
namespace PT
def same:PT->PT->Prop
 |nil,nil=>True
 |cons k tg ky sl tx _ _ s n,cons k' tg' ky' sl' tx' _ _ s' n'=>k=k'/\tg=tg'/\ky=ky'/\sl=sl'/\tx=tx'/\same s s'/\same n n'
 |_,_=>False
theorem rG:∀{a b:PT},same a b->a.len=b.len
 |nil,nil,_=>rfl
 |cons _ _ _ _ _ _ _ _ _,cons _ _ _ _ _ _ _ _ _,h=>by simp only[len,rG h.2.2.2.2.2.2]
 |nil,cons _ _ _ _ _ _ _ _ _,h=>h.elim
 |cons _ _ _ _ _ _ _ _ _,nil,h=>h.elim
theorem pE:∀{a b:PT},same a b→∀l c,a.walk l c=b.walk l c
 |nil,nil,_,_,_=>rfl
 |cons k tg ky sl tx _ _ s n,cons _ _ _ _ _ _ _ s' n',⟨h1,h2,h3,h4,h5,h6,h7⟩,l,c=>by
  subst h1 h2 h3 h4 h5;have e1:node k tg ky sl tx s s.walk l c=node k tg ky sl tx s' s'.walk l c:=by unfold node;rw[rG h6,pE h6]
  simp only[walk,e1,pE h7]
 |nil,cons _ _ _ _ _ _ _ _ _,h,_,_=>h.elim
 |cons _ _ _ _ _ _ _ _ _,nil,h,_,_=>h.elim
theorem same_count(k:Nat)(tg ky:Str)(sl:List Slo)(tx:Str){s Z:PT}(h:same s Z):count k tg ky sl tx s=count k tg ky sl tx Z:=by
 have K:node k tg ky sl tx s s.walk 1 0=node k tg ky sl tx Z Z.walk 1 0:=by unfold node;rw[rG h,pE h]
 unfold count;rw[K]
def app:PT->PT->PT
 |nil,t=>t
 |cons k tg ky a tx va vc sub nx,t=>cons k tg ky a tx va vc sub (nx.app t)
theorem app_cells:∀a b:PT,(a.app b).cells=a.cells++b.cells
 |nil,_=>rfl
 |cons _ _ _ _ _ _ _ _ nx,b=>by simp only[app,cells,app_cells nx b,SM]
theorem app_len:∀a b:PT,(a.app b).len=a.len+b.len
 |nil,b=>by simp[app,len]
 |cons _ _ _ _ _ _ _ _ nx,b=>by simp only[app,len,app_len nx b];omega
theorem same_app:∀{a b c d:PT},same a b->same c d->same (a.app c) (b.app d)
 |nil,nil,_,_,_,h=>h
 |cons _ _ _ _ _ _ _ _ _,cons _ _ _ _ _ _ _ _ _,_,_,h,g=>⟨h.1,h.2.1,h.2.2.1,h.2.2.2.1,h.2.2.2.2.1,h.2.2.2.2.2.1,same_app h.2.2.2.2.2.2 g⟩
 |nil,cons _ _ _ _ _ _ _ _ _,_,_,h,_=>h.elim
 |cons _ _ _ _ _ _ _ _ _,nil,_,_,h,_=>h.elim
def take':PT->Nat->PT
 |_,0=>nil
 |nil,_+1=>nil
 |cons k tg ky a tx va vc sub nx,i+1=>cons k tg ky a tx va vc sub (nx.take' i)
theorem take_app:∀(t:PT)(i:Nat),(t.take' i).app (t.at' i)=t
 |nil,0=>rfl
 |nil,_+1=>rfl
 |cons _ _ _ _ _ _ _ _ _,0=>rfl
 |cons _ _ _ _ _ _ _ _ nx,i+1=>by simp only[take',at',app,take_app nx i]
theorem take_succ{t:PT}{i k:Nat}{tg ky tx:Str}{sl:List Slo}{va vc:V}{sub nx:PT}(h:t.at' i=cons k tg ky sl tx va vc sub nx):t.take' (i+1)=(t.take' i).app (cons k tg ky sl tx va vc sub nil):=by
 induction i generalizing t with
 |zero=>
  cases t with
  |nil=>cases h
  |cons _ _ _ _ _ _ _ _ nx'=>cases h;cases nx<;>rfl
 |succ i ih=>
  cases t with
  |nil=>cases h
  |cons _ _ _ _ _ _ _ _ nx'=>simp only[take',app];rw[ih h]
end PT
theorem PH.app{h:Heap}:∀{a b:PT},PH h a->PH h b->PH h (a.app b)
 |.nil,_,_,q=>q
 |.cons _ _ _ _ _ _ _ _ _,_,⟨x1,x2,x3,x4,x5,x6,x7⟩,q=>⟨x1,x2,x3,x4,x5,x6,PH.app x7 q⟩
def PCp(k:Nat)(tg ky:Str)(sl:List Slo)(tx:Str)(vs vp:V)(sub:PT):Prop:=∀(h:Heap),WF h->PH h (.cons k tg ky sl tx vs vp sub .nil)->
 ao go 41 [.agg [ZY (k:Int),.str tg,.str ky,vs,.str tx,vp]] h fun u h'=>∃vs' vp' sub',u=.agg [ZY (k:Int),.str tg,.str ky,vs',.str tx,vp']/\PT.same sub sub'/\Fr [] h h'/\
  ∀(X:List Nat)(h2:Heap),(∀y∈X,y<h.next)->Fr X h' h2->PH h2 (.cons k tg ky sl tx vs' vp' sub' .nil)
def PCs:PT->Prop
 |.nil=>True
 |.cons k tg ky sl tx vs vp sub nx=>PCp k tg ky sl tx vs vp sub/\PCs nx
theorem PCs.at':∀{t:PT}(i:Nat),PCs t->PCs (t.at' i)
 |.nil,0,_=>trivial
 |.nil,_+1,_=>trivial
 |.cons _ _ _ _ _ _ _ _ _,0,a=>a
 |.cons _ _ _ _ _ _ _ _ _,i+1,⟨_,g⟩=>PCs.at' i g
theorem Gn.frH{e:Nat}{h:Heap}{B n:Nat}{v:V}(w:WF h)(g:Gn e h B v n cs)(f:Fr X h h')(hx:∀x∈X,x<B\/h.next<=x):Gn e h' B v n cs:=by obtain⟨Z,⟨rfl,rfl|⟨b,K,rfl,o⟩⟩|⟨b,K,rfl,o⟩⟩:=g;exact⟨Z,.inl ⟨rfl,.inl rfl⟩⟩;exact⟨Z,.inl ⟨rfl,.inr ⟨b,K,rfl,f.own _ _ (fun m=>by have:=hx _ m;have:=o.lt w;omega) o⟩⟩⟩;exact⟨Z,.inr ⟨b,K,rfl,f.own _ _ (fun m=>by have:=hx _ m;have:=o.lt w;omega) o⟩⟩
theorem xV{k:Nat}{sl:List Slo}{vs vp:V}(P:PCs sub):PCp k tg ky sl tx vs vp sub:=by
 intro h w ⟨hk,rs,ls,sp,lp,ph,_⟩;have zs:nZ vs=true:=by cases vs<;>first|rfl|exact rs.2.elim
 have zp:nZ vp=true:=by cases vp<;>first|rfl|exact sp.2.elim
 let⟨h1,e_h1,F_h1,o_h1⟩:=aq w [ZY (k:Int),.str tg,.str ky,vs,.str tx,vp];let⟨h2,e_h2,F_h2,o_h2⟩:=aq F_h1.wf [ZY 0,.str [],.str [],.nils,.str [],.nils];have n1:=hnx e_h1;have n2:=hnx e_h2;have ba:=F_h1.then F_h2;have ob:=F_h2.get o_h1;have l3:ab h2 h.next 3=some vs:=ob.ld1 3;have l5:ab h2 h.next 5=some vp:=ob.ld1 5;refine ag ?_;simp only[evs,seval,<-e_h1,<-e_h2,l3];refine aa (zu F_h2.wf (Sl.a (TK rs ba)) zs oM) ?_;rintro ae h3 ⟨gs,F3⟩;simp only[evs,seval];refine ai (c':=[ZY (k:Int),.str tg,.str ky,ae,.str tx,vp]) F3.wf (F3.get ob) (by simp[aw gs.one]) (by rw[aw gs.one];simp only[av,aB,gs.one];rfl) (by rw[aw gs.one];rfl) ?_;rintro h4 o4 F4 n4;have a7:Fr [] h h4:=(ba.then F3).fresh F4 w (RW _);have bn:ab h4 h.next 5=some vp:=o4.ld1 5;simp only[evs,seval,bn];apply aa (xr F4.wf (Sl.a (sp.fr a7)) zp oM);rintro K h5 ⟨gp,F5⟩;simp only[evs,seval];refine ai (c':=[ZY (k:Int),.str tg,.str ky,ae,.str tx,K]) F5.wf (F5.get o4) (by simp[aw gp.one]) (by rw[aw gp.one];simp only[av,aB,gp.one];rfl) (by rw[aw gp.one];rfl) ?_;rintro h6 o6 F6 n6;have bB:ab h6 h.next 5=some K:=o6.ld1 5;have bE:=F3.next;have aH:=gp.fr F6 oO;simp only[evs,seval,bB,aH.sl.len];have br:Fr [] h h6:=(a7.then F5).fresh F6 w (RW _);have bt:Own h6 h1.next [ZY 0,.str [],.str [],.nils,.str [],.nils]:=F6.own _ _ oO (F5.get (F4.own _ _ oO (F3.get o_h2)));have bg:Fr [h.next] h3 h6:=Sj (Sj (T:=[h.next]) F4 F5 F3.wf iS iS) F6 F3.wf iS iS;have bD:Gn 3 h6 h2.next ae sl.length (sl.flatMap tR):=gs.fr bg oO;have bi:∀y∈vb K,h4.next<=y/\y<h6.next:=by obtain⟨_,⟨_,rfl|⟨b,_,rfl,_⟩⟩|⟨b,hb,rfl,o⟩⟩:=aH;simp[vb];simp[vb];have:=o.lt F6.wf;simp only[vb,Su];rintro y rfl;exact⟨hb,this⟩
 refine aC (fun n env hh=>Fr [] h hh/\h6.next<=hh.next/\Own hh h.next [ZY (k:Int),.str tg,.str ky,ae,.str tx,K]/\Own hh h1.next [ZY 0,.str [],.str [],.nils,.str [],.nils]/\(∃X3:List Nat,(∀y∈X3,y<h2.next\/h3.next<=y)/\Fr X3 h3 hh)/\
  ∃(i:Nat)(d:PT),env.get 15=some (ZZ i)/\env.get 14=some (ZZ sub.len)/\env.get 1=some (.ptr h.next 0)/\env.get 2=some (.ptr h1.next 0)/\i<=sub.len/\d.len=i/\PT.same (sub.take' i) d/\
  Gn 6 hh h4.next K sub.len (d.cells++sub.cells.drop (i*6))/\(∀(X:List Nat)(h2:Heap),(∀y∈X,y<h.next\/y=h.next\/y=h1.next\/y∈vb K)->Fr X hh h2->PH h2 d)/\n=sub.len-i) sub.len oM ?_ ?_
 exact⟨br,RW _,o6,bt,⟨_,by simp;omega,bg⟩,0,.nil,iS,iS,iS,iS,oM,rfl,by cases sub<;>trivial,by simpa[PT.cells]using aH,fun _ _ _ _=>trivial,rfl⟩;rintro n env hh ⟨F,hn,ox,oz,⟨X3,a4,a9⟩,i,d,a3,bf,g1,g2,hi,dl,ds,af,dst,rfl⟩;have lx:ab hh h.next 5=some K:=ox.ld1 5;by_cases bw:i<sub.len;have ay:(i:Int)<sub.len:=oM;let⟨kc,ak,ax,slc,ar,bo,vpc,sb,nx,e1,e2,e3,e4,e5,e6⟩:=sub.split i bw;have Pi:=P.at' i;have ac:=ph.at' i;rw[e1]at Pi ac;obtain⟨_,⟨z,_⟩|⟨bp,bk,rfl,a6⟩⟩:=af;omega;have dc:=d.cells_len;rw[dl]at dc;have q0:∀Y:List V,(d.cells++Y).drop (i*6)=Y:=fun Y=>by rw[<-dc,Un]
 have q1:∀Y:List V,(d.cells++Y).take (i*6)=d.cells:=fun Y=>by rw[<-dc,UB]
 have q2:∀Y:List V,(d.cells++Y).drop (i*6+6)=Y.drop 6:=fun Y=>by rw[<-dc,Tg]
 have ix:=nr 6 bp 0 sub.len 6 .i64 (i:Int) oM ay;simp only[RX,Tj]at ix;have lc:aj hh bp (i*6) 6=some [ZY (kc:Int),.str ak,.str ax,bo,.str ar,vpc]:=by rw[a6.ld,bM,q0,e2];rfl
 have hb:=bi bp (by simp[vb]);simp only[evs,seval,eff,a3,bf,g1,ay,lx,ix,lc];apply aa (Pi.1 hh F.wf (PH.fr F ⟨ac.1,ac.2.1,ac.2.2.1,ac.2.2.2.1,ac.2.2.2.2.1,ac.2.2.2.2.2.1,trivial⟩));rintro _ h7 ⟨a0,az,bA,rfl,sm,F7,bc⟩;have bm:ab h7 h.next 5=some (.sliceU bp 0 sub.len 6):=(F7.get ox).ld1 5;have on:au [ZY (kc:Int),.str ak,.str ax,a0,.str ar,az]=true:=PH.ones (bc [] h7 iS (Sn F7.wf));simp only[evs,eff,ix];have eC:bu (d.cells++sub.cells.drop (i*6)) (i*6) [ZY (kc:Int),.str ak,.str ax,a0,.str ar,az]=some ((d.app (.cons kc ak ax slc ar a0 az bA .nil)).cells++sub.cells.drop ((i+1) *6)):=by rw[bQ _ _ _ (by rw[Sv,dc,e2];simp),PT.app_cells];congr 1;show _++_++(d.cells++sub.cells.drop (i*6)).drop (i*6+6)=_;rw[q1,q2,Tl,(oM:i*6+6=(i+1) *6)];simp[PT.cells]
 refine ai F7.wf (F7.get a6) rfl on eC ?_;rintro h8 o8 F8 n8;have bT:=F7.next;have bv:Fr [] h h8:=(F.then F7).fresh F8 w oM;simp(disch:=omega) only[evs,seval,DF,ah,a3,lx,bm,lc];refine rqn ⟨sub.len-(i+1),oM,bv,oM,F8.own _ _ oO (F7.get ox),F8.own _ _ oO (F7.get oz),⟨X3++[bp],?_,Sj (Sj a9 F7 F3.wf (fun y Z=>.inl iX) iS) F8 F3.wf (fun y Z=>.inl Z) (fun y Z=>.inl (by simp at Z;simp[Z]))⟩,i+1,_,iS,iX,iX,iX,oM,?_,?_,⟨?_,.inr ⟨bp,bk,rfl,o8⟩⟩,?_,rfl⟩;intro y Z;simp at Z;obtain Z|rfl:=Z;exact a4 y Z;exact .inr oM;rw[PT.app_len,dl];rfl;rw[PT.take_succ e1];exact PT.same_app ds ⟨rfl,rfl,rfl,rfl,rfl,sm,trivial⟩;rw[Sv,PT.app_cells,Sv,dc,Vh,PT.cells_len,PT.cells_len];simp only[PT.len];omega;intro X h9 hX f9;have a8:Fr ([bp]++X) h7 h9:=Sj F8 f9 F7.wf (fun y Z=>.inl (by simp at Z;simp[Z])) (fun y Z=>.inl iX);have bC:Fr ([bp]++X) hh h9:=Sj F7 a8 F.wf iS (fun y Z=>.inl Z);refine PH.app (dst _ h9 ?_ bC) (bc _ h9 ?_ a8);intro y Z;simp at Z;obtain rfl|Z:=Z;exact .inr (.inr (.inr (by simp[vb])));exact hX y Z;intro y Z;simp at Z;obtain rfl|Z:=Z;omega;obtain q|q|q|q:=hX y Z;omega;omega;omega;simp[vb]at q;omega;have bj:i=sub.len:=oM;have a5:=gs.frH F3.wf a9 a4;have l6:=ox.at6.2.2.2.2.2.2;have bh:=af.one;have bz:=a5.one;simp only[evs,seval,a3,bf,g1,g2,(oM:¬(i:Int)<sub.len),l6];refine ai (c':=[ZY (k:Int),.str tg,.str ky,ae,.str tx,K]) F.wf oz rfl (by simp only[V.cells,av,aB,bz,bh];rfl) rfl ?_;rintro h7 o7 F7 n7;simp only[evs,seval,g2,o7.at6.2.2.2.2.2.2];subst bj;rw[So (by rw[PT.cells_len];omega),Tq]at af;have te:sub.take' sub.len=sub:=by
  have:=PT.take_app sub sub.len;rw[PT.at_end _ _ (RW _)]at this;have an:∀t:PT,t.app .nil=t:=by
   intro t;induction t with
   |nil=>rfl
   |cons _ _ _ _ _ _ _ _ nx _ ih=>simp only[PT.app,ih]
  rw[an]at this;exact this
 rw[te]at ds;refine⟨ae,K,d,rfl,ds,F.fresh F7 w oM,fun X h8 hX f8=>?_⟩;have f:Fr ([h1.next]++X) hh h8:=Sj F7 f8 F.wf (fun y Z=>.inl (by simp at Z;simp[Z])) (fun y Z=>.inl iX);have a1:=a5.fr f (by
  intro y Z;simp at Z;obtain rfl|Z:=Z;omega;have:=hX y Z;omega)
 have a2:=af.fr f (by
  intro y Z;simp at Z;obtain rfl|Z:=Z;omega;have:=hX y Z;omega)
 refine⟨hk,a1.sl,ls,by rw[dl];exact a2.sl,oM,dst _ h8 ?_ f,trivial⟩;intro y Z;simp at Z;obtain rfl|Z:=Z;exact .inr (.inr (.inl rfl));exact .inl (hX y Z)
theorem pcs:∀t:PT,PCs t
 |.nil=>trivial
 |.cons _ _ _ _ _ _ _ sub nx=>⟨xV (pcs sub),pcs nx⟩
set_option maxRecDepth 4000
theorem FB{h:Heap}{b:Nat}(w:WF h)(f:Fl h b bs):ao go 109 [.ptr b 0] h fun u h'=>∃c,u=.ptr c 0/\h.next<=c/\Fl h' c bs/\Fr [] h h':=by
 let⟨Z,o,ok,hn⟩:=f;have q2:aj h b 0 66=some (flc (bs.length:Int) (bs.count true:Int) Z):=by rw[o.ld,bM,bK _ _ (by simp[dL,ok.len])];rw[UA,Sf (by simp[dL,ok.len])]
 have K:(flc (bs.length:Int) (bs.count true:Int) Z).length=66:=by simp[dL,ok.len]
 have on:au (flc (bs.length:Int) (bs.count true:Int) Z)=true:=by
  unfold flc;have:∀l:List Nat,au (l.map uw)=true:=fun l=>by induction l with
   |nil=>rfl
   |cons x l ih=>simp only[Td];rw[au];simp[uw,V.one]
  rw[av,av,this];rfl
 refine ag ?_;simp only[evs,seval,q2];refine ai (c':=flc (bs.length:Int) (bs.count true:Int) Z) (SO w _).wf (Ts w _) K on (by rw[bQ _ _ _ (by rw[V.cells,K];simp)];simp[V.cells,K]) ?_;rintro h3 o3 F3 n3;simp only[evs,seval];exact⟨h.next,rfl,RW _,⟨Z,o3,ok,hn⟩,(SO w _).fresh F3 w (RW _)⟩
def bN(n:Nat)(a k:Int):Prop:=a<0\/k<0\/(n:Int)<a\/(n:Int)-a<k
instance(n:Nat)(a k:Int):Decidable (bN n a k):=by unfold bN;infer_instance
theorem Bf{h:Heap}{v:V}{l:List Int}{a k:Int}(w:WF h)(r:Rp h v l)(a0:-9223372036854775808<=a)(a1:a<=9223372036854775807)(k0:-9223372036854775808<=k)(k1:k<=9223372036854775807):
 ao go 206 [v,ZZ a,ZZ k] h fun u h'=>Fr [] h h'/\if bN l.length a k then u=.tup [.nilp,.nilp,.nilp,ZZ 4]else
  ∃t1 t2 t3 p1 p2 p3,u=.tup [pv p1,pv p2,pv p3,ZZ 0]/\At h' t1 p1/\At h' t2 p2/\At h' t3 p3/\t1.list=l.take a.toNat/\t2.list=(l.drop a.toNat).take k.toNat/\t3.list=(l.drop a.toNat).drop k.toNat:=by
 have rr:=r;obtain⟨t,p,rfl,at',rfl,f⟩:=r;have f3:=f.2.2;unfold bN;let⟨h1,e_h1,F_h1,o_h1⟩:=aq w [pv p];by_cases c1:a<0;refine ag ?_;simp only[evs,seval,<-e_h1,eq_true c1];exact⟨F_h1,iS⟩;by_cases c2:k<0;refine ag ?_;simp only[evs,seval,<-e_h1,eq_false c1,eq_true c2];exact⟨F_h1,iS⟩;refine ag ?_;simp only[evs,seval,<-e_h1,eq_false c1,eq_false c2,o_h1.ld];refine aa (kR F_h1.wf (rr.fr F_h1)) ?_;rintro _ h2 ⟨rfl,F2⟩;have K:=F_h1.then F2;by_cases c3:(t.list.length:Int)<a;simp only[evs,seval,eq_true c3];exact⟨K,iS⟩;simp only[evs,seval,eq_false c3,(F2.get o_h1).ld];apply aa (kR F2.wf (rr.fr K));rintro _ h3 ⟨rfl,F3⟩;have Z:=K.then F3;by_cases c4:(t.list.length:Int)-a<k;simp(disch:=omega) only[evs,seval,ah,eq_true c4];exact⟨Z,iS⟩;simp(disch:=omega) only[evs,seval,ah,eq_false c4,((F2.then F3).get o_h1).ld1];apply aa (gL F3.wf (at'.fr Z) f oM oM);rintro _ h4 ⟨t1,t2,p1,p2,rfl,b1,b2,b3,b4,F4⟩;simp only[evs,seval];refine aa (gL F4.wf b2 (by rw[b4];exact f.sub (Uc _ _)) oM oM) ?_;rintro _ h5 ⟨t3,t4,p3,p4,rfl,d1,d2,d3,d4,F5⟩;simp only[evs,seval];refine⟨Z.then (F4.then F5),?_⟩;exact⟨t1,t3,t4,p1,p3,p4,rfl,b1.fr F5,d1,d2,b3,by rw[d3,b4],by rw[d4,b4]⟩
theorem I8{h:Heap}{v:V}{l:List Int}{a k:Int}(w:WF h)(r:Rp h v l)(a0:-9223372036854775808<=a)(a1:a<=9223372036854775807)(k0:-9223372036854775808<=k)(k1:k<=9223372036854775807):
 ao go 147 [v,ZZ a,ZZ k] h fun z h'=>Fr [] h h'/\∃c,z=.tup [.agg [c],ZZ (if bN l.length a k then 4 else 0)]/\c.one=true/\(¬bN l.length a k->Rp h' (.agg [c]) (l.take a.toNat++(l.drop a.toNat).drop k.toNat)):=by
 have rr:=r;obtain⟨t,p,rfl,at',rfl,f⟩:=r;let⟨h1,e_h1,F_h1,o_h1⟩:=aq w [pv p];let⟨h2,e_h2,F_h2,o_h2⟩:=aq F_h1.wf [.nilp];have ae:=F_h1.then F_h2;refine ag ?_;simp only[evs,seval,<-e_h1,<-e_h2,(F_h2.get o_h1).ld];refine aa (Bf F_h2.wf (rr.fr ae) a0 a1 k0 k1) ?_;rintro u h3 ⟨Z,hu⟩;have ac:=ae.then Z;by_cases c:bN t.list.length a k;rw[if_pos c]at hu;subst hu;simp only[evs,seval,eq_false (oM:¬(4:Int)=0)];apply stu Z.wf (Z.get o_h2);rintro h4 K af an;simp only[evs,seval,K.ld];exact⟨ac.fresh af w F_h1.next,.nilp,by simp[c],rfl,fun x=>absurd c x⟩;rw[if_neg c]at hu;obtain⟨t1,t2,t3,p1,p2,p3,rfl,b1,b2,b3,e1,e2,e3⟩:=hu;have fs:Fit (t1.list++t3.list):=by rw[e1,e3];apply f.sub;have:(t.list.take a.toNat++(t.list.drop a.toNat).drop k.toNat).Sublist (t.list.take a.toNat++t.list.drop a.toNat):=List.Sublist.append (Uo _) (Uc _ _);rwa[SB]at this
 simp only[evs,seval];apply aa (mM Z.wf b1 b3 fs);rintro _ h4 ⟨t4,p4,rfl,b4,e4,F4⟩;simp only[evs,seval];apply ai (c':=[pv p4]) F4.wf (F4.get (Z.get o_h2)) rfl (by simp[au,V.cells,fw]) rfl;rintro h5 o5 F5 n5;simp only[evs,seval,o5.ld];have ak:=ac.then F4;refine⟨ak.fresh F5 w F_h1.next,pv p4,by simp[c],fw _,fun _=>⟨t4,p4,rfl,b4.frb F5 (F4.get (Z.get o_h2)) iS,by rw[e4,e1,e3],?_⟩⟩;rw[e1,e3]at fs;exact fs
def c7(n:Nat)(a k t:Int):Prop:=bN n a k\/t<0\/(n:Int)-k<t
instance(n:Nat)(a k t:Int):Decidable (c7 n a k t):=by unfold c7;infer_instance
def aS{α:Type}(l:List α)(a k:Nat):List α:=l.take a++(l.drop a).drop k
def cx{α:Type}(l:List α)(a k t:Nat):List α:=(aS l a k).take t++(l.drop a).take k++(aS l a k).drop t
theorem gM(l:List α)(a k:Nat):(aS l a k).Sublist l:=by have:(l.take a++(l.drop a).drop k).Sublist (l.take a++l.drop a):=List.Sublist.append (Uo _) (Uc _ _);rwa[SB]at this
theorem uF(l:List α)(a k:Nat):(aS l a k++(l.drop a).take k).Perm l:=by
 unfold aS;have h:(l.take a++((l.drop a).take k++(l.drop a).drop k))=l:=by rw[SB,SB]
 conv=>rhs;rw[<-h]
 rw[SM];exact Vz _ UW
theorem uS(l:List α)(a k t:Nat):(cx l a k t).Perm l:=by
 refine List.Perm.trans ?_ (uF l a k);unfold cx;have h:aS l a k=(aS l a k).take t++(aS l a k).drop t:=(SB _ _).symm;conv=>rhs;rw[h]
 rw[SM,SM];exact Vz _ UW
theorem Ez{l r:List Int}(p:l.Perm r):l.sum=r.sum:=by
 induction p with
 |nil=>rfl
 |cons x _ ih=>simp[ih]
 |swap x y l=>simp;omega
 |trans _ _ a b=>exact a.trans b
theorem Fit.perm{l r:List Int}(f:Fit l)(p:r.Perm l):Fit r:=
 ⟨fun x hx=>f.1 x (p.subset hx),by rw[Ez p];exact f.2.1,by rw[p.length_eq];exact f.2.2⟩
theorem I9{h:Heap}{v:V}{l:List Int}{a k t:Int}(w:WF h)(r:Rp h v l)(a0:-9223372036854775808<=a)(a1:a<=9223372036854775807)(k0:-9223372036854775808<=k)(k1:k<=9223372036854775807)
 (t0:-9223372036854775808<=t) (t1:t<=9223372036854775807):
 ao go 227 [v,ZZ a,ZZ k,ZZ t] h fun z h'=>Fr [] h h'/\∃c,z=.tup [.agg [c],ZZ (if c7 l.length a k t then 4 else 0)]/\c.one=true/\
  (¬c7 l.length a k t->Rp h' (.agg [c]) (cx l a.toNat k.toNat t.toNat)):=by
 have rr:=r;obtain⟨tr,p,rfl,at',rfl,f⟩:=r;have f3:=f.2.2;let⟨h1,e_h1,F_h1,o_h1⟩:=aq w [pv p];let⟨h2,e_h2,F_h2,o_h2⟩:=aq F_h1.wf [.nilp];have an:=F_h1.then F_h2;refine ag ?_;simp only[evs,seval,<-e_h1,<-e_h2,(F_h2.get o_h1).ld];refine aa (Bf F_h2.wf (rr.fr an) a0 a1 k0 k1) ?_;rintro u h3 ⟨F3,hu⟩;have K:=an.then F3;by_cases c:bN tr.list.length a k;rw[if_pos c]at hu;subst hu;simp only[evs,seval,eq_false (oM:¬(4:Int)=0)];apply stu F3.wf (F3.get o_h2);rintro h4 Z ac ak;simp only[evs,seval,Z.ld];exact⟨K.fresh ac w F_h1.next,.nilp,by simp[c,c7],rfl,fun x=>absurd (.inl c) x⟩;rw[if_neg c]at hu;have cc:=c;unfold bN at cc;obtain⟨aH,af,az,p1,p2,p3,rfl,b1,b2,b3,e1,e2,e3⟩:=hu;have hR:aH.list++az.list=aS tr.list a.toNat k.toNat:=by rw[e1,e3];rfl
 have fs:Fit (aH.list++az.list):=by rw[hR];exact f.sub (gM _ _ _)
 by_cases c1:t<0;simp only[evs,seval,eq_true c1,eq_false (oM:¬(4:Int)=0)];apply stu F3.wf (F3.get o_h2);rintro h4 Z ac ak;simp only[evs,seval,Z.ld];exact⟨K.fresh ac w F_h1.next,.nilp,by simp[c1,c7],rfl,fun x=>absurd (.inr (.inl c1)) x⟩;simp only[evs,seval,eq_false c1,((F_h2.then F3).get o_h1).ld];apply aa (kR F3.wf (rr.fr K));rintro _ h4 ⟨rfl,F4⟩;by_cases c2:(tr.list.length:Int)-k<t;simp(disch:=omega) only[evs,seval,ah,eq_true c2,eq_false (oM:¬(4:Int)=0)];apply stu F4.wf ((F3.then F4).get o_h2);rintro h5 ar ay a2;simp only[evs,seval,ar.ld];exact⟨(K.then F4).fresh ay w F_h1.next,.nilp,by simp[c2,c7],rfl,fun x=>absurd (.inr (.inr c2)) x⟩;simp(disch:=omega) only[evs,seval,ah,eq_false c2];apply aa (mM F4.wf (b1.fr F4) (b3.fr F4) fs);rintro _ h5 ⟨t4,p4,rfl,b4,e4,F5⟩;simp only[evs,seval];refine aa (gL F5.wf b4 (by rw[e4];exact fs) oM oM) ?_;rintro _ h6 ⟨t5,t6,p5,p6,rfl,b5,b6,e5,e6,F6⟩;have ax:=F4.then (F5.then F6);have hM:t5.list++af.list++t6.list=cx tr.list a.toNat k.toNat t.toNat:=by rw[e5,e6,e4,hR,e2];rfl
 have fM:Fit (t5.list++af.list++t6.list):=by rw[hM];exact f.perm (uS _ _ _ _)
 simp only[evs,seval];apply aa (mM F6.wf b5 (b2.fr ax) fM.left);rintro _ h7 ⟨t7,p7,rfl,b7,e7,F7⟩;simp only[evs,seval];refine aa (mM F7.wf b7 (b6.fr F7) (by rw[e7];exact fM)) ?_;rintro _ h8 ⟨t8,p8,rfl,b8,e8,F8⟩;have ae:=ax.then (F7.then F8);simp only[evs,seval];apply ai (c':=[pv p8]) F8.wf (ae.get (F3.get o_h2)) rfl (by simp[au,V.cells,fw]) rfl;rintro h9 o9 F9 n9;simp only[evs,seval,o9.ld];have nb:¬c7 tr.list.length a k t:=by unfold c7;intro q;obtain q|q|q:=q;exact c q;exact c1 q;exact c2 q
 refine⟨(K.then ae).fresh F9 w F_h1.next,pv p8,by simp[nb],fw _,fun _=>⟨t8,p8,rfl,b8.frb F9 (ae.get (F3.get o_h2)) iS,by rw[e8,e7,hM],?_⟩⟩;rw[hM]at fM;exact fM
def rmv(a n:Int)(f:Int->Bool)(x:Int):Bool:=if x<a then f x else f (x+n)
theorem Ci{h:Heap}{v:V}{L:List (Int×Int)}{a n m:Int}(w:WF h)(s:Sp h v L)(ok:SOK L (-1))(hm:m<=8000)(hL:∀s∈L,s.2<=m)(bc:0<=m)(ha:0<=a)(ba:a+n<=m)(hn:0<=n):
 ao go 148 [v,ZZ a,ZZ n] h fun z h'=>Fr [] h h'/\∃y L',z=.tup [y,ZZ 0]/\y.one=true/\SpF h' y L'/\SOK L' (-1)/\(∀x,inS L' x=rmv a n (inS L) x)/\∀s∈L',s.2<=m-n:=by
 have ay:=ok.len oM hL;refine ag ?_;simp only[evs,seval];refine aa (uI w s ok ay ha oM hn oM) ?_;rintro _ h1 ⟨rfl,F1⟩;have s1:=s.fr F1;simp only[evs,seval,s1.len];refine aC (fun k env hh=>∃(i:Nat)(vo:V)(O:List (Int×Int))(Z:Int),Fr [] h hh/\env.get 19=some v/\env.get 20=some (ZZ L.length)/\env.get 21=some (ZZ i)/\env.get 9=some vo/\
  env.get 1=some (ZZ a)/\env.get 2=some (ZZ n)/\i<=L.length/\GRecs sp 2 hh h.next vo O/\SOK O (-1)/\SOK (L.drop i) Z/\(∀s∈O,s.2<=max (min Z a) (Z-n))/\Z<=m/\
  (∀x,inS O x=rmv a n (inS (L.take i)) x)/\k=L.length-i) L.length oM ?_ ?_
 exact⟨0,.nils,[],-1,F1,iS,iS,iS,iS,iS,iS,oM,GRecs.nil,trivial,ok,iS,oM,fun x=>by simp[rmv,inS],rfl⟩;rintro k env hh ⟨i,vo,O,Z,F,a7,a2,af,a0,g1,g2,hi,gO,ak,az,mO,lm,sO,rfl⟩;have cO:=ak.count m (fun s hs=>by have:=mO s hs;omega) oM;by_cases an:(i:Int)<L.length;let⟨bb,oo,s,e1,e2,e3,e4,e5⟩:=Sp.ix (TK (L:=L) ‹Sp h v L› F) i an
 have sm:=hL s (RZ e5);rw[aK e5]at az;let⟨k1,k2,k3,k4,k5⟩:=az;let⟨h2,e_h2,F_h2,o_h2⟩:=aq F.wf [ZZ 0,ZZ 0];simp only[evs,seval,a7,a2,af,an,e1,e4,<-e_h2];apply stu F_h2.wf o_h2;rintro h3 ac a1 a8;have ae:Fr [] hh h3:=F_h2.fresh a1 F.wf (RW _);have F3:=F.then ae;have b3:h.next<=h3.next:=F3.next;have bk:h.next<=hh.next:=F.next;simp only[evs,seval,a0,g1,ac.ld1];apply aa (nj F3.wf (gO.fr ae) b3 oM);rintro v1 h4 ⟨ax,U4⟩;let⟨p1,p2,p3⟩:=fP (a:=s.1) (b:=min s.2 a) ak (fun hh s' K=>by have:=mO s' K;omega) k2 oM;have aH:∀s'∈lZ O s.1 (min s.2 a),s'.2<=max (min s.2 a) (s.2-n):=p3 _ (fun s' K=>by have:=mO s' K;omega) (fun _=>by omega);have ar:max s.1 (a+n)-n<s.2-n->∀s'∈lZ O s.1 (min s.2 a),s'.2<=max s.1 (a+n)-n:=fun _=>p3 _ (fun s' K=>by have:=mO s' K;omega) (fun _=>by omega);have a9:=p1.count m (fun s hs=>by have:=aH s hs;omega) oM;have a5:Own h4 hh.next [ZZ s.1,ZZ s.2]:=by refine U4.own _ _ ?_ ac;obtain⟨rfl,_⟩|⟨b,n',rfl,_,_,_,og⟩:=gO;simp[vb];have:=og.lt F.wf;simp[vb];omega
 have a3:=Gs.up (gO.fr ae) U4;simp(disch:=omega) only[evs,seval,ah,g1,g2,a5.ld1];apply aa (nj U4.wf ax (SD b3 U4.next) oM);rintro v2 h5 ⟨a4,U5⟩;have a6:=Gs.up ax U5;let⟨q1,q2,q3⟩:=fP (a:=max s.1 (a+n)-n) (b:=s.2-n) p1 ar oM oM;simp(disch:=omega) only[evs,seval,ah,af];refine rqn ⟨L.length-(i+1),oM,i+1,v2,_,s.2,F3.ups w (a3.trans a6),iX,iX,iS,iS,iX,iX,oM,a4,q1,k5,q3 _ aH (fun _=>by omega),sm,?_,rfl⟩;intro x;rw[q2,p2,sO,Sr,e5];simp only[Vq,rmv,nQ,gQ,lI,UL];by_cases c1:x<a;grind;grind;simp only[evs,seval,a2,af,a0,an];apply aa (qJ gO oM);rintro _ _ ⟨z,rfl,sz,oz,hh⟩;subst hh;simp only[evs,seval];refine⟨F,z,O,rfl,oz,sz,ak,fun x=>by rw[sO,Sf oM],fun s hs=>by have:=mO s hs;omega⟩
theorem fU{l:List α}{a k:Nat}(h:a+k<=l.length):(aS l a k).length=l.length-k:=by unfold aS;simp;omega
theorem Eo{l:List α}{a k:Nat}(h:a<=l.length)(i:Nat):(aS l a k)[i]? =if i<a then l[i]? else l[i+k]? :=by unfold aS;by_cases c:i<a;grind;grind
theorem pG{l:List Bool}{a k:Nat}(h:a<=l.length)(i:Nat):(aS l a k).getD i false=if i<a then l.getD i false else l.getD (i+k) false:=by rw[Tf,Eo h];split<;>simp[Tf]
theorem lM{n:Nat}{a k:Int}(c:¬bN n a k):0<=a/\0<=k/\a.toNat+k.toNat<=n:=by unfold bN at c;omega
theorem Kn.rem{L Z:List (Int×Int)}{a k:Int}(K:Kn L ks)(c:¬bN ks.length a k)(ok:SOK Z (-1))(e:∀x,inS Z x=rmv a k (inS L) x)(le:∀s∈Z,s.2<=(ks.length:Int)-k):Kn Z (aS ks a.toNat k.toNat):=by let⟨c0,c1,c2⟩:=lM c;have hl:=fU c2;refine⟨ok,fun s hs=>by rw[hl];have:=le s hs;omega,fun i=>?_⟩;rw[e,pG oM];unfold rmv;by_cases q:(i:Int)<a;rw[if_pos q,if_pos oM,K.eq];rw[if_neg q,if_neg oM,(oM:(i:Int)+k=((i+k.toNat:Nat):Int)),K.eq]
theorem EK(L:List (Int×Int))(Z:0<L.length):[V.nilp,V.nils]≠L.flatMap sp:=by
 cases L with
 |nil=>simp at Z
 |cons s L=>simp[sp]
theorem IZ{h:Heap}{v:V}{l:List Int}{a k:Int}(w:WF h)(x:Ix h v l ks)(a0:-9223372036854775808<=a)(a1:a<=9223372036854775807)(k0:-9223372036854775808<=k)(k1:k<=9223372036854775807):
 ao go 78 [v,ZZ a,ZZ k] h fun u h'=>Fr [] h h'/\∃c d,u=.tup [.agg [c,d],ZZ (if bN l.length a k then 4 else 0)]/\c.one=true/\d.one=true/\(¬bN l.length a k->Ix h' (.agg [c,d]) (aS l a.toNat k.toNat) (aS ks a.toNat k.toNat)):=by
 obtain⟨p,vk,L,rfl,r,s,kn,e1,e2⟩:=x;have ar:=s.slc.one;let⟨h1,e_h1,F_h1,o_h1⟩:=aq w [pv p,vk];let⟨h2,e_h2,F_h2,o_h2⟩:=aq F_h1.wf [.nilp,.nils];have af:=F_h1.then F_h2;refine ag ?_;simp only[evs,seval,<-e_h1,<-e_h2,(F_h2.get o_h1).ld];refine aa (I8 F_h2.wf (r.fr af) a0 a1 k0 k1) ?_;rintro _ h3 ⟨F3,c,rfl,hc,hr⟩;have ac:=af.then F3;let⟨h4,e_h4,F_h4,o_h4⟩:=aq F3.wf [.nilp];simp only[evs,seval,<-e_h4];apply ai (c':=[c]) F_h4.wf o_h4 rfl (by simp[au,V.cells,hc]) rfl;rintro h5 o5 F5 n5;have Z:Fr [] h3 h5:=F_h4.fresh F5 F3.wf (RW _);have ae:=ac.then Z;have o2:=Z.get (F3.get o_h2);by_cases z:bN l.length a k;simp only[evs,seval,eq_true z,eq_false (oM:¬(4:Int)=0)];apply stu Z.wf o2;rintro h6 o6 F6 n6;simp only[evs,seval,o6.ld];exact⟨ae.fresh F6 w F_h1.next,.nilp,.nils,by simp[],rfl,rfl,fun q=>absurd trivial q⟩;have z':¬bN ks.length a k:=by rw[e1];exact z
 let⟨c0,c1,c2⟩:=lM z;simp only[evs,seval,if_neg z,((F_h2.then (F3.then Z)).get o_h1).ld1];refine aa (Ci (m:=(l.length:Int)) Z.wf (s.slc.fr ae) kn.ok oM (fun s hs=>by have:=kn.le s hs;omega) oM c0 oM c1) ?_;rintro _ h6 ⟨F6,y,L',rfl,y1,sL,an,iL,mL⟩;simp only[evs,seval,(F6.get o5).ld];apply aa (qE F6.wf hc y1);rintro _ h7 ⟨F7,rfl⟩;have K:=Z.then (F6.then F7);simp only[evs,seval];apply ai (c':=[c,y]) F7.wf (K.get (F3.get o_h2)) rfl (by simp[au,V.cells,hc,y1]) rfl;rintro h8 o8 F8 n8;simp only[evs,seval,o8.ld];have ak:=ac.then K;refine⟨ak.fresh F8 w F_h1.next,c,y,by simp[],hc,y1,fun _=>?_⟩;have rr:=(hr z).fr K;let⟨t,p',hp,rr1,rr2⟩:=rr;simp only[V.agg.injEq,Sw,and_true]at hp;subst hp;have K':=kn.rem z' an iL (by rw[e1];exact mL);have ix:Ix h7 (.agg [pv p',y]) (aS l a.toNat k.toNat) (aS ks a.toNat k.toNat):=⟨p',y,L',rfl,⟨t,p',rfl,rr1,rr2⟩,sL.fr F7,K',by rw[fU oM,fU c2];omega,by rw[fU c2];omega⟩;exact ix.frb F8 (K.get (F3.get o_h2)) iS EK
theorem ID{h:Heap}{b:Nat}{a n:Nat}(w:WF h)(f:Fl h b bs)(ha:a+n<=bs.length):
 ao go 79 [.ptr b 0,ZZ (a:Int),ZZ (n:Int)] h fun u h'=>u=ZZ 0/\Fl h' b (aS bs a n)/\Fr [b] h h':=by
 have f0:=f;let⟨ws,o,ok,hn0⟩:=f;refine ag ?_;simp only[evs,seval];refine aa (lJ f0 oM oM) ?_;rintro _ _ ⟨rfl,hh⟩;replace hh:=hh.symm;subst hh;have e:qD bs.length a n=0:=by unfold qD;rw[if_neg oM]
 rw[e];simp only[evs,seval];apply aa (sI w f0);rintro _ h2 ⟨bl,⟨c,rfl,ac⟩,F2⟩;let⟨v1,s1,b1⟩:=bl.upto iS .i64 a oM oM;let⟨K,s3,b3⟩:=bl.from' iS .i64 ((a:Int)+n) oM oM;simp only[RX]at b1;rw[(oM:((a:Int)+n).toNat=a+n)]at b3;have c1:=aw (Vals.one b1);have c3:=aw (Vals.one b3);let⟨h3,e_h3,F_h3,o_h3⟩:=aq F2.wf [v1,K];have e3:halloc h2 [v1,K]=h3:=e_h3.symm;simp(disch:=omega) only[evs,seval,eff,ah,s1,s3,c1,c3,e3];have Z:=F2.then F_h3;have el:([(v1,bs.take a),(K,bs.drop (a+n))]:List (V×List Bool)).flatMap Prod.snd=aS bs a n:=by simp[aS]
 refine aa (pV (Ls:=[(v1,bs.take a),(K,bs.drop (a+n))]) F_h3.wf (f0.fr Z) (TH (n:=2) o_h3 rfl) ?_ ?_ iS) ?_;intro p hp;simp only[Sk,SH,or_false]at hp;obtain rfl|rfl:=hp;exact b1.fr F_h3;exact b3.fr F_h3;grind;rintro _ h4 ⟨rfl,f4,F4⟩;rw[el]at f4;simp only[evs,seval,DF];exact⟨f4,Z.trans F4 w iS (fun x hx=>.inl hx)⟩
theorem vL{h:Heap}{b o dl dc n:Nat}{v:V}{c:List V}{K:V->Heap->Prop}(w:WF h)(a:Own h b c)(s:Sl h 1 v n cs)(h1:au cs=true)(ho:o+dl<=c.length)
 (k:∀h',Own h' b (c.take o++cs.take (min n dl)++c.drop (o+min n dl))->Fr [b] h h'->h'.next=h.next->K (ZZ (min n dl:Nat)) h'):OQ (mB h 1 (.slice b o dl dc) v) K:=by
 have ak:cs.length=n:=by have:=s.1;omega
 have sl:srcLen v=some n:=by let⟨_,e⟩:=s;cases v<;>simp only[srcLen]at e|-;all_goals first|exact e.elim|(rw[e.1])|(rw[e])
 have src:0<min n dl->srcCells h 1 v (min n dl)=some (cs.take (min n dl)):=by
  intro hp;let⟨_,e⟩:=s;have Z:∀bb oo d,Own h bb d->oo+n*1<=d.length->cs=(d.drop oo).take (n*1)->aj h bb oo (min n dl*1)=some (cs.take (min n dl)):=by intro bb oo d od hl e;rw[od.ld,bM,bK _ _ oO,e];simp only[Uh,TQ];congr 2;omega
  cases v<;>simp only[srcCells]at e|-;all_goals first|exact e.elim|(let⟨_,_,d,od,hl,e⟩:=e;exact Z _ _ d od hl e)|(omega)
 have af:Nat.min n dl=min n dl:=rfl;unfold mB;have ac:gW (.slice b o dl dc)=some dl:=rfl;rw[ac,sl];simp only[af];by_cases z:min n dl=0;rw[z]at k|-;simp only[TT,cond_true];refine⟨_,_,rfl,k h ?_ (Sn w) rfl⟩;simpa using a;rw[eP z];simp only[cond_false,src oM];have ht:au (cs.take (min n dl))=true:=by unfold au at h1|-;rw[Tv]at h1|-;exact fun x hx=>h1 x (Tw hx)
 have ae:(cs.take (min n dl)).length=min n dl:=by simp;omega
 let⟨h',e1,o1,f1,n1⟩:=gH w a ht (bQ c o (cs.take (min n dl)) (by rw[ae];omega));rw[ae]at o1;rw[e1];exact⟨_,_,rfl,k h' o1 f1 n1⟩
theorem wD(c N a:Nat)(h:a<N):aP (.sl none 1 true false false) [.slice c 0 N N,ZZ (a:Int)]=some (.slice c a (N-a) (N-a)):=by
 have Z:aW N N true false false [ZZ (a:Int)]=some (a,N,none):=by simp only[aW,bS .i64 (a:Int) N oM oM,Sx,RX]
 simp only[aP,dX,Z,Sx,Vd,eP (oM:N≠a),cond_false,Uh,Tj]
theorem uM(l:List Bool):au (l.map V.bool)=true:=by unfold au;rw[Tv];intro x Z;obtain⟨b,_,rfl⟩:=SX.1 Z;rfl
theorem IF{h:Heap}{b:Nat}{a n t:Nat}(w:WF h)(f:Fl h b bs)(hn:0<n)(ha:a+n<=bs.length)(ht:t+n<=bs.length):
 ao go 170 [.ptr b 0,ZZ (a:Int),ZZ (n:Int),ZZ (t:Int)] h fun u h'=>u=ZZ 0/\Fl h' b (cx bs a n t)/\Fr [b] h h':=by
 have f0:=f;let⟨ws,o,ok,hn0⟩:=f;have q:ab h b 0=some (ZZ (bs.length:Int)):=o.ld1 0;refine ag ?_;simp only[evs,seval];refine aa (lJ f0 oM oM) ?_;rintro _ _ ⟨rfl,hh⟩;replace hh:=hh.symm;subst hh;have e:qD bs.length a n=0:=by unfold qD;rw[if_neg oM]
 rw[e];simp(disch:=omega) only[evs,seval,ah,(oM:¬(t:Int)<0),q,(oM:¬(bs.length:Int)-n<t)];apply aa (sI w f0);rintro _ h2 ⟨bl,⟨c,rfl,an⟩,F2⟩;simp only[evs,seval];refine(de _ _ _ _ _ _ _ _ oM oM oM oM).2 ?_;simp only[RX];rw[rL];obtain⟨cc,oc,a9,ar⟩:∃cc,Own h2 c cc/\bs.length<=cc.length/\bs.map V.bool=cc.take bs.length:=by let⟨_,_,_,cc,oc,hl,he⟩:=bl;exact⟨cc,oc,oM,by simpa using he⟩
 obtain⟨h3,ac⟩:∃h3,h3=halloc h2 (List.replicate n (V.bool false)):=⟨_,rfl⟩;have ae:Fr [] h2 h3:=ac▸SO F2.wf _;have a1:Own h3 h2.next (List.replicate n (V.bool false)):=ac▸Ts F2.wf _;rw[<-ac];have a8:=bl.fr ae;let⟨v1,s1,b1⟩:=a8.from' iS .i64 a oM oM;rw[wD c bs.length a oM]at s1;cases s1;simp only[RX]at b1;simp only[evs,seval,wD c bs.length a oM];apply vL (dl:=n) ae.wf a1 b1 (uM _) iS;rintro h4 o4 F4 n4;have a5:h2.next≠c:=by have:=oc.lt F2.wf;omega
 have af:Fr [] h2 h4:=ae.fresh F4 F2.wf (RW _);have mv:Bools h4 (.slice h2.next 0 n n) ((bs.drop a).take n):=by
  have hz:(List.take 0 (List.replicate n (V.bool false))++List.take (min (bs.drop a).length n) ((bs.drop a).map V.bool)++List.drop (0+min (bs.drop a).length n) (List.replicate n (V.bool false)))=((bs.drop a).take n).map V.bool:=by rw[(oO:min (bs.drop a).length n=n)];simp
  rw[hz]at o4;have:=TH (esz:=1) (n:=n) o4 oO;have hl:((bs.drop a).take n).length=n:=by simp;omega
  show Sl h4 1 _ ((bs.drop a).take n).length _;rw[hl];simpa using this
 have a7:=bl.fr af;let⟨v3,s3,b3⟩:=a7.from' iS .i64 ((a:Int)+n) oM oM;rw[(oM:((a:Int)+n).toNat=a+n)]at b3;simp(disch:=omega) only[evs,seval,eff,ah,wD c bs.length a oM,s3];apply vL (dl:=bs.length-a) af.wf (af.get oc) b3 (uM _) oM;rintro h5 o5 F5 n5;have hk:min (bs.drop (a+n)).length (bs.length-a)=bs.length-a-n:=by simp;omega
 rw[hk]at o5;have ax:Fr [c] h2 h5:=af.trans F5 F2.wf iS (fun x hx=>.inl hx);obtain⟨K,ak⟩:∃K,K=bs.take a++bs.drop (a+n)++bs.drop (bs.length-n):=⟨_,rfl⟩;have a3:K.length=bs.length:=by grind
 have ba:(cc.take a++List.take (bs.length-a-n) ((bs.drop (a+n)).map V.bool)++cc.drop (a+(bs.length-a-n))).take bs.length=K.map V.bool:=by
  have e1:cc.take a=(bs.take a).map V.bool:=by rw[TD,ar,TQ,TM oM]
  have e2:List.take (bs.length-a-n) ((bs.drop (a+n)).map V.bool)=(bs.drop (a+n)).map V.bool:=Sf oO;have e3:(cc.drop (bs.length-n)).take n=(bs.drop (bs.length-n)).map V.bool:=by rw[Tp,ar,Va];congr 1;omega
  rw[e2,e1,(oM:a+(bs.length-a-n)=bs.length-n),ak,Vg];rw[Sf oO];rw[SF,SF];congr 1;rw[<-e3];congr 1;simp;omega
 have ay:Bools h5 (.slice c 0 bs.length bs.length) K:=by refine⟨iS,a3.symm,oM,_,o5,?_,?_⟩;simp;omega;grind
 let⟨v5,s5,b5⟩:=ay.upto iS .i64 t oM oM;let⟨v6,s6,b6⟩:=Sl.range ay oM iS .i64 .i64 (t:Int) ((bs.length:Int)-n) oM oM oM;simp only[RX]at b5 b6;have a2:Bools h5 (.slice h2.next 0 n n) ((bs.drop a).take n):=by let⟨x1,x2,x3,d,od,x4⟩:=mv;exact⟨x1,x2,x3,d,F5.own _ _ (eV a5) od,x4⟩
 have rl:(aS bs a n).length=bs.length-n:=fU ha;have t5:K.take t=(aS bs a n).take t:=by rw[ak];show List.take t (bs.take a++bs.drop (a+n)++bs.drop (bs.length-n))=_;rw[SK oO];simp[aS]
 have t6:(K.drop t).take (bs.length-n-t)=(aS bs a n).drop t:=by rw[ak];show((bs.take a++bs.drop (a+n)++bs.drop (bs.length-n)).drop t).take (bs.length-n-t)=_;rw[Tk oO,SK oO,Sf oO];simp[aS]
 have aH:Bools h5 v6 ((aS bs a n).drop t):=by
  rw[<-t6];show Sl h5 1 v6 _ _;rw[(oM:((bs.length:Int)-n).toNat=bs.length-n)]at b6;have hl:((K.drop t).take (bs.length-n-t)).length=bs.length-n-t:=by simp;omega
  rw[hl];simpa[TD,Tp]using b6
 have a0:Bools h5 v5 ((aS bs a n).take t):=by grind
 have c5:=aw (Vals.one a0);have c6:=aw (Vals.one aH);have a4:b≠c:=by
  rintro rfl;have:=congrArg List.length ((F2.get o).uniq oc);have hh:=ar;rw[<-(F2.get o).uniq oc]at hh;have h0:=congrArg List.head? hh;cases bs with
  |nil=>simp at ha;omega
  |cons x bs=>simp[flc]at h0
 have az:Own h5 b (flc (bs.length:Int) (bs.count true:Int) ws):=ax.own _ _ (eV a4) (F2.get o);have f5:Fl h5 b bs:=⟨ws,az,ok,hn0⟩;have q5:ab h5 b 0=some (ZZ (bs.length:Int)):=az.ld1 0;let⟨h6,e_h6,Z,o_h6⟩:=aq F5.wf [v5,.slice h2.next 0 n n,v6];have e6:halloc h5 [v5,.slice h2.next 0 n n,v6]=h6:=e_h6.symm;simp(disch:=omega) only[evs,seval,DF,eff,ah,s5,s6,q5,c5,c6,e6];have el:([(v5,(aS bs a n).take t),(.slice h2.next 0 n n,(bs.drop a).take n),(v6,(aS bs a n).drop t)]:List (V×List Bool)).flatMap Prod.snd=cx bs a n t:=by simp[cx]
 refine aa (pV (Ls:=[(v5,(aS bs a n).take t),(.slice h2.next 0 n n,(bs.drop a).take n),(v6,(aS bs a n).drop t)]) Z.wf (f5.fr Z) (TH (n:=3) o_h6 rfl) ?_ ?_ iS) ?_;intro p hp;simp only[Sk,SH,or_false]at hp;obtain rfl|rfl|rfl:=hp;exact a0.fr Z;exact a2.fr Z;exact aH.fr Z;grind;rintro _ h7 ⟨rfl,f7,F7⟩;rw[el]at f7;simp only[evs,seval,DF,q5];have a6:Fr [] h h5:=F2.trans ax w iS (fun x hx=>by simp at hx;subst hx;exact .inr an);exact⟨f7,(a6.then Z).trans F7 w iS (fun x hx=>.inl hx)⟩
theorem My:2^(F:T IFn).dep<=1099511627776:=by decide
abbrev mas:IC:=.ops [⟨none,.al [(ZZ 0),(ZZ 0)],some 14⟩,⟨none,.st 2 (.v 14) (.v 54),none⟩]
abbrev mbd:IC:=.block 1 (.ops [⟨none,.ld 1 false (.v 12),none⟩,⟨none,.p (.faddr 0) [.v 14],none⟩,⟨none,.ld 1 false (.l 0),none⟩,⟨none,.p (.faddr 1) [.v 14],none⟩,⟨none,.ld 1 false (.l 0),none⟩,⟨none,.cf 182 [.l 4,.l 2,.l 0,.c (.bool true)],none⟩,⟨none,.st 1 (.v 12) (.l 0),none⟩])
theorem Aj{y:V}(L:List (Int×Int))(Z:0<L.length):[y]≠L.flatMap sp:=by intro e;have:=congrArg List.length e;rw[aJ eg]at this;simp at this;omega
theorem SpF.frB{h:Heap}{v:V}{L:List (Int×Int)}{S:List Nat}{B:Nat}(a:SpF h v L)(f:FrB S B h h')(Z:∀b∈S,∃y,Own h b [y]):SpF h' v L:=by obtain x|⟨b,e,o,p⟩:=a;exact .inl x;refine .inr ⟨b,e,f.own _ _ (fun q=>?_) o,p⟩;let⟨y,oy⟩:=Z b q;exact Aj L p (oy.uniq o)
theorem CS{h:Heap}{B b12:Nat}{K:T V}{y:V}{L:List (Int×Int)}{f t m:Int}(w:WF h)(hb:h.bl.get B=some (.lp [54] mas mbd K 0 none))(an:K.get 12=some (.ptr b12 0))(oy:Own h b12 [y])
 (s:SpF h y L) (ok:SOK L (-1)) (hm:m<=8000) (hL:∀s∈L,s.2<=m) (hf:0<=f) (aH:f<=t) (ht:t<=m):
 ao go (YB+B) [.agg [ZZ f,ZZ t]] h fun u h'=>u=.bool true/\FrB [b12] B h h'/\h'.bl.get B=some (.lp [54] mas mbd K 0 none)/\∃y' L',Own h' b12 [y']/\SpF h' y' L'/\SOK L' (-1)/\(∀x,inS L' x=if f<=x/\x<t then true else inS L x)/\∀s∈L',s.2<=m:=by
 apply AD My hb rfl;let⟨h1,e_h1,F_h1,o_h1⟩:=aq w [ZZ 0,ZZ 0];have e1:halloc h [ZZ 0,ZZ 0]=h1:=e_h1.symm;simp only[tG];simp only[evs,seval,e1];apply stu F_h1.wf o_h1;rintro h2 ax ar a1;simp only[evs,seval];have Z:Fr [] h h2:=F_h1.fresh ar w (RW _);have ak:=Z.lp B _ rfl hb;refine⟨[54],mas,mbd,K,none,ak,?_⟩;have X3:FrB [b12] B h2 (hset h2 B (.lp [54] mas mbd K 1 none)):=VU Z.wf ak rfl _;obtain⟨h3,e3⟩:∃h3,h3=hset h2 B (.lp [54] mas mbd K 1 none):=⟨_,rfl⟩;rw[<-e3]at X3;rw[<-e3];have af:FrB [] B h2 h3:=by rw[e3];exact VU Z.wf ak rfl _
 have ay:h3.bl.get B=some (.lp [54] mas mbd K 1 none):=by rw[e3];exact sE _ _ _
 have ac:Own h3 b12 [y]:=af.own _ _ iS (Z.get oy);have a0:Own h3 h.next [ZZ f,ZZ t]:=af.own _ _ iS ax;simp only[evs,seval,an,ac.ld1,a0.ld1];apply aa (pL (m:=m) X3.wf ((s.fr Z).frB af iS) ok hm hL hf aH ht);rintro y' h4 ⟨F4,L',o1,sL,az,iL,mL⟩;simp only[evs,seval,an];refine ai (c':=[y']) F4.wf (F4.get ac) (by rw[aw o1];rfl) (by rw[aw o1];simp[au,o1]) (by rw[aw o1];rfl) ?_;rintro h5 o5 F5 n5;simp only[evs,seval];have ae:=F5.lp B _ rfl (F4.lp B _ rfl ay);refine⟨[54],mas,mbd,K,1,none,ae,?_,sE _ _ _,?_⟩;exact((Z.b iS).trans (X3.trans ((F4.b iS).trans (F5.b iS)))).trans (VU F5.wf ae rfl _);have X6:FrB [] B h5 (hset h5 B (.lp [54] mas mbd K 0 none)):=VU F5.wf ae rfl _;exact⟨y',L',X6.own _ _ iS o5,(sL.frb F5 (F4.get ac) Aj).frB X6 iS,az,iL,mL⟩
theorem HW{h:Heap}{v:V}{a t k:Int}(w:WF h)(hv:v.one=true):
 ao go 229 [v,ZZ a,ZZ t,ZZ k] h fun u h'=>∃b1 b2 b3 b4,u=.func (.func 264) [] [.ptr b1 0,.ptr b2 0,.ptr b3 0,.ptr b4 0]/\Own h' b1 [v]/\Own h' b2 [ZZ a]/\Own h' b3 [ZZ k]/\Own h' b4 [ZZ t]/\Fr [] h h'/\h.next<=b1/\h.next<=b2/\h.next<=b3/\h.next<=b4:=by
 let⟨h1,e_h1,F_h1,o_h1⟩:=aq w [v];let⟨h2,e_h2,F_h2,o_h2⟩:=aq F_h1.wf [ZZ a];let⟨h3,e_h3,F_h3,o_h3⟩:=aq F_h2.wf [ZZ t];let⟨h4,e_h4,F_h4,o_h4⟩:=aq F_h3.wf [ZZ k];have ae:=F_h1.next;have ac:=F_h2.next;have af:=F_h3.next;refine ag ?_;simp only[evs,seval,aw hv,<-e_h1,<-e_h2,<-e_h3,<-e_h4];have Z:=F_h3.then F_h4;have K:=F_h2.then Z;exact⟨_,_,_,_,rfl,K.get o_h1,Z.get o_h2,o_h4,F_h4.get o_h3,F_h1.then K,oM,oM,oM,oM⟩
theorem EA{h:Heap}{B b1 b2 b3 b4:Nat}{v:V}{L:List (Int×Int)}{a t k:Int}(J:Nat->Heap->Prop)
 (hJ:∀i hh,J i hh->WF hh/\Own hh b1 [v]/\Own hh b2 [ZZ a]/\Own hh b3 [ZZ k]/\Own hh b4 [ZZ t]/\Sp hh v L)
 (az:∀i hh h',J i hh->Fr [] hh h'->J i h')
 (af:∀(i:Nat) s hh,L[i]? =some s->J i hh->if max s.1 a+k<min s.2 t+k then ao go (YB+B) [.agg [ZZ (max s.1 a+k),ZZ (min s.2 t+k)]] hh (fun u h'=>u=.bool true/\J (i+1) h')else J (i+1) hh)
 (hL:∀s∈L,0<=s.1/\s.1<s.2/\s.2<=1073741824) (ha:0<=a) (a2:a<=1073741824) (ht:0<=t) (a0:t<=1073741824) (hk:-1073741824<=k) (a1:k<=1073741824) (h0:J 0 h) (hl:L.length<=4096):
 ao go 264 [.yld B,.ptr b1 0,.ptr b2 0,.ptr b3 0,.ptr b4 0] h fun u h'=>u=.tup []/\J L.length h':=by
 let⟨w,o1,_,_,_,s⟩:=hJ 0 h h0;refine ag ?_;simp only[evs,seval,o1.ld1,s.len];refine aC (fun n env hh=>∃i:Nat,env.get 0=some (.yld B)/\env.get 2=some (.ptr b2 0)/\env.get 3=some (.ptr b3 0)/\env.get 4=some (.ptr b4 0)/\env.get 8=some v/\env.get 9=some (ZZ L.length)/\env.get 10=some (ZZ i)/\i<=L.length/\J i hh/\n=L.length-i) L.length oM ?_ ?_
 ·exact⟨0,iS,iS,iS,iS,iS,iS,iS,oM,h0,rfl⟩
 ·rintro n env hh ⟨i,g0,g2,g3,g4,g8,g9,ae,hi,j,rfl⟩;let⟨w,o1,o2,o3,o4,s⟩:=hJ i hh j;by_cases ak:(i:Int)<L.length
  ·let⟨bb,oo,x,e1,e2,e3,e4,e5⟩:=Sp.ix s i ak;have hx:=hL x (RZ e5);let⟨h2,e_h2,F_h2,o_h2⟩:=aq w [ZZ 0,ZZ 0];simp only[evs,seval,g8,g9,ae,ak,e1,e4,<-e_h2];refine stu F_h2.wf o_h2 ?_;rintro h3 Z ax aH;have K:Fr [] hh h3:=F_h2.fresh ax w (RW _);simp(disch:=omega) only[evs,seval,eff,ah,g2,g3,g4,Z.ld1,(K.get o2).ld1,(K.get o3).ld1,(K.get o4).ld1];refine stu K.wf Z ?_;rintro h4 an ay n4;have F4:Fr [] hh h4:=K.fresh ay w (RW _);simp only[evs,seval,eff];refine stu F4.wf an ?_;rintro h5 ac ar n5;have F5:Fr [] hh h5:=F4.fresh ar w (RW _);have st:=af i x h5 e5 (az i hh h5 j F5);by_cases c:max x.1 a+k<min x.2 t+k
   ·rw[if_pos c]at st;simp only[evs,seval,DF,g0,g2,g3,g4,Z.ld1,(K.get o2).ld1,(K.get o3).ld1,(K.get o4).ld1,(F4.get o3).ld1,(F4.get o4).ld1,ac.ld1,ac.ld,eq_true c,K1];refine aa st ?_;rintro _ h6 ⟨rfl,j6⟩;simp(disch:=omega) only[evs,seval,ah,ae];refine rqn ⟨L.length-(i+1),oM,i+1,iX,iX,iX,iX,iX,iX,iS,oM,j6,rfl⟩
    done
   ·rw[if_neg c]at st;simp(disch:=omega) only[evs,seval,DF,ah,g2,g3,g4,ae,Z.ld1,(K.get o2).ld1,(K.get o3).ld1,(K.get o4).ld1,(F4.get o3).ld1,(F4.get o4).ld1,ac.ld1,eq_false c];refine rqn ⟨L.length-(i+1),oM,i+1,iX,iX,iX,iX,iX,iX,iS,oM,st,rfl⟩
    done
  ·have:i=L.length:=oM
   subst this;simp only[evs,seval,g9,ae,ak];exact j
theorem FrB.frs{S:List Nat}{B:Nat}{h:Heap}(w:WF h)(f:Fr [] h h1)(a:FrB S B h1 h2)(hB:h.next<=B):Fr S h h2:=
 ⟨SD f.next a.next,a.wf,fun b c hb o=>a.own b c hb (f.get o),fun b c hb o=>a.pl b c hb (f.pl b c iS o),
  fun b x hx e=>a.lp b x (by rintro rfl;rw[(w _ hB).1]at e;cases e) hx (f.lp b x hx e),fun b c r=>a.ro b c (f.ro b c r)⟩
def prt(a k d:Int)(L:List (Int×Int))(x:Int):Bool:=L.any fun s=>decide (max s.1 a+d<=x)&&decide (x<min s.2 (a+k)+d)
theorem yp{a k d:Int}{L:List (Int×Int)}{i:Nat}{s:Int×Int}(e:L[i]? =some s)(x:Int):prt a k d (L.take (i+1)) x=(prt a k d (L.take i) x||(decide (max s.1 a+d<=x)&&decide (x<min s.2 (a+k)+d))):=by unfold prt;rw[Sr,e,List.any_append];simp
theorem HV(a k d:Int)(L:List (Int×Int))(x:Int):prt a k d L x=(decide (a+d<=x)&&decide (x<a+k+d)&&inS L (x-d)):=by unfold prt inS;rw[Ur];simp only[Ve,RU,decide_eq_true_eq];constructor;grind;grind
theorem HP{h:Heap}{en:T V}{Q:Ex→T V→Heap→Prop}{b1 b2 b3 b4 b12:Nat}{v y:V}{L L2:List (Int×Int)}{a k t m:Int}(w:WF h)
 (g53:en.get 53=some (.func (.func 264) [] [.ptr b1 0,.ptr b2 0,.ptr b3 0,.ptr b4 0])) (g12:en.get 12=some (.ptr b12 0))
 (o1:Own h b1 [v]) (o2:Own h b2 [.int .i64 a]) (o3:Own h b3 [.int .i64 (t-a)]) (o4:Own h b4 [.int .i64 (a+k)]) (o12:Own h b12 [y])
 (n1:b1≠b12) (n2:b2≠b12) (n3:b3≠b12) (n4:b4≠b12) (s:SpF h v L) (ok:SOK L (-1)) (mL:∀s∈L,s.2≤m) (s2:SpF h y L2) (ok2:SOK L2 (-1)) (m2:∀s∈L2,s.2≤m)
 (hm:m≤8000) (ha:0≤a) (hk:0≤k) (ht:0≤t) (hak:a+k≤m) (htk:t+k≤m)
 (K:∀h' y' L',Fr [b12] h h'→Own h' b12 [y']→SpF h' y' L'→SOK L' (-1)→(∀x,inS L' x=(inS L2 x||prt a k (t-a) L x))→(∀s∈L',s.2≤m)→Q .norm en h'):
 W go (.rf (.v 53) [54] mas mbd) en h Q:=by
 refine Mr (f:=264) (first:=[]) (caps:=[.ptr b1 0,.ptr b2 0,.ptr b3 0,.ptr b4 0]) ?_ oM ?_;simp only[iB];exact g53;obtain⟨h1,e1⟩:∃h1,h1=hnew h (.lp [54] mas mbd en 0 none):=⟨_,rfl⟩;rw[←e1];have F1:Fr [] h h1:=by rw[e1];exact Fr.hnew w _
 have lp1:h1.bl.get h.next=some (.lp [54] mas mbd en 0 none):=by rw[e1];exact ku _ _
 have hlen:=ok.len hm mL;refine aa (EA (B:=h.next) (L:=L) (a:=a) (t:=a+k) (k:=t-a) (b1:=b1) (b2:=b2) (b3:=b3) (b4:=b4) (v:=v)
  (fun i hh=>FrB [b12] h.next h1 hh∧hh.bl.get h.next=some (.lp [54] mas mbd en 0 none)∧∃y' L',Own hh b12 [y']∧SpF hh y' L'∧SOK L' (-1)∧(∀x,inS L' x=(inS L2 x||prt a k (t-a) (L.take i) x))∧∀s∈L',s.2≤m)
  ?_ ?_ ?_ (fun s hs=>?_) ha oM oM oM oM oM ?_ hlen) ?_
 rintro i hh ⟨X,lp,y',L',oy,_⟩;refine⟨X.wf,X.own _ _ (eV n1) (F1.get o1),X.own _ _ (eV n2) (F1.get o2),X.own _ _ (eV n3) (F1.get o3),X.own _ _ (eV n4) (F1.get o4),?_⟩;exact((s.fr F1).frB X (fun b hb=>by simp at hb;subst hb;exact⟨y,F1.get o12⟩)).slc;rintro i hh h' ⟨X,lp,y',L',oy,sy,oky,iy,my⟩ F;exact⟨X.trans (F.b iS),F.lp _ _ rfl lp,y',L',F.get oy,sy.fr F,oky,iy,my⟩;rintro i x hh e5 ⟨X,lp,y',L',oy,sy,oky,iy,my⟩;have hx:=ok.gt x (List.mem_of_getElem? e5);by_cases c:max x.1 a+(t-a)<min x.2 (a+k)+(t-a);rw[if_pos c];apply aa (CS (m:=m) X.wf lp g12 oy sy oky hm my oM oM oM);rintro _ h' ⟨rfl,X',lp',y2,L3,oy',sy',oky',iy',my'⟩;refine⟨rfl,X.trans X',lp',y2,L3,oy',sy',oky',fun z=>?_,my'⟩;rw[iy',iy,yp e5];by_cases d:max x.1 a+(t-a)≤z∧z<min x.2 (a+k)+(t-a);grind;grind;rw[if_neg c];refine⟨X,lp,y',L',oy,sy,oky,fun z=>?_,my⟩;rw[iy,yp e5];have:(decide (max x.1 a+(t-a)≤z)&&decide (z<min x.2 (a+k)+(t-a)))=false:=by simp;omega
 rw[this,Bool.or_false];have:=ok.gt s hs;exact⟨this.2.1,this.2.2.1,this.2.2.2⟩;exact⟨(Fr.refl F1.wf:Fr [] h1 h1).b iS,lp1,y,L2,F1.get o12,s2.fr F1,ok2,fun x=>by simp[prt],m2⟩;rintro _ h2 ⟨rfl,X,lp,y',L',oy,sy,oky,iy,my⟩;refine⟨_,_,_,_,_,_,lp,oM,?_⟩;have X6:FrB [] h.next h2 (hset h2 h.next .dead):=FrB.hset X.wf lp rfl _;have X7:FrB [b12] h.next h2 (hset h2 h.next .dead):=FrB.hset X.wf lp rfl _;refine K _ y' L' (FrB.frs w F1 (X.trans X7) (Nat.le_refl _)) (X6.own _ _ iS oy) (sy.frB X6 iS) oky (fun x=>?_) my;rw[iy,List.take_length]
theorem EN{l:List α}{a k t:Nat}(h:a+k<=l.length)(ht:t+k<=l.length)(i:Nat):(cx l a k t)[i]? =if i<t then(aS l a k)[i]? else if i<t+k then l[a+(i-t)]? else(aS l a k)[i-k]? :=by
 have Z:=fU h;unfold cx;have l1:((aS l a k).take t).length=t:=by simp;omega
 have l2:((l.drop a).take k).length=k:=by simp;omega
 by_cases c:i<t;grind;grind
theorem iY(l:List α)(a k t:Nat):(cx l a k t).length=l.length:=(uS l a k t).length_eq
theorem Kn.mov{L L1 L2 L':List (Int×Int)}{ks:List Bool}{a k t:Int}(K:Kn L ks)(c:¬c7 ks.length a k t)(ok:SOK L' (-1))(e1:∀x,inS L1 x=rmv a k (inS L) x)(e2:∀x,inS L2 x=shf t k (inS L1) x)
 (e:∀x,inS L' x=(inS L2 x||prt a k (t-a) L x)) (le:∀s∈L',s.2≤(ks.length:Int)):Kn L' (cx ks a.toNat k.toNat t.toNat):=by
 have c':¬bN ks.length a k:=fun q=>c (.inl q);let⟨c0,c1,c2⟩:=lM c';have ht:0≤t∧t≤(ks.length:Int)-k:=by unfold c7 at c;omega
 refine⟨ok,fun s hs=>by rw[iY];exact le s hs,fun i=>?_⟩;rw[e,e2,HV,List.getD_eq_getElem?_getD,EN c2 oM];unfold shf;by_cases q:(i:Int)<t;rw[if_pos q,if_pos (oM:i<t.toNat),e1,←List.getD_eq_getElem?_getD,pG oM];have:(decide (a+(t-a)≤(i:Int)))=false:=by simp;omega
 rw[this];simp only[Bool.false_and,Bool.or_false];unfold rmv;by_cases q2:(i:Int)<a;rw[if_pos q2,if_pos oM,K.eq];rw[if_neg q2,if_neg oM,(oM:(i:Int)+k=((i+k.toNat:Nat):Int)),K.eq];rw[if_neg q,if_neg (oM:¬i<t.toNat)];by_cases q3:(i:Int)<t+k;rw[if_pos q3,if_pos (oM:i<t.toNat+k.toNat),Bool.false_or,(oM:(i:Int)-(t-a)=((a.toNat+(i-t.toNat):Nat):Int)),K.eq];have h1:(decide (a+(t-a)≤(i:Int)))=true:=by simp;omega
 have h2:(decide ((i:Int)<a+k+(t-a)))=true:=by simp;omega
 rw[h1,h2,List.getD_eq_getElem?_getD];simp;rw[if_neg q3,if_neg (oM:¬i<t.toNat+k.toNat),(oM:(i:Int)-k=((i-k.toNat:Nat):Int)),e1,←List.getD_eq_getElem?_getD,pG oM];have:(decide ((i:Int)<a+k+(t-a)))=false:=by simp;omega
 rw[this];simp only[Bool.and_false,Bool.false_and,Bool.or_false];unfold rmv;by_cases q2:((i-k.toNat:Nat):Int)<a;rw[if_pos q2,if_pos oM,K.eq];rw[if_neg q2,if_neg oM,(oM:((i-k.toNat:Nat):Int)+k=((i-k.toNat+k.toNat:Nat):Int)),K.eq]
theorem I0{h:Heap}{v:V}{l:List Int}{a k t:Int}(w:WF h)(x:Ix h v l ks)(a0:-9223372036854775808<=a)(a1:a<=9223372036854775807)(k0:-9223372036854775808<=k)(k1:k<=9223372036854775807)
 (t0:-9223372036854775808<=t) (t1:t<=9223372036854775807):
 ao go 169 [v,ZZ a,ZZ k,ZZ t] h fun u h'=>Fr [] h h'/\∃c d,u=.tup [.agg [c,d],ZZ (if c7 l.length a k t then 4 else 0)]/\c.one=true/\d.one=true/\
  (¬c7 l.length a k t->Ix h' (.agg [c,d]) (cx l a.toNat k.toNat t.toNat) (cx ks a.toNat k.toNat t.toNat)):=by
 obtain⟨p,vk,L,rfl,r,s,kn,e1,e2⟩:=x;have bf:=s.one;let⟨h1,e_h1,F_h1,o_h1⟩:=aq w [pv p,vk];let⟨h2,e_h2,F_h2,o_h2⟩:=aq F_h1.wf [.nilp,.nils];have a6:=F_h1.then F_h2;refine ag ?_;simp only[evs,seval,<-e_h1,<-e_h2,(F_h2.get o_h1).ld];refine aa (I9 F_h2.wf (r.fr a6) a0 a1 k0 k1 t0 t1) ?_;rintro _ h3 ⟨F3,c,rfl,hc,hr⟩;have ar:=a6.then F3;let⟨h4,e_h4,F_h4,o_h4⟩:=aq F3.wf [.nilp];simp only[evs,seval,<-e_h4];apply ai (c':=[c]) F_h4.wf o_h4 rfl (by simp[au,V.cells,hc]) rfl;rintro h5 o5 F5 n5;have Z:Fr [] h3 h5:=F_h4.fresh F5 F3.wf (RW _);have a5:=ar.then Z;have o2:=Z.get (F3.get o_h2);by_cases z:c7 l.length a k t;simp only[evs,seval,eq_true z,eq_false (oM:¬(4:Int)=0)];apply stu Z.wf o2;rintro h6 o6 F6 n6;simp only[evs,seval,o6.ld];exact⟨a5.fresh F6 w F_h1.next,.nilp,.nils,by simp[],rfl,rfl,fun q=>absurd trivial q⟩;have z':¬c7 ks.length a k t:=by rw[e1];exact z
 have zc:¬bN l.length a k:=fun q=>z (.inl q);let⟨c0,c1,c2⟩:=lM zc;have ht:0<=t/\t<=(l.length:Int)-k:=by unfold c7 at z;omega
 have a9:=(F_h2.then (F3.then Z)).get o_h1;simp only[evs,seval,if_neg z,a9.ld1];refine aa (Ci (m:=(l.length:Int)) Z.wf (s.slc.fr a5) kn.ok oM (fun s hs=>by have:=kn.le s hs;omega) oM c0 oM c1) ?_;rintro _ h6 ⟨F6,y,L1,rfl,y1,sL,bm,iL,mL⟩;let⟨h7,e_h7,F_h7,o_h7⟩:=aq F6.wf [.nils];simp only[evs,seval,<-e_h7];refine ai (c':=[y]) F_h7.wf o_h7 (by rw[aw y1];rfl) (by rw[aw y1];simp[au,y1]) (by rw[aw y1];rfl) ?_;rintro h8 o8 F8 n8;have an:Fr [] h6 h8:=F_h7.fresh F8 F6.wf (RW _);simp only[evs,seval,o8.ld1];apply aa (Ck (m:=(l.length:Int)-k) an.wf (sL.slc.fr an) bm oM mL oM ht.1 oM c1);rintro _ h9 ⟨F9,y2,L2,rfl,af,bg,aH,bv,bn⟩;simp only[evs,seval];refine ai (c':=[y2]) F9.wf (F9.get o8) (by rw[aw af];rfl) (by rw[aw af];simp[au,af]) (by rw[aw af];rfl) ?_;rintro br az a7 bD;have ae:Fr [] h6 br:=(an.then F9).fresh a7 F6.wf (RW _);have ay:=F6.then ae;have bp:=Z.then ay;simp(disch:=omega) only[evs,seval,ah,(ay.get a9).ld1];apply aa (HW ae.wf bf);rintro _ bA ⟨b1,b2,b3,b4,rfl,q1,q2,q3,q4,K,m1,m2,m3,m4⟩;have bE:=az.lt ae.wf;have hn:=K.next;simp only[evs];refine HP (v:=vk) (L:=L) (L2:=L2) (y:=y2) (a:=a) (k:=k) (t:=t) (m:=(l.length:Int)) (b12:=h6.next) K.wf (iS) (iS) q1 q2 q3 q4 (K.get az) oM oM oM oM
  (s.fr (ar.then (bp.then K))) kn.ok (fun s hs=>by have:=kn.le s hs;omega) ((bg.frb a7 (F9.get o8) Aj).fr K) aH (fun s hs=>by have:=bn s hs;omega) oM c0 c1 ht.1 oM oM ?_
 rintro bz y3 L3 a4 bt a8 a2 bo bw;have bi:Fr [] h6 bz:=(ae.then K).fresh a4 F6.wf (RW _);have ba:=F6.then bi;have bj:=Z.then ba;have ax:=a8.one;simp only[evs,seval,(ba.get o5).ld,bt.ld1];apply aa (qE a4.wf hc ax);rintro _ bk ⟨ak,rfl⟩;have ac:=bj.then ak;simp only[evs,seval];apply ai (c':=[c,y3]) ak.wf (ac.get (F3.get o_h2)) rfl (by simp[au,V.cells,hc,ax]) rfl;rintro bB bh a3 bC;simp only[evs,seval,bh.ld];have bc:=ar.then ac;refine⟨bc.fresh a3 w F_h1.next,c,y3,by simp[],hc,ax,fun _=>?_⟩;have rr:=(hr z).fr ac;let⟨t',p',hp,rr1,rr2⟩:=rr;simp only[V.agg.injEq,Sw,and_true]at hp;subst hp;have K':=kn.mov z' a2 iL bv bo (by rw[e1];exact bw);have ix:Ix bk (.agg [pv p',y3]) (cx l a.toNat k.toNat t.toNat) (cx ks a.toNat k.toNat t.toNat):=⟨p',y3,L3,rfl,⟨t',p',rfl,rr1,rr2⟩,a8.fr ak,K',by rw[iY,iY];omega,by rw[iY];omega⟩;exact ix.frb a3 (ac.get (F3.get o_h2)) iS EK
def LoP(h:Heap)(b:Nat)(pm:Option Nat)(l:List Int)(ks bs:List Bool):Prop:=∃p vk,Own h b [pv p,vk,pv pm]/\vk.one=true/\Ix h (.agg [pv p,vk]) l ks/\Mk h pm bs/\bs.length=l.length
theorem LoP.lo{h:Heap}{b:Nat}{l:List Int}(a:LoP h b pm l ks bs):Lo h b l ks bs:=by let⟨p,vk,x⟩:=a;exact⟨p,vk,pm,x⟩
theorem Lo.p{h:Heap}{b:Nat}{l:List Int}(a:Lo h b l ks bs):∃pm,LoP h b pm l ks bs:=by let⟨p,vk,pm,x⟩:=a;exact⟨pm,p,vk,x⟩
theorem LoP.fr{h:Heap}{b:Nat}{l:List Int}(a:LoP h b pm l ks bs)(f:Fr [] h h'):LoP h' b pm l ks bs:=by let⟨p,vk,o,v1,ix,mk,e⟩:=a;exact⟨p,vk,f.get o,v1,ix.fr f,mk.fr f,e⟩
abbrev FrQ(b:Nat)(pm:Option Nat)(h h':Heap):Prop:=Fr (b::pm.toList) h h'
theorem frQ{h:Heap}{b:Nat}(f:Fr [] h h'):FrQ b pm h h':=⟨f.next,f.wf,fun _ _ _ o=>f.get o,fun _ _ _ o=>f.pl _ _ iS o,f.lp,f.ro⟩
theorem FrQ.b{h:Heap}{b:Nat}(a:FrQ b pm h h1)(f:Fr [b] h1 h2)(w:WF h):FrQ b pm h h2:=Sj a f w (fun x hx=>.inl hx) (fun x hx=>.inl (by simp at hx;simp[hx]))
theorem FrQ.q{h:Heap}{b q:Nat}(a:FrQ b pm h h1)(f:Fr [q] h1 h2)(w:WF h)(K:pm=some q\/h.next<=q):FrQ b pm h h2:=by refine Sj a f w (fun x Z=>.inl Z) (fun x Z=>?_);simp at Z;subst Z;obtain e|e:=K;left;simp[e];exact .inr e
theorem FrQ.then{h:Heap}{b:Nat}(a:FrQ b pm h h1)(f:Fr [] h1 h2)(w:WF h):FrQ b pm h h2:=Sj a f w (fun x hx=>.inl hx) iS
theorem tM{h:Heap}{b:Nat}{pm:Option Nat}{l m:List Int}{ks bs st:List Bool}{i:Int}{u v:V}(w:WF h)(a:LoP h b pm l ks bs)(am:pp h u m)(as:Bools h v st)(hm:m.length≤1000000)(hst:st.length=m.length)(i0:-9223372036854775808≤i)(i1:i≤9223372036854775807):
 ao go 167 [.ptr b 0,.int .i64 i,u,v] h fun z h'=>z=.int .i64 (bZ l i m)∧FrQ b pm h h'∧∃pm',(pm'=pm∨(pm=none∧∀q,pm'=some q→h.next≤q))∧(if bZ l i m=0 then LoP h' b pm' (l.take i.toNat++m++l.drop i.toNat) (ks.take i.toNat++List.replicate m.length false++ks.drop i.toNat) (bs.take i.toNat++st++bs.drop i.toNat)else LoP h' b pm' l ks bs):=by
 have al:=a;let⟨p,vk,o,v1,ix,mk,e⟩:=a;have hle:((m.length:Nat):Int)=st.length:=oM
 refine ag ?_;simp only[evs,seval,am.len,as.len,eq_true hle,o.ld];refine aa (I1 w ix am hm i0 i1) ?_;rintro _ h1 ⟨F1,c,d,rfl,hc,hd,hx⟩;let⟨h2,e_h2,F_h2,o_h2⟩:=aq F1.wf [.nilp,.nils];simp only[evs,seval,←e_h2];apply ai (c':=[c,d]) F_h2.wf o_h2 rfl (by simp[au,V.cells,hc,hd]) rfl;rintro h3 o3 F3 n3;have F13:Fr [] h1 h3:=F_h2.fresh F3 F1.wf (Nat.le_refl _);have F03:=F1.then F13;by_cases z:bZ l i m=0
 ·have ix':=hx z;obtain⟨p',rfl⟩:=ix'.form;have hi:0≤i∧i≤l.length∧l.length+m.length≤1024:=by
   unfold bZ at z;by_cases c1:0≤i∧i≤l.length
   ·omega
   ·omega
  by_cases c0:(m.length:Int)=0
  ·have hm0:m=[]:=List.length_eq_zero_iff.1 oM;have hs0:st=[]:=List.length_eq_zero_iff.1 oM;subst hm0 hs0;simp only[evs,seval,eq_true z,am.len];refine⟨frQ F03,pm,.inl rfl,?_⟩;simpa using al.fr F03
  ·obtain⟨k,rfl⟩:∃k:Nat,i=k:=⟨i.toNat,oM⟩;simp only[Int.toNat_natCast]at hx ix'⊢;have blt:b<h1.next:=Nat.lt_of_lt_of_le (o.lt w) F1.next;have niv:=ix.noint;have nbv:=ix.nobool
   -- the marks are there
   cases pm
   case' none=>
    have mk:bs=[]:=mk;simp only[evs,seval,eq_true z,am.len,eq_false c0,(F03.get o).ld1,jy];apply aa (IE F13.wf);rintro _ h4 ⟨q,rfl,hq,fl4,F4⟩;simp only[evs,seval];have F04:=F03.then F4;apply stu F4.wf (F04.get o);rintro H oH F5 n5;have FH:FrQ b none h H:=(frQ F04).b F5 w;have hqq:(none:Option Nat)=some q∨h.next≤q:=.inr (Nat.le_trans F03.next hq);have hpq:some q=(none:Option Nat)∨((none:Option Nat)=none∧∀q',some q=some q'→h.next≤q'):=.inr ⟨rfl,fun q' e=>by cases e;exact Nat.le_trans F03.next hq⟩;have flH:Fl H q bs:=Mk.frb (pm:=some q) (show Mk h4 (some q) bs from mk▸fl4) F5 (F04.get o) rfl;have ixH:=(ix'.fr (F13.then F4)).frb F5 (F04.get o) iS (yx (uO niv));have oxH:=F5.own _ _ oO (F4.get o3);have stH:=Bools.frl (as.fr F04) F5 (F04.get o) oH (nobool nbv) rfl;have wfH:=F5.wf;simp only[evs,seval,oH.ld1,am.len]
   case' some q=>
    have flH:Fl h3 q bs:=Fl.fr mk F03;obtain⟨H,eH⟩:∃H,H=h3:=⟨h3,rfl⟩;have oH:Own H b [pv p,vk,.ptr q 0]:=eH▸F03.get o;have FH:FrQ b (some q) h H:=eH▸frQ F03;have hqq:some q=some q∨h.next≤q:=.inl rfl;have hpq:some q=some q∨(some q=none∧∀q',some q=some q'→h.next≤q'):=.inl rfl;have ixH:=eH▸ix'.fr F13;have oxH:=eH▸o3;have stH:=eH▸as.fr F03;have wfH:WF H:=eH▸F13.wf;rw[←eH]at flH;simp only[evs,seval,eq_true z,am.len,eq_false c0,(F03.get o).ld1,aT];rw[←eH]
   all_goals
    have qb:q≠b:=by
     rintro rfl;let⟨ws,oq,ok,_⟩:=flH;have:=congrArg List.length (oq.uniq oH);rw[dL,ok.len]at this;simp at this
    apply aa (IG (a:=k) (n:=m.length) (v:=false) wfH flH oM oM);rintro _ h6 ⟨rfl,fl6,F6⟩;have o6b:=F6.own _ _ oO oH;have ix6:=ixH.frf F6 flH;have qx:q≠h1.next:=by
     rintro rfl;let⟨ws,oq,ok,_⟩:=flH;have:=congrArg List.length (oq.uniq oxH);rw[dL,ok.len]at this;simp at this
    have ox6:=F6.own _ _ oO oxH;have st6:Bools h6 v st:=by
     let⟨ws,oq,ok,_⟩:=flH;let⟨ws',oq',ok',_⟩:=fl6;exact Bools.frb stH F6 oq oq' (by rw[ok'.len,ok.len])
    simp only[evs,seval,ox6.ld];apply ai (c':=[pv p',d,.ptr q 0]) F6.wf o6b rfl (by simp[au,V.cells,hc,hd]) rfl;rintro h7 o7 F7 n7;have fl7:Fl h7 q _:=Mk.frb (pm:=some q) fl6 F7 o6b rfl;have ix7:=ix6.frb F7 o6b iS (yx (uO (pm:=some q) niv));have st7:=Bools.frl st6 F7 o6b o7 (nobool (pm:=some q) nbv) rfl;have F07:=(FH.q F6 w hqq).b F7 w;simp only[evs,seval,st7.len];obtain⟨PP,hPP,hPq,hPw,hP0⟩:∃PP:Heap→Prop,PP h7∧(∀h1 h2,PP h1→Fr [q] h1 h2→PP h2)∧(∀h1,PP h1→WF h1)∧(∀h1,PP h1→FrQ b _ h h1):=⟨_,F07,fun h1 h2 x f=>FrQ.q x f w hqq,fun h1 x=>Fr.wf x,fun h1 x=>x⟩;refine aC (fun n env hh=>∃j:Nat,env.get 71=some (.int .i64 j)∧env.get 70=some (.int .i64 st.length)∧env.get 69=some v∧env.get 0=some (.ptr b 0)∧env.get 1=some (.int .i64 k)∧j≤st.length∧PP hh∧
     Own hh b [pv p',d,.ptr q 0]∧Fl hh q (bs.take k++(st.take j++List.replicate (st.length-j) false)++bs.drop k)∧Ix hh (.agg [pv p',d]) (l.take k++m++l.drop k) (ks.take k++List.replicate m.length false++ks.drop k)∧Bools hh v st∧n=st.length-j) st.length oM ?_ ?_
    ·exact⟨0,iS,iS,iS,iS,iS,oM,hPP,o7,by simpa[hst]using fl7,ix7,st7,rfl⟩
    ·rintro n env hh ⟨j,g71,g70,g69,g0,g1,hj,FF,oo,ff,ii,ss,rfl⟩;by_cases hlt:(j:Int)<st.length
     ·let⟨bb,oo',x,q1,q2,q3⟩:=ss.ix .i64 j oM hlt;simp only[Int.toNat_natCast]at q3;cases x
      ·simp(disch:=omega) only[evs,seval,ah,g71,g70,g69,hlt,q1,q2];rw[C4 q3]at ff;refine rqn ⟨st.length-(j+1),oM,j+1,iS,iX,iX,iX,iX,oM,FF,oo,ff,ii,ss,rfl⟩
       done
      ·simp(disch:=omega) only[evs,seval,ah,g71,g70,g69,g0,g1,hlt,q1,q2,oo.ld1];apply aa (BH (hPw _ FF) ff oM oM);rintro _ h8 ⟨rfl,f8,F8,n8⟩;have lf:(k:Int)+j<((bs.take k++(st.take j++List.replicate (st.length-j) false)++bs.drop k).length:Nat):=by simp;omega
       rw[if_pos ⟨oM,lf⟩,(oM:((k:Int)+j).toNat=k+j),Ir oM _ q3]at f8;simp(disch:=omega) only[evs,seval,ah,g71];have o8:=F8.own _ _ oO oo;have s8:Bools h8 v st:=by
        let⟨ws,oq,ok,_⟩:=ff;let⟨ws',oq',ok',_⟩:=f8;exact Bools.frb ss F8 oq oq' (by rw[ok'.len,ok.len])
       refine rqn ⟨st.length-(j+1),oM,j+1,iS,iX,iX,iX,iX,oM,hPq _ _ FF F8,o8,f8,ii.frf F8 ff,s8,rfl⟩
       done
     ·simp only[evs,seval,g71,g70,hlt];have ej:j=st.length:=oM
      subst ej;simp only[List.take_length,Nat.sub_self,List.replicate_zero,List.append_nil]at ff;refine⟨by first|rw[z]|trivial,hP0 _ FF,some q,(by first|exact hpq|simpa using hpq),?_⟩
      try rw[if_pos z]
      exact⟨p',d,oo,hd,ii,ff,by simp;omega⟩
 ·simp only[evs,seval,eq_false z];exact⟨frQ F03,pm,.inl rfl,al.fr F03⟩
theorem LoP.qb{h:Heap}{b q:Nat}{l:List Int}(a:LoP h b (some q) l ks bs):b≠q:=by let⟨p,vk,o,v1,ix,mk,e⟩:=a;rintro rfl;let⟨ws,oq,ok,_⟩:=(mk:Fl h b bs);have:=congrArg List.length (oq.uniq o);rw[dL,ok.len]at this;simp at this
theorem zW{h:Heap}{b:Nat}{l:List Int}{i size:Int}{kn:Bool}(w:WF h)(a:LoP h b pm l ks bs)(s0:-9223372036854775808<=size)(s1:size<=9223372036854775807)(i0:-9223372036854775808<=i)(i1:i<=9223372036854775807):
 ao go 54 [.ptr b 0,ZZ i,ZZ size,.bool kn] h fun u h'=>u=ZZ (eU l i size)/\(if eU l i size=0 then LoP h' b pm (l.set i.toNat size) (ks.set i.toNat kn) bs else LoP h' b pm l ks bs)/\FrQ b pm h h':=by
 have al:=a;let⟨p,vk,o,v1,ix,mk,e⟩:=a;refine ag ?_;simp only[evs,seval,o.ld];refine aa (IY w ix s0 s1 i0 i1) ?_;rintro _ h1 ⟨F1,c,d,rfl,hc,hd,hx⟩;let⟨h2,e_h2,F_h2,o_h2⟩:=aq F1.wf [.nilp,.nils];simp only[evs,seval,<-e_h2];apply ai (c':=[c,d]) F_h2.wf o_h2 rfl (by simp[au,V.cells,hc,hd]) rfl;rintro h3 o3 F3 n3;have K:Fr [] h1 h3:=F_h2.fresh F3 F1.wf (RW _);have Z:=F1.then K;by_cases z:eU l i size=0;simp only[evs,seval,eq_true z,o3.ld];apply ai (c':=[c,d,pv pm]) K.wf (Z.get o) rfl (by simp[au,V.cells,hc,hd]) rfl;rintro h4 o4 F4 n4;simp only[evs,seval];have ac:=hx z;obtain⟨p',rfl⟩:=ac.form;exact⟨⟨p',d,o4,hd,(ac.fr K).frb F4 (Z.get o) iS (yx (uO ix.noint)),(mk.fr Z).frb F4 (Z.get o) rfl,by simpa using e⟩,(frQ Z).b F4 w⟩;simp only[evs,seval,eq_false z];exact⟨al.fr Z,frQ Z⟩
theorem DL{h:Heap}{b:Nat}{l:List Int}{i:Int}{v:Bool}(w:WF h)(a:LoP h b pm l ks bs)(a0:-9223372036854775808<=i)(a1:i<=9223372036854775807):
 ao go 104 [.ptr b 0,ZZ i,.bool v] h fun u h'=>FrQ b pm h h'/\if 0<=i/\i<l.length then u=ZZ 0/\LoP h' b pm l ks (bs.set i.toNat v)else u=ZZ 4/\LoP h' b pm l ks bs:=by
 have al:=a;have all:=a.lo;let⟨p,vk,o,v1,ix,mk,e⟩:=a;by_cases c:i<0;refine ag ?_;simp only[evs,seval,eq_true c];rw[if_neg oM];exact⟨Sn w,al⟩;refine ag ?_;simp only[evs,seval,eq_false c];refine aa (Cm w all) ?_;rintro _ h2 ⟨rfl,Z⟩;by_cases c2:(l.length:Int)<=i;simp only[evs,seval,eq_true c2];rw[if_neg oM];exact⟨frQ Z,al.fr Z⟩;cases pm with
 |none=>have mk:bs=[]:=mk;subst mk;simp at e;omega
 |some q=>have fl:Fl h q bs:=mk;have qb:=al.qb;simp only[evs,seval,eq_false c2,(Z.get o).ld1,aT];apply aa (BH Z.wf (fl.fr Z) a0 a1);rintro _ h3 ⟨rfl,f3,K,n3⟩;rw[if_pos oM]at f3;simp only[evs,seval];rw[if_pos oM];refine⟨(frQ Z).q K w (.inl rfl),?_,p,vk,K.own _ _ (eV qb) (Z.get o),v1,(ix.fr Z).frf K (fl.fr Z),f3,by simpa using e⟩;first|rfl|(rw[if_pos oM])
theorem Hy{h:Heap}{b:Nat}{l:List Int}{a k:Int}(w:WF h)(x:LoP h b pm l ks bs)(a0:-9223372036854775808<=a)(a1:a<=9223372036854775807)(k0:-9223372036854775808<=k)(k1:k<=9223372036854775807):
 ao go 31 [.ptr b 0,ZZ a,ZZ k] h fun u h'=>FrQ b pm h h'/\u=ZZ (if bN l.length a k then 4 else 0)/\(if bN l.length a k then LoP h' b pm l ks bs else LoP h' b pm (aS l a.toNat k.toNat) (aS ks a.toNat k.toNat) (aS bs a.toNat k.toNat)):=by
 have al:=x;let⟨p,vk,o,v1,ix,mk,e⟩:=x;refine ag ?_;simp only[evs,↓reduceIte,Nat.reduceEqDiff,Nat.reduceAdd,o.ld];refine aa (IZ w ix a0 a1 k0 k1) ?_;rintro _ h1 ⟨F1,c,d,rfl,hc,hd,hx⟩;let⟨h2,e_h2,F_h2,o_h2⟩:=aq F1.wf [.nilp,.nils];simp only[evs,↓reduceIte,<-e_h2];apply ai (c':=[c,d]) F_h2.wf o_h2 rfl (by simp[au,V.cells,hc,hd]) rfl;rintro h3 o3 F3 n3;have K:Fr [] h1 h3:=F_h2.fresh F3 F1.wf (RW _);have Z:=F1.then K;by_cases z:bN l.length a k;simp only[evs,↓reduceIte,Nat.reduceEqDiff,if_pos z,eq_false (oM:¬(4:Int)=0)];exact⟨frQ Z,al.fr Z⟩;let⟨c0,c1,c2⟩:=lM z;by_cases af:k=0;subst af;simp only[evs,↓reduceIte,Nat.reduceEqDiff,if_neg z];refine⟨frQ Z,?_⟩;have:∀{α:Type}(r:List α),aS r a.toNat (0:Int).toNat=r:=fun r=>by simp[aS]
 rw[this,this,this];exact al.fr Z;cases pm with
 |none=>have mk:bs=[]:=mk;subst mk;simp at e;omega
 |some q=>
  have fl:Fl h q bs:=mk;have qb:=al.qb;simp only[evs,↓reduceIte,Nat.reduceEqDiff,if_neg z,eq_false af,o3.ld];apply ai (c':=[c,d,.ptr q 0]) K.wf (Z.get o) rfl (by simp[au,V.cells,hc,hd]) rfl;rintro h4 o4 F4 n4;have ac:=hx z;obtain⟨p',rfl⟩:=ac.form;have ak:=(ac.fr K).frb F4 (Z.get o) iS (yx (uO ix.noint));have ae:Fl h4 q bs:=Mk.frb (pm:=some q) (fl.fr Z) F4 (Z.get o) rfl;simp only[evs,↓reduceIte,Nat.reduceEqDiff,o4.ld1];have ea:(a:Int)=(a.toNat:Nat):=oM;have ek:(k:Int)=(k.toNat:Nat):=oM;have fr:=ID (a:=a.toNat) (n:=k.toNat) F4.wf ae oM;rw[<-ea,<-ek]at fr;apply aa fr;rintro _ h5 ⟨rfl,f5,F5⟩;simp only[evs,↓reduceIte];refine⟨((frQ Z).b F4 w).q F5 w (.inl rfl),?_⟩;try rw[if_neg z]
  exact⟨p',d,F5.own _ _ (eV qb) o4,hd,ak.frf F5 ae,f5,by rw[fU oM,fU c2];omega⟩
theorem Hz{h:Heap}{b:Nat}{l:List Int}{a k t:Int}(w:WF h)(x:LoP h b pm l ks bs)(a0:-9223372036854775808<=a)(a1:a<=9223372036854775807)(k0:-9223372036854775808<=k)(k1:k<=9223372036854775807)
 (t0:-9223372036854775808<=t) (t1:t<=9223372036854775807):
 ao go 100 [.ptr b 0,ZZ a,ZZ k,ZZ t] h fun u h'=>FrQ b pm h h'/\u=ZZ (if c7 l.length a k t then 4 else 0)/\(if c7 l.length a k t then LoP h' b pm l ks bs else LoP h' b pm (cx l a.toNat k.toNat t.toNat) (cx ks a.toNat k.toNat t.toNat) (cx bs a.toNat k.toNat t.toNat)):=by
 have al:=x;let⟨p,vk,o,v1,ix,mk,e⟩:=x;refine ag ?_;simp only[evs,↓reduceIte,Nat.reduceEqDiff,Nat.reduceAdd,o.ld];refine aa (I0 w ix a0 a1 k0 k1 t0 t1) ?_;rintro _ h1 ⟨F1,c,d,rfl,hc,hd,hx⟩;let⟨h2,e_h2,F_h2,o_h2⟩:=aq F1.wf [.nilp,.nils];simp only[evs,↓reduceIte,<-e_h2];apply ai (c':=[c,d]) F_h2.wf o_h2 rfl (by simp[au,V.cells,hc,hd]) rfl;rintro h3 o3 F3 n3;have K:Fr [] h1 h3:=F_h2.fresh F3 F1.wf (RW _);have Z:=F1.then K;by_cases z:c7 l.length a k t;simp only[evs,↓reduceIte,Nat.reduceEqDiff,if_pos z,eq_false (oM:¬(4:Int)=0)];exact⟨frQ Z,al.fr Z⟩;have zc:¬bN l.length a k:=fun q=>z (.inl q);let⟨c0,c1,c2⟩:=lM zc;have ht:0<=t/\t<=(l.length:Int)-k:=by unfold c7 at z;omega
 by_cases af:k=0;subst af;simp only[evs,↓reduceIte,Nat.reduceEqDiff,if_neg z];refine⟨frQ Z,?_⟩;have:∀{α:Type}(r:List α),cx r a.toNat (0:Int).toNat t.toNat=r:=fun r=>by simp[cx,aS]
 rw[this,this,this];exact al.fr Z;cases pm with
 |none=>have mk:bs=[]:=mk;subst mk;simp at e;omega
 |some q=>
  have fl:Fl h q bs:=mk;have qb:=al.qb;simp only[evs,↓reduceIte,Nat.reduceEqDiff,if_neg z,eq_false af,o3.ld];apply ai (c':=[c,d,.ptr q 0]) K.wf (Z.get o) rfl (by simp[au,V.cells,hc,hd]) rfl;rintro h4 o4 F4 n4;have ac:=hx z;obtain⟨p',rfl⟩:=ac.form;have ak:=(ac.fr K).frb F4 (Z.get o) iS (yx (uO ix.noint));have ae:Fl h4 q bs:=Mk.frb (pm:=some q) (fl.fr Z) F4 (Z.get o) rfl;simp only[evs,↓reduceIte,Nat.reduceEqDiff,o4.ld1];have ea:(a:Int)=(a.toNat:Nat):=oM;have ek:(k:Int)=(k.toNat:Nat):=oM;have et:(t:Int)=(t.toNat:Nat):=oM;have fr:=IF (a:=a.toNat) (n:=k.toNat) (t:=t.toNat) F4.wf ae oM oM oM;rw[<-ea,<-ek,<-et]at fr;apply aa fr;rintro _ h5 ⟨rfl,f5,F5⟩;simp only[evs,↓reduceIte];refine⟨((frQ Z).b F4 w).q F5 w (.inl rfl),?_⟩;try rw[if_neg z]
  exact⟨p',d,F5.own _ _ (eV qb) o4,hd,ak.frf F5 ae,f5,by rw[iY,iY];omega⟩
theorem lT{h:Heap}{b:Nat}{l:List Int}(w:WF h)(a:LoP h b pm l ks bs):ao go 53 [.ptr b 0] h fun u h'=>∃c pm',u=.ptr c 0/\h.next<=c/\(∀q,pm'=some q->h.next<=q)/\LoP h' c pm' l ks bs/\Fr [] h h':=by
 let⟨p,vk,o,v1,ix,mk,e⟩:=a;let⟨h1,e_h1,Z,K⟩:=aq w [pv p,vk,.nilp];cases pm with
 |none=>have mk:bs=[]:=mk;refine ag ?_;simp only[evs,seval,o.ld,(Z.get o).ld1,jy,<-e_h1];exact⟨h.next,none,rfl,RW _,iS,⟨p,vk,K,v1,ix.fr Z,mk,e⟩,Z⟩
 |some q=>have fl:Fl h q bs:=mk;refine ag ?_;simp only[evs,seval,o.ld,(Z.get o).ld1,aT,<-e_h1];refine aa (FB Z.wf (fl.fr Z)) ?_;rintro _ h2 ⟨c,rfl,hc,f2,F2⟩;simp only[evs,seval];apply stu F2.wf (F2.get K);rintro h3 o3 F3 n3;simp only[evs,seval];have ac:=Z.then F2;exact⟨h.next,some c,rfl,RW _,fun q e=>by cases e;exact SD Z.next hc,⟨p,vk,o3,v1,(ix.fr ac).frb F3 (F2.get K) iS (yx (uO (pm:=none) ix.noint)),Mk.frb (pm:=some c) f2 F3 (F2.get K) rfl,e⟩,ac.fresh F3 w (RW _)⟩
def Knd.same(q p:Knd):Prop:=q.k=p.k/\q.tg=p.tg/\q.ky=p.ky/\q.sl=p.sl/\q.tx=p.tx/\q.base=p.base/\q.sticky=p.sticky/\q.pool=p.pool/\PT.same q.sub p.sub
theorem Knd.same_okK{q p:Knd}(h:q.same p):okK q=okK p:=by let⟨h1,h2,h3,h4,h5,h6,_,_,h9⟩:=h;unfold okK;rw[h1,h2,h3,h4,h5,h6,PT.same_count _ _ _ _ _ h9]
def bU:List Knd->List Knd->Prop
 |[],[]=>True
 |q::l,p::m=>q.same p/\bU l m
 |_,_=>False
theorem dS:∀{a b:List Knd},bU a b->a.length=b.length
 |[],[],_=>rfl
 |_::_,_::_,h=>by simp[dS h.2]
 |[],_::_,h=>h.elim
 |_::_,[],h=>h.elim
theorem rJ:∀{a b:List Knd},bU a b->a.all okK=b.all okK
 |[],[],_=>rfl
 |_::_,_::_,h=>by rw[Uj,Uj,Knd.same_okK h.1,rJ h.2]
 |[],_::_,h=>h.elim
 |_::_,[],h=>h.elim
theorem jw{a b:List Knd}(h:bU a b)(cap:Int):okR a cap=okR b cap:=by unfold okR;rw[dS h,rJ h]
theorem rI:∀{a b c d:List Knd},bU a b->bU c d->bU (a++c) (b++d)
 |[],[],_,_,_,g=>g
 |_::_,_::_,_,_,h,g=>⟨h.1,rI h.2 g⟩
 |[],_::_,_,_,h,_=>h.elim
 |_::_,[],_,_,h,_=>h.elim
theorem mI:∀{a b:List Knd}{i:Nat}{q:Knd},bU a b->a[i]? =some q->∃p,b[i]? =some p/\q.same p
 |_::_,p::_,0,_,h,e=>by simp at e;subst e;exact⟨p,rfl,h.1⟩
 |_::_,_::_,i+1,_,h,e=>by simpa using mI h.2 (eV e)
 |[],[],_,_,_,e=>by simp at e
 |[],_::_,_,_,h,_=>h.elim
 |_::_,[],_,_,h,_=>h.elim
theorem _root_.Go.Ev.Fr.old{S:List Nat}{h:Heap}(w:WF h)(f:Fr S h h'):Fr (S.filter fun x=>decide (x<h.next)) h h':=
 ⟨f.next,f.wf,fun b c hb o=>f.own b c (fun m=>hb (by have:=o.lt w;simp[m,this])) o,fun b c hb o=>f.pl b c (fun m=>hb (by have:=o.own.lt w;simp[m,this])) o,f.lp,f.ro⟩
theorem Fq{h:Heap}{b:Nat}(o:Own h b [.nils,ZZ 0,ZZ 0]):ao go 91 [.ptr b 0,ZZ 0,.nils] h fun u h'=>u=ZZ 0/\h=h':=by have k:GpT h b (b+1) .nils [] [] [] 0 0 0:=⟨o,⟨rfl,.inl ⟨rfl,rfl⟩⟩,rfl,rfl,rfl,rfl,rfl,oM,oM,oM,fun x m=>by simp at m⟩;have e:wX (0+0) 0 0=0:=rfl;refine ag ?_;simp only[evs,seval];refine aa (d9 k 0 0) ?_;rintro _ _ ⟨rfl,rfl⟩;rw[e];simp only[evs,seval];apply aa (dk k);rintro _ _ ⟨rfl,rfl⟩;simp(disch:=omega) only[evs,seval,ah,(oM:¬((4096:Int)-((0+0:Nat):Int)<0))]
theorem Fo{h:Heap}(w:WF h):ao go 39 [.nils] h fun z h'=>∃b,z=.tup [.ptr b 0,ZZ 0]/\h.next<=b/\Own h' b [.nils,ZZ 0,ZZ 0]/\Fr [] h h':=by let⟨h1,e_h1,K,Z⟩:=aq w [.nils,ZZ 0,ZZ 0];refine ag ?_;simp only[evs,seval,<-e_h1];refine aa (Fq Z) ?_;rintro _ _ ⟨rfl,rfl⟩;simp only[evs,seval];exact⟨h.next,rfl,RW _,Z,K⟩
theorem KW{h:Heap}{v:V}{L:List Knd}{cap:Int}(w:WF h)(a:Recs Knd.cells 9 h v L)(hL:∀q∈L,KndH h q)(hn:L.length<=4096)(ok:okR L cap=true):
 ao go 8 [.agg [v,ZZ cap]] h fun u h'=>∃b bg bm bl vK K,u=.tup [.ptr b 0,ZZ 0]/\Fr [] h h'/\bU L K/\Own h' b [vK,ZZ cap,.ptr bg 0,.ptr bm 0,.ptr bl 0]/\
  Own h' bg [.nils,ZZ 0,ZZ 0]/\Km h' bm bm (fun _=>none) 0/\LoP h' bl none [] [] []/\h.next<bg/\bg<bm/\bm<bl/\bl<b/\h.next<h'.next/\Own h' h.next [v,ZZ cap]/\
  (∀(X:List Nat)(h2:Heap),(∀y∈X,y<=h.next\/y=b\/y=bg\/y=bm\/y=bl\/h'.next<=y)->Fr X h' h2->Recs Knd.cells 9 h2 vK K/\∀q∈K,KndH h2 q):=by
 have zv:nZ v=true:=by cases v<;>first|rfl|exact a.2.elim
 let⟨h1,e_h1,F_h1,Z⟩:=aq w [v,ZZ cap];have l0:ab h1 h.next 0=some v:=Z.ld1 0;have l2:aj h1 h.next 0 2=some [v,ZZ cap]:=by rw[Z.ld];rfl
 refine ag ?_;simp only[evs,seval,<-e_h1,l2];refine aa (xR F_h1.wf (TK a F_h1) (fun q m=>(hL q m).fr F_h1) hn) ?_;rintro _ h2 ⟨rfl,F2⟩;rw[ok,if_pos rfl];simp only[evs,seval];apply aa (Fo F2.wf);rintro _ h3 ⟨bg,rfl,bA,g3,F3⟩;have aH:=(F_h1.then F2).then F3;have o3:=F3.get (F2.get Z);have l3:ab h3 h.next 0=some v:=o3.ld1 0;simp only[evs,seval,l3];apply aa (xu F3.wf (Sl.a (TK a aH)) zv oM);rintro vK h4 ⟨gk,F4⟩;simp only[evs,seval,gk.sl.len];have bc:=aH.then F4;have a8:∀y∈vb vK,h3.next<=y/\y<h4.next:=by obtain⟨_,⟨_,rfl|⟨b,_,rfl,_⟩⟩|⟨b,hb,rfl,o⟩⟩:=gk;simp[vb];simp[vb];have:=o.lt F4.wf;simp only[vb,Su];rintro y rfl;exact⟨hb,this⟩
 refine aC (fun n env hh=>Fr [] h hh/\Fr [] h1 hh/\Fr [] h3 hh/\h4.next<=hh.next/\
  ∃(i:Nat)(D:List Knd),env.get 26=some (ZZ i)/\env.get 25=some (ZZ L.length)/\env.get 1=some (.ptr h.next 0)/\env.get 5=some (.ptr bg 0)/\env.get 7=some vK/\i<=L.length/\D.length=i/\bU (L.take i) D/\
  Gn 9 hh h3.next vK L.length ((D++L.drop i).flatMap Knd.cells)/\(∀(X:List Nat)(h2:Heap),(∀y∈X,y<h3.next\/y∈vb vK)->Fr X hh h2->∀q∈D,KndH h2 q)/\n=L.length-i) L.length oM ?_ ?_
 exact⟨bc,(F2.then F3).then F4,F4,RW _,0,[],iS,iS,iS,iS,iS,oM,rfl,trivial,by simpa using gk,iS,rfl⟩;rintro n env hh ⟨F,ax,a2,bo,i,D,a1,a5,g1,g5,g7,hi,dl,ds,ae,dst,rfl⟩;by_cases bj:i<L.length;have ak:(i:Int)<L.length:=oM;obtain⟨q,hq⟩:∃q,L[i]? =some q:=⟨_,Sm bj⟩;have bf:=hL q (RZ hq);obtain⟨_,⟨z,_⟩|⟨bp,ba,rfl,an⟩⟩:=ae;omega;have fl:∀M:List Knd,(M.flatMap Knd.cells).length=M.length*9:=aJ eM;have dc:(D.flatMap Knd.cells).length=i*9:=by rw[fl,dl]
 have eL:(D++L.drop i).flatMap Knd.cells=D.flatMap Knd.cells++(q.cells++(L.drop (i+1)).flatMap Knd.cells):=by rw[aK hq];simp
 rw[eL]at an;have ix:=nr 9 bp 0 L.length 9 .i64 (i:Int) oM ak;simp only[RX,Tj]at ix;have lc:aj hh bp (i*9) 6=some q.part:=by rw[an.ld,bM,<-dc,Un];rfl
 have hb:=a8 bp (by simp[vb]);simp only[evs,seval,a1,a5,g7,ak,ix,lc];apply aa (xV (pcs q.sub) hh F.wf (bf.fr F));rintro _ h7 ⟨ay,ar,bk,rfl,sm,F7,a6⟩;have on:au [ZY (q.k:Int),.str q.tg,.str q.ky,ay,.str q.tx,ar]=true:=PH.ones (a6 [] h7 iS (Sn F7.wf));simp only[evs,seval,g7,ix];have eC:bu (D.flatMap Knd.cells++(q.cells++(L.drop (i+1)).flatMap Knd.cells)) (i*9) [ZY (q.k:Int),.str q.tg,.str q.ky,ay,.str q.tx,ar]=some ((D++[(⟨q.k,q.tg,q.ky,q.sl,q.tx,ay,ar,bk,q.base,q.sticky,q.pool⟩:Knd)]++L.drop (i+1)).flatMap Knd.cells):=by
  rw[bQ _ _ _ (by rw[Sv,dc,Sv,eM];simp only[SG,Vo];omega)];congr 1;have q1:(D.flatMap Knd.cells++(q.cells++(L.drop (i+1)).flatMap Knd.cells)).take (i*9)=D.flatMap Knd.cells:=by grind
  have q2:(D.flatMap Knd.cells++(q.cells++(L.drop (i+1)).flatMap Knd.cells)).drop (i*9+6)=[ZZ q.base,.bool q.sticky,ZZ q.pool]++(L.drop (i+1)).flatMap Knd.cells:=by rw[<-dc,Tg];rfl
  show _++_++(D.flatMap Knd.cells++(q.cells++(L.drop (i+1)).flatMap Knd.cells)).drop (i*9+6)=_;rw[q1,q2];simp[Knd.cells,Knd.part]
 refine ai F7.wf (F7.get an) rfl on eC ?_;rintro h8 o8 F8 n8;have bT:=F7.next;have bz:=F4.next;simp(disch:=omega) only[evs,seval,ah,a1];refine rqn ⟨L.length-(i+1),oM,(F.then F7).fresh F8 w ?_,(ax.then F7).fresh F8 F_h1.wf ?_,(a2.then F7).fresh F8 F3.wf oM,oM,i+1,_,iS,iX,iX,iX,iX,oM,?_,?_,⟨?_,.inr ⟨bp,ba,rfl,o8⟩⟩,?_,rfl⟩;have:=aH.next;omega;have:=F2.next;have:=F3.next;omega;simp[dl];rw[Sr,hq];exact rI ds ⟨⟨rfl,rfl,rfl,rfl,rfl,rfl,rfl,rfl,sm⟩,trivial⟩;grind;intro X h9 hX f9 p hp;have a4:Fr ([bp]++X) h7 h9:=Sj F8 f9 F7.wf (fun y hy=>.inl (by simp at hy;simp[hy])) (fun y hy=>.inl iX);have bW:Fr ([bp]++X) hh h9:=Sj F7 a4 F.wf iS (fun y hy=>.inl hy);have a0:∀y∈[bp]++X,y<h3.next\/y∈vb (.sliceU bp 0 L.length 9):=by intro y hy;simp at hy;obtain rfl|hy:=hy;exact .inr (by simp[vb]);exact hX y hy
 obtain hp|hp:=pi.1 hp;grind;simp at hp;subst hp;refine a6 _ h9 (fun y hy=>?_) a4;obtain q|q:=a0 y hy;omega;grind;have a9:i=L.length:=oM;subst a9;rw[Sf (RW _)]at ds;rw[So (RW _),Tq]at ae;have ob:=ax.get Z;have l1:ab hh h.next 1=some (ZZ cap):=ob.ld1 1;simp only[evs,seval,eff,a1,a5,g1,g5,g7,(oM:¬((L.length:Nat):Int)<(L.length:Nat)),l1,aw ae.one];apply aa (In F.wf);rintro _ h5 ⟨bm,rfl,bw,km,F5⟩;have bh:ab h5 h.next 1=some (ZZ cap):=(F5.get ob).ld1 1;simp only[evs,eff];apply aa (Jf F5.wf);rintro _ h6 ⟨bl,rfl,bt,lo,ol,F6⟩;have a3:ab h6 h.next 1=some (ZZ cap):=(F6.get (F5.get ob)).ld1 1;let⟨h9,e_h9,ac,a7⟩:=aq F6.wf [vK,ZZ cap,.ptr bg 0,.ptr bm 0,.ptr bl 0];have n9:=hnx e_h9;simp only[evs,seval,DF,eff,l1,bh,a3,<-e_h9];have n1:=hnx e_h1;have bC:=F2.next;have bD:=F3.next;have br:=F4.next;have bB:=F5.next;have bn:=F6.next;have bV:=g3.lt F3.wf;have bE:bm<h5.next:=by obtain⟨o,_⟩|⟨v,sl,t,k,_⟩:=km;exact o.lt F5.wf;exact k.ob.lt F5.wf
 have bv:=ol.lt F6.wf;have af:=(F5.then F6).then ac;refine⟨h6.next,bg,bm,bl,vK,D,rfl,F.then af,ds,a7,?_,(km.fr F6).fr ac,?_,oM,oM,oM,oM,oM,(ax.then af).get Z,fun X az hX bi=>?_⟩;exact(a2.then af).get g3;let⟨p,vk,pm,o,x⟩:=lo;have e:=o.uniq ol;cases pm with
 |none=>exact LoP.fr ⟨p,vk,o,x⟩ ac
 |some q=>simp[pv]at e
 have f:Fr X hh az:=Sj af bi F.wf iS (fun y hy=>.inl hy);have a0:∀y∈X,y<h3.next\/hh.next<=y:=fun y hy=>by grind
 refine⟨?_,dst _ az (fun y hy=>?_) (f.old F.wf)⟩;have:=(ae.frH F.wf f a0).sl;show Sl az 9 vK D.length _;rw[dl];exact this;grind
def Seen(h:Heap)(b:Nat)(ks:List Nat):Prop:=∃es c,h.bl.get b=some (.mp es c)∧es.map (·.1)=ks.map (fun k:Nat=>V.int .u64 (k:Int))∧∀e∈es,e.2.1=.bool true
theorem mR(k:Nat):∀(es:List (V×V×Nat))(ks:List Nat)(i:Nat),es.map (·.1)=ks.map (fun k:Nat=>V.int .u64 (k:Int))→(∀e∈es,e.2.1=.bool true)→
 (k∈ks→∃j,fW none (.int .u64 (k:Int)) es i=some (some (j,.bool true)))∧(k∉ks→fW none (.int .u64 (k:Int)) es i=some none)
 |[],[],_,_,_=>⟨by simp,fun _=>rfl⟩
 |[],_::_,_,e,_=>by simp at e
 |_::_,[],_,e,_=>by simp at e
 |(k',v,n)::es,q::ks,i,e,t=>by
  simp only[List.map_cons,List.cons.injEq]at e;let⟨e1,e2⟩:=e;have tv:v=.bool true:=t (k',v,n) (by simp);subst e1 tv;have ih:=mR k es ks (i+1) e2 (fun x hx=>t x (by simp[hx]));have ek:r9 none (.int .u64 (k:Int)) (.int .u64 (q:Int))=some (decide (k=q)):=by simp only[r9,ce,cond_true,fy];congr 1;by_cases c:k=q;simp[c];simp[c];omega
  by_cases c:k=q;refine⟨fun _=>⟨i,?_⟩,fun m=>absurd (by simp[c]) m⟩;simp only[fW];rw[ek,decide_eq_true c];refine⟨fun m=>?_,fun m=>?_⟩;let⟨j,hj⟩:=ih.1 (by simpa[c]using m);exact⟨j,by simp only[fW];rw[ek,decide_eq_false c];exact hj⟩;simp only[fW];rw[ek,decide_eq_false c];exact ih.2 (fun m'=>m (by simp[m']))
theorem Seen.lt{h:Heap}{b:Nat}{ks:List Nat}(s:Seen h b ks)(w:WF h):b<h.next:=by let⟨es,c,e,_⟩:=s;obtain q|q:=TB b h.next;exact q;rw[(w b q).1]at e;cases e
theorem EB{call:aI}{h:Heap}(K:V->Heap->Prop):OQ (aO call loc env h (.mm [])) K↔K (.map h.next) (kw h):=by show OQ (some (V.map h.next,kw h)) K↔_;exact cL _ _ _
def LkQ(h:Heap)(ks:Option (List Nat))(zero:V)(ok:Bool)(o:Option (List V))(K:V->Heap->Prop):Prop:=∃x k,o=some [x,k]/\VQ (alk h ks zero ok x k) K h
theorem kQ{h:Heap}(ks:Option (List Nat))(zero:V)(ok:Bool)(x k:V)(K:V->Heap->Prop):LkQ h ks zero ok (some [x,k]) K↔VQ (alk h ks zero ok x k) K h:=
 ⟨fun⟨_,_,e,q⟩=>by cases e;exact q,fun q=>⟨x,k,rfl,q⟩⟩
theorem yu{call:aI}{h:Heap}(ks:Option (List Nat))(zero:V)(ok:Bool)(x y:Opd)(K:V->Heap->Prop):OQ (aO call loc env h (.lk ks zero ok [x,y])) K↔LkQ h ks zero ok (ef loc env [x,y]) K:=by
 simp only[aO,OQ,LkQ,VQ,gu,dE];cases evO loc env x with
 |none=>simp[kJ]
 |some a=>
  cases evO loc env y with
  |none=>simp[kJ]
  |some b=>
   simp only[kJ];cases e:alk h ks zero ok a b with
   |none=>simp[e]
   |some v=>refine⟨fun⟨_,_,q,k⟩=>?_,fun⟨_,_,q,u,q2,k⟩=>?_⟩;grind;grind
def MuQ(h:Heap)(ks:Option (List Nat))(o:Option (List V))(K:V->Heap->Prop):Prop:=∃x k v,o=some [x,k,v]/\OQ (amu h ks x k v) K
theorem pj{h:Heap}(ks:Option (List Nat))(x k v:V)(K:V->Heap->Prop):MuQ h ks (some [x,k,v]) K↔OQ (amu h ks x k v) K:=
 ⟨fun⟨_,_,_,e,q⟩=>by cases e;exact q,fun q=>⟨x,k,v,rfl,q⟩⟩
theorem Bj{call:aI}{h:Heap}(ks:Option (List Nat))(x y z:Opd)(K:V->Heap->Prop):OQ (aO call loc env h (.mu ks [x,y,z])) K↔MuQ h ks (ef loc env [x,y,z]) K:=by
 simp only[aO,OQ,MuQ,gu,dE];cases evO loc env x with
 |none=>simp[kJ]
 |some a=>
  cases evO loc env y with
  |none=>simp[kJ]
  |some b=>
   cases evO loc env z with
   |none=>simp[kJ]
   |some c=>simp only[kJ];exact⟨fun q=>⟨a,b,c,rfl,q⟩,fun⟨_,_,_,e,q⟩=>by cases e;exact q⟩
theorem nM{h:Heap}{b k:Nat}{ks:List Nat}(s:Seen h b ks):alk h none (.bool false) false (.map b) (ZX (k:Int))=some (.bool (decide (k∈ks))):=by let⟨es,c,e,e1,e2⟩:=s;have m:=mR k es ks 0 e1 e2;simp only[alk,Az,e,show mj none (ZX (k:Int))=true from rfl,cond_true];by_cases q:k∈ks;grind;rw[m.2 q];simp[q]
theorem Seen.fr{h:Heap}{b:Nat}{ks:List Nat}(s:Seen h b ks)(f:Fr [] h h'):Seen h' b ks:=by let⟨es,c,e,x⟩:=s;exact⟨es,c,f.lp _ _ rfl e,x⟩
theorem qG{h:Heap}{b k:Nat}{ks:List Nat}(w:WF h)(s:Seen h b ks)(Z:k∉ks){K:V->Heap->Prop}(q:∀h',Seen h' b (ks++[k])->FrB [] b h h'->h'.next=h.next->K (.tup []) h'):OQ (amu h none (.map b) (ZX (k:Int)) (.bool true)) K:=by let⟨es,c,e,e1,e2⟩:=s;have m:=mR k es ks 0 e1 e2;refine⟨.tup [],jN h b (es++[(ZX (k:Int),.bool true,c)]) (c+1),?_,q _ ⟨_,_,SU _ _ _,by simp[e1],fun x hx=>?_⟩ (VU w e rfl _) rfl⟩;simp only[amu,e,show mj none (ZX (k:Int))=true from rfl,cond_true,m.2 Z];grind
end Go.Ev.Lay
