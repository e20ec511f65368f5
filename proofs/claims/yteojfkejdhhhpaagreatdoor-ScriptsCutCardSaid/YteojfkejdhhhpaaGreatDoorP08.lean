/- An evaluator of the program, and contracts over it: StbG to StcD. -/
import Derived.Test.YteojfkejdhhhpaaGreatDoorP07
set_option linter.unusedSimpArgs false
set_option linter.unusedVariables false
set_option linter.constructorNameAsVariable false
set_option linter.unnecessarySimpa false
set_option maxRecDepth 4000
noncomputable section
namespace Go.Ev.Lay
variable{h h' h1:Heap}{k B e b bg bm S bl i ib n N:Nat}{tg tx:Str}{sl:List Slo}{va vc v vK vE:V}{cs:List V}{l:List Int}{n0:NL}{Ks:List Knd}{cap:Int}{pm:Option Nat}{env:T V}{R:V->Heap->Prop}{Q:Ex->T V->Heap->Prop}{Z:List Nat}{L:List Str}
open Go.Ev.St
def PT.rC(k:Nat)(tg ky:Str)(sl:List Slo)(tx:Str)(sub:PT):Nat:=if k≠1\/64<PT.rn k tg ky sl tx sub 6 then 0 else PT.rn k tg ky sl tx sub 6
theorem Gg{ky:Str}{sub:PT}(w:WF h)(n:PH h (.cons k tg ky sl tx va vc sub .nil)):
 ay go 319 [.agg [ZY (k:Int),.str tg,.str ky,va,.str tx,vc]] h fun u h'=>u=ZZ (PT.rC k tg ky sl tx sub:Nat)/\Fr [] h h':=by
 obtain⟨D,R,Z,U⟩:=av w [ZY (k:Int),.str tg,.str ky,va,.str tx,vc];have l6:=U.la 6
 refine aa ?_;simp[evs,<-R,l6];refine aN ((crs (.cons k tg ky sl tx va vc sub .nil)).1 6 D oM Z.wf (n.fr Z)) fun h2 J=>?_;have I:=(J.get U).l1 0;unfold PT.rC;by_cases c1:(k:Int)=1
 ·by_cases c2:(64:Int)<(PT.rn k tg ky sl tx sub 6:Nat)
  ·simp[evs,I,eq_true c1,eq_true c2];exact⟨by rw[if_pos (.inr oM)];rfl,Z.then J⟩
  ·simp[evs,I,eq_true c1,eq_false c2];exact⟨by rw[if_neg oM],Z.then J⟩
 ·simp[evs,I,eq_false c1];exact⟨by rw[if_pos (.inl oM)];rfl,Z.then J⟩
theorem pS{ky:Str}{sub:PT}(w:WF h)(n:PH h (.cons k tg ky sl tx va vc sub .nil)):
 ay go 287 [.agg [ZY (k:Int),.str tg,.str ky,va,.str tx,vc]] h fun u h'=>u=ZZ (if PT.rC k tg ky sl tx sub=0 then 14 else 0)/\Fr [] h h':=by
 obtain⟨h1,U,Z,R⟩:=av w [ZY (k:Int),.str tg,.str ky,va,.str tx,vc];have I:=R.la 6
 refine aa ?_;simp only[evs,seval,<-U,I];refine aN (Gg Z.wf (n.fr Z)) fun D J=>?_;by_cases c:(PT.rC k tg ky sl tx sub:Int)=0
 ·simp only[evs,seval,eq_true c];exact⟨by rw[if_pos oM],Z.then J⟩
 ·simp only[evs,seval,eq_false c];exact⟨by rw[if_neg oM],Z.then J⟩
theorem P7{Z:Nat}(g:Gs h B e v cs)(U:Z<=B):Gs h Z e v cs:=by
 exact yN
theorem wM{h:Heap}{x:Itm}{v:V}{l:List Slo}(w:WF h)(a:ItmH h x)(r:Recs fE 3 h v l)(nl:l.length≤4096)(h3:∀s∈l,s.2.1≤3):
 ay go 323 [v,.agg x.cells] h fun u h'=>Gs h' h.next 2 u ((l.map (att x)).flatMap lh)∧Fr [] h h':=by
 have kx:=a.k;have nx:=a.n;obtain⟨h1,e_h1,F_h1,o_h1⟩:=av w x.cells;have x0{h'}(f:Fr [] h1 h'):=(f.get o_h1).l1 0;have x2{h'}(f:Fr [] h1 h'):=(f.get o_h1).l1 2;have x3{h'}(f:Fr [] h1 h'):=(f.get o_h1).l1 3;refine aa ?_;simp only[evs,seval,←e_h1];refine aw (fun n env hh=>Fr [] h1 hh∧∃(i:Nat)(vo:V),env.get 6=some (.int .i64 (i:Int))∧env.get 5=some vo∧env.get 3=some (.ptr h.next 0)∧env.get 0=some v∧i≤l.length∧Gs hh h1.next 2 vo (((l.take i).map (att x)).flatMap lh)∧n=l.length-i) l.length oM ?_ ?_
 ·exact⟨Fr.refl F_h1.wf,0,.nils,iS,iS,iS,iS,oM,.inl ⟨rfl,iS⟩,rfl⟩
 ·rintro n env hh ⟨F,i,vo,g6,g5,g3,g0,hi,G,rfl⟩;have F0:=F_h1.then F;have rh:=r.fr F0;by_cases hlt:i<l.length
  ·have hlt':(i:Int)<l.length:=oM
   obtain⟨b',o',s,p1,p2,p3,p4⟩:=rh.ix bV .i64 (i:Int) oM hlt';rw[Int.toNat_natCast]at p4;have s3:=h3 s (List.mem_of_getElem? p4);have u0:ai hh b' o'=some (.str s.1):=p2 0 oM;have u1:ai hh b' (o'+1)=some (.int .u8 (s.2.1:Int)):=p2 1 oM;have u2:ai hh b' (o'+2)=some (.str s.2.2):=p2 2 oM;have cv:aB .u64 (x.marks.length:Int)=(x.marks.length:Int):=fwrap_u64 _ oM oM;have fin:∀vo' h9,Gs h9 h1.next 2 vo' (((l.take i).map (att x)).flatMap lh++lh (att x s))→Gs h9 h1.next 2 vo' (((l.take (i+1)).map (att x)).flatMap lh):=by
    intro vo' h9 g;rw[List.take_add_one,p4];simpa using g
   have glen:(((l.take i).map (att x)).flatMap lh).length=i*2:=by rw[au fD];simp;omega
   have lit:∀z,Own (halloc hh [.str s.1,.str z]) hh.next [.str s.1,.str z]:=fun z=>Own.new F.wf _;have h1n:=F.next;have am:=a.m.fr F0;have ev:s.2.1=0∨s.2.1=1∨s.2.1=2∨s.2.1=3:=oM
   have rest:∀(z:Str)(hh':Heap){K:V→Heap→Prop},Fr [] hh hh'→FT x s=z→(∀v' h',Gs h' h1.next 2 v' (((l.take (i+1)).map (att x)).flatMap lh)→Fr [] h1 h'→K v' h')→OQ (dK (halloc hh' [.str s.1,.str z]) 2 32 vo (.slice hh'.next 0 1 1)) K:=by
    intro z hh' K f e k;have nn:=f.next;have F1:=Fr.halloc f.wf [.str s.1,.str z];have G':=Gs.fr (Gs.fr G f) F1;refine Gs.append1 F1.wf G' (Sl.lit (Own.new f.wf _) rfl) oM oM rfl (by have:=F1.next;omega) (by rw[glen];omega) ?_;intro v' h' g _ f';refine k v' h' (fin v' h' (by unfold lh att;rw[e];exact g)) (Fr.new F_h1.wf ((F.then f).then F1) f' (fun y hy=>?_));rcases G with⟨rfl,_⟩|⟨b,n,rfl,_,_,hb,o⟩
    ·simp[vb]at hy
    ·simp[vb]at hy;omega
   rcases ev with e|e|e|e
   ·have e':(s.2.1:Int)=0:=oM
    simp only[evs,seval,g6,g5,g0,rh.len,hlt',p1,u0,u1,u2,(oM:¬(s.2.1:Int)=1),(oM:¬(s.2.1:Int)=2),(oM:¬(s.2.1:Int)=3)];refine rest _ _ (Fr.refl F.wf) (by simp[FT,e]) fun v' h' g f=>?_;simp(disch:=omega) only[evs,seval,fwrap_i64,g6];refine rqn ⟨l.length-(i+1),oM,f,i+1,v',iS,iS,iX,iX,oM,g,rfl⟩
   ·simp only[evs,seval,g6,g5,g3,g0,rh.len,hlt',p1,u0,u1,u2,(oM:(s.2.1:Int)=1),x2 F];refine rest _ _ (Fr.refl F.wf) (by simp[FT,e]) fun v' h' g f=>?_;simp(disch:=omega) only[evs,seval,fwrap_i64,g6];refine rqn ⟨l.length-(i+1),oM,f,i+1,v',iS,iS,iX,iX,oM,g,rfl⟩
   ·have q1:¬(s.2.1:Int)=1:=oM
    have q2:(s.2.1:Int)=2:=oM
    simp only[evs,seval,g6,g3,g0,rh.len,hlt',p1,u1,u2,eq_false q1,eq_true q2,x0 F];refine dm (mZ (x.key+1) x.key oM kx) ?_;simp only[evs,seval,g6,g5,g0,p1,u0];refine rest _ _ (Fr.refl F.wf) (by simp[FT,e]) fun v' h' g f=>?_;simp(disch:=omega) only[evs,seval,fwrap_i64,g6];refine rqn ⟨l.length-(i+1),oM,f,i+1,v',iS,iS,iX,iX,oM,g,rfl⟩
   ·have q1:¬(s.2.1:Int)=1:=oM
    have q2:¬(s.2.1:Int)=2:=oM
    have q3:(s.2.1:Int)=3:=oM
    simp only[evs,seval,g6,g3,g0,rh.len,hlt',p1,u1,u2,eq_false q1,eq_false q2,eq_true q3,x3 F,am.len,cv];refine dm (mZ (x.marks.length+1) x.marks.length oM oM) ?_;simp only[evs,seval,g6,g5,g0,p1,u0];refine rest _ _ (Fr.refl F.wf) (by simp[FT,e]) fun v' h' g f=>?_;simp(disch:=omega) only[evs,seval,fwrap_i64,g6];refine rqn ⟨l.length-(i+1),oM,f,i+1,v',iS,iS,iX,iX,oM,g,rfl⟩
  ·have hlt':¬(i:Int)<l.length:=oM
   rw[List.take_of_length_le oM]at G;simp only[evs,seval,g6,g5,g0,rh.len,eq_false hlt'];exact⟨P7 G (by have:=F_h1.next;omega),F0⟩
/-- paternoster/paternosterref12.Check -/
theorem g187x : F.get 289 = some fn187x := rfl
open Go.Ev.St
theorem O1{X:List Nat}(f:Fr [] h h'):Fr X h h':=⟨f.next,f.wf,fun _ _ _ o=>f.get o,fun _ _ _ o=>f.pl _ _ iS o,f.lp,f.ro,f.ty⟩
theorem Hn{n0:Nat}{vo u:V}{s s5:NT}{K:V->Heap->Prop}(w:WF h)(g:Gs h B 6 vo s.cells)(hB:B<=h.next)(h0:n0<=h.next)(I:Inv vo n0 h s)(sl:Sl h 6 u s5.len s5.cells)
 (N:∀(X:List Nat)(h':Heap),(∀x∈X,x<n0\/x∈vb vo)->Fr X h h'->NH h' s5) (hl:s.len<=1000) (ad:s5.len<=1000) (D:s5.len=0->u=.nils)
 (Z:∀v' h',Gs h' B 6 v' (s.app s5).cells->Inv v' n0 h' (s.app s5)->Fr (vb vo) h h'->(∀y∈vb v',y∈vb vo\/h.next<=y)->K v' h'):
 OQ (dK h 6 104 vo u) K:=by
 have on:=NH.ones (N [] h iS (Qw w));have cl:=s.cells_len;have U:=s5.cells_len;by_cases z:s5.len=0
 ·have R:=D z;subst R;have e5:s5=.nil:=by cases s5 with
   |nil=>rfl
   |cons _ _ _ _ _ _ _ _ _=>simp[NT.len]at z
  subst e5;have J:s.app .nil=s:=by
   have:∀t:NT,t.app .nil=t:=by
    intro t;induction t with
    |nil=>rfl
    |cons _ _ _ _ _ _ _ _ _ _ ih=>simp only[NT.app,ih]
   exact this s
  rw[J]at Z;have ez:dK h 6 104 vo .nils=some (vo,h):=by
   unfold dK;rw[sl.srcLen];simp only[];rw[iw z,cond_true];rcases g with⟨rfl,_⟩|⟨b,n,rfl,_⟩<;>rfl
  rw[ez];refine(cD vo h K).2 (Z vo h g I (O1 (Qw w)) fun y m=>.inl m)
 have ab:∀x∈vb vo,x<h.next:=by
  exact yan
 refine RB w g sl oM z on hB (by rw[cl];omega) ?_;intro v' h' g' e' F;refine Z v' h' ?_ ?_ F (by rw[e'];simp)
 ·rw[NT.app_cells];exact g'
 ·intro X h2 hX f2;have f3:Fr (vb vo++X.filter (fun x=>decide (x<n0))) h h2:=by
   refine Qx F f2 w (fun x hx=>.inl iX) (fun x hx=>?_);rcases hX x hx with q|q
   ·grind
   ·grind
  exact y8
def PG:PT->Prop
 |.nil=>True
 |.cons k _ _ sl _ _ _ sub nx=>1<=k/\k<=5/\(∀s∈sl,s.2.1<=3)/\sub.len<=16/\PG sub/\PG nx
theorem PG.at':∀{t:PT}(i:Nat),PG t->PG (t.at' i)
 |.nil,0,_=>trivial
 |.nil,_+1,_=>trivial
 |.cons _ _ _ _ _ _ _ _ _,0,a=>a
 |.cons _ _ _ _ _ _ _ _ _,i+1,⟨_,_,_,_,_,b⟩=>PG.at' i b
def MDp(h:Heap)(x:Itm)(k:Nat)(tg ky:Str)(sl:List Slo)(tx:Str)(sub:PT)(u:V)(h':Heap):Prop:=
 ∃s:NT,s.sh=HA x k tg ky sl tx (gH x sub)/\Fr [] h h'/\s.len<=8/\(s.len=0->u=.nils)/\∀(X:List Nat)(h2:Heap),(∀y∈X,y<h.next)->Fr X h' h2->NH h2 s/\Sl h2 6 u s.len s.cells
def MD(k:Nat)(tg ky:Str)(sl:List Slo)(tx:Str)(va vc:V)(sub:PT):Prop:=∀(x:Itm)(h:Heap),WF h->ItmH h x->x.marks.length<=8->PH h (.cons k tg ky sl tx va vc sub .nil)->PG (.cons k tg ky sl tx va vc sub .nil)->
 ay go 289 [.agg [ZY (k:Int),.str tg,.str ky,va,.str tx,vc],.agg x.cells] h (MDp h x k tg ky sl tx sub)
def MDs:PT->Prop
 |.nil=>True
 |.cons k tg ky sl tx va vc sub nx=>MD k tg ky sl tx va vc sub/\MDs nx
theorem MDs.at':∀{t:PT}(i:Nat),MDs t->MDs (t.at' i)
 |.nil,0,_=>trivial
 |.nil,_+1,_=>trivial
 |.cons _ _ _ _ _ _ _ _ _,0,a=>a
 |.cons _ _ _ _ _ _ _ _ _,i+1,⟨_,b⟩=>MDs.at' i b
theorem xL{x:Itm}{ky z:Str}{sub:PT}(f:Fr [] h h1)(e:HA x k tg ky sl tx (gH x sub)=qY z):
 MDp h x k tg ky sl tx sub (.slice h1.next 0 1 1) (halloc h1 [ZY 2,.str [],.str [],.nils,.str z,.nils]):=by
 have Z:=QW f.wf [ZY 2,.str [],.str [],.nils,.str z,.nils];have o1:=Ro f.wf [ZY 2,.str [],.str [],.nils,.str z,.nils];refine⟨.cons 2 [] [] [] z .nils .nils .nil .nil,by rw[e];rfl,f.then Z,Qt rfl,fun q=>absurd q (by simp[NT.len]),fun X h2 hX f2=>⟨qN 2 oM [] z,RM (f2.own _ _ (fun m=>by have:=hX _ m;have:=f.next;omega) o1) rfl⟩⟩
theorem Gs.ints{M:List Int}(g:Gs h B 1 v (M.map fun x=>ZZ x))(Z:M.length<=4096):Qk h v M:=by
 have:=g.sl (n:=M.length) iS oM;exact this
theorem Sto.set{X:List Itm}{kn st:List Bool}{R:pQ}{y:Itm}(w:WF h)(s:Sto n0 h b Ks cap X l kn st vK bg B bm S bl pm R)(f:Fr [B] h h')
 (g:Gp h' bg B X.length ((X.set i y).flatMap Itm.cells)) (gB:Good h' B)
 (D:∀(Z:List Nat)(U:Heap),(∀z∈Z,z∈Wr b bg B bm S bl pm\/h'.next<=z\/Lx n0 z)->Fr Z h' U->ItmH U y):Sto n0 h' b Ks cap (X.set i y) l kn st vK bg B bm S bl pm R:=by
 have d:=s.d;have fn:=f.next;have n0l:=s.n0l;refine⟨f.own _ _ (eV d.b2) s.ob,by simpa using g,gB,s.k.frS f (eV d.t1.symm) (eV d.t2.symm),s.gS.fr f (eV d.t2.symm),s.lo.frS f s.gB.oth (eV d.t3.symm) (fun q e=>by simpa using(d.p q e).2.2.1),by simp[s.len],?_,d,by have:=s.Sl';omega,fun q e=>by have:=s.pl q e;omega,by have:=s.bl';omega,fun z q=>by have:=n0l z q;omega⟩;intro Z U J f2;have I:=Qx f f2 w (fun x m=>.inl (Qp.2 (.inl m))) (fun x m=>.inl (Qp.2 (.inr m)));obtain⟨r1,r2,r3⟩:=s.rd _ U (fun z m=>by
  rcases Qp.1 m with m|m
  ·simp at m;subst m;exact .inl (by simp[Wr])
  ·rcases J z m with q|q|q
   ·exact .inl q
   ·exact .inr (.inl oM)
   ·exact .inr (.inr q)) I
 refine⟨r1,r2,fun x m=>?_⟩;rcases Ra m with m|rfl
 ·exact r3 x m
 ·exact D Z U J f2
theorem Gs.ge{Z:Nat}(g:Gs h B e v cs)(U:Z<=B):Gs h Z e v cs:=by
 exact yN
theorem j6{call:aD}{env:T V}{k:Nat}:∀(B:List IStep)(i:Nat)(loc:List V)(h:Heap),k<i→lay call env [k] B i loc h=some (B.map fun s=>(s,none),h)
 |[],_,_,_,_=>rfl
 |s::B,i,loc,h,hi=>by
  have c0:(i==k)=false:=beq_false_of_ne oM;have c:List.contains [k] i=false:=by grind
  simp only[lay,c,cond_false,j6 (call:=call) (env:=env) (k:=k) B (i+1) _ h oM,List.map_cons]
theorem xR{call:aD}{env:T V}{k:Nat}{R:List IStep}{h h':Heap}{r:List DS}:∀(A:List IStep)(i:Nat)(loc:List V),i+A.length=k→(∀loc,lay call env [k] R k loc h=some (r,h'))→lay call env [k] (A++R) i loc h=some ((A.map fun s=>(s,none))++r,h')
 |[],i,loc,hi,hr=>by
  have:i=k:=by simpa using hi
  subst this;simpa using hr loc
 |s::A,i,loc,hi,hr=>by
  simp only[List.length_cons]at hi;have c0:(i==k)=false:=beq_false_of_ne oM;have c:List.contains [k] i=false:=by grind
  simp only[List.cons_append,lay,c,cond_false,xR (call:=call) (env:=env) A (i+1) _ oM hr,List.map_cons]
theorem lW{call:aD}{zero:List V}{R:List Nat}{Z:List (Nat×Nat×Nat)}{U:List (Nat×Nat)}(A B:List IStep)(J:A.length=k)
 (x:WD call env ((A.map fun s=>(s,none))++(zn (.al zero),some (.ptr h.next 0,zero))::B.map fun s=>(s,none)) [] [halloc h zero] (halloc h zero) (DF call (A++zn (.al zero)::B) Z U env (Q .norm))):
 W call (.dops (A++zn (.al zero)::B) [k] R Z U) env h Q:=by
 refine(Ck _ _ _ _ _ _).2 ?_;have e:∀loc,lay call env [k] (zn (.al zero)::B) k loc h=some ((zn (.al zero),some (.ptr h.next 0,zero))::B.map (fun s=>(s,none)),halloc h zero):=by
  intro loc;have c:List.contains [k] k=true:=by simp
  simp only[lay,c,cond_true,jM,j6 B (k+1) _ _ (Sz k),eZ]
 rw[xR A 0 [] oM e,jq];exact x
theorem fu(loc:List V)(env:T V)(n:Nat)(zero:List V):cL loc env (.al zero) (.ptr n 0) zero=true:=by
 have e:jM loc env (.al zero)=some (zero,none):=rfl;simp only[cL,e,lid,eZ,fL,dZ,Sb]
def dH(Ks:List Knd)(cap:Int)(X:List Itm):Nat->List Itm->Int
 |_,[]=>0
 |i,y::r=>if okI y Ks.length=false then 6 else if(X[i]?.map Itm.key)≠some y.key then 9 else if jK Ks cap y≠0 then jK Ks cap y else dH Ks cap X (i+1) r
theorem Inv.frX{n0:Nat}{s:NT}{X:List Nat}(I:Inv v n0 h s)(w:WF h)(f:Fr X h h')(hX:∀x∈X,x<n0):Inv v n0 h' s:=fun Y h2 hy f2=>
 I (X++Y) h2 (fun x m=>by
  rcases Qp.1 m with m|m
  ·exact .inl (hX x m)
  ·exact hy x m) (Qx f f2 w (fun x m=>.inl (Qp.2 (.inl m))) (fun x m=>.inl (Qp.2 (.inr m))))
theorem Ni{x:Itm}{ky:Str}{sub:PT}{pb:Nat}(M:MDs sub)(f0:Fr [] h h1)(a:ItmH h x)(hm:x.marks.length<=8)(n:PH h (.cons 1 tg ky sl tx va vc sub .nil))(g:PG (.cons 1 tg ky sl tx va vc sub .nil))
 (op:Own h1 pb [ZY 1,.str tg,.str ky,va,.str tx,vc]) (oi:Own h1 ib x.cells) (e2:env.get 2=some (.ptr pb 0)) (e3:env.get 3=some (.ptr ib 0))
 (k:∀u h',MDp h x 1 tg ky sl tx sub u h'->R u h'):W go mdN env h1 (jo [.t 4] R):=by
 obtain⟨n1,ra,na,rc,nc,n6,_⟩:=n;obtain⟨_,_,g3,gl,gs,_⟩:=g;have w1:=f0.wf;have l6:=op.at6;obtain⟨q0,q1,q2,q3,q4,q5,q6⟩:=l6;have i4:=oi.la 4
 simp only[evs,mdN];refine lW [zA 1 2,zL,zA 2 2,zL,zA 3 2,zL,zn (.ld 4 true (.v 3)),zc 323 [.l 1,.l 0],zp (.build [ZY 0,.str [],.str [],.nils,.str [],.nils] [(0,1),(1,1),(2,1),(3,1)]) [.c (ZY 1),.l 6,.l 4,.l 0]] _ rfl ?_;have D:=QW w1 [ZY 0,.str [],.str [],.nils,.str [],.nils];have o2:=Ro w1 [ZY 0,.str [],.str [],.nils,.str [],.nils];have n2:(halloc h1 [ZY 0,.str [],.str [],.nils,.str [],.nils]).next=h1.next+1:=rfl;generalize halloc h1 [ZY 0,.str [],.str [],.nils,.str [],.nils]=h2 at D o2 n2|-;obtain⟨r0,r1,r2,r3,r4,r5,r6⟩:=(D.get op).at6;have aA:=(D.get oi).la 4
 simp only[evs,eff,e2,e3,r1,r2,r3,aA];refine ae (wM D.wf (a.fr (f0.then D)) (ra.fr (f0.then D)) na g3) ?_;rintro vA h3 ⟨GA,F3⟩;obtain⟨t0,t1,t2,t3,t4,t5,t6⟩:=(F3.get (D.get op)).at6;have ak:=(SM (n:=sl.length) GA (by rw[au fD];simp) oM).one;simp only[evs,seval,eff,cR,fu,aq ak];refine ac F3.wf (F3.get o2) rfl (by simp only[V.cells,af,ag,ak];rfl) iR ?_;rintro h4 o4 F4 n4;have bu:=(F3.get (D.get oi)).la 4
 have n3:=F3.next;simp only[evs,seval,DF,e3,r1,r2,r3,aA,t1,t2];have a7:=(D.then F3).fresh F4 w1 (pi _);have a2:=Gs.frX GA F4 (fun y m=>by simp at m;omega);have bh:=f0.next;refine aw (fun n env U=>Fr [] h1 U/\∃(i:Nat)(s:NT)(J:V),env.get 8=some (ZZ (i:Int))/\env.get 7=some (.ptr h1.next 0)/\env.get 2=some (.ptr pb 0)/\env.get 3=some (.ptr ib 0)/\i<=sub.len/\h3.next<=U.next/\
  Own U h1.next [ZY 1,.str tg,.str ky,vA,.str [],J]/\(∀(X:List Nat)(h':Heap),(∀y∈X,y<h2.next\/h3.next<=y)->Fr X U h'->Recs lh 2 h' vA (sl.map (att x)))/\Gs U h3.next 6 J s.cells/\Inv J h3.next U s/\
  s.sh.app (gH x (sub.at' i))=gH x sub/\s.len<=8*i/\n=sub.len-i) sub.len oM ?_ ?_
 ·refine⟨a7,0,.nil,.nils,iS,iS,iX,iX,oM,oM,o4,fun X h' hX f=>?_,.inl ⟨rfl,rfl⟩,fun _ _ _ _=>trivial,by cases sub<;>rfl,by simp[NT.len],rfl⟩;have bc:∀y∈vb vA,y<h3.next:=by
   rcases GA with⟨rfl,_⟩|⟨b,n,rfl,_,_,_,o⟩
   ·simp[vb]
   ·have:=o.lt F3.wf;simp only[vb,RF];rintro y rfl;exact this
  have:Gs h' h2.next 2 vA ((sl.map (att x)).flatMap lh):=by
   rcases a2 with z|⟨b,n,rfl,z2,z3,z4,o⟩
   ·exact .inl z
   ·exact .inr ⟨b,n,rfl,z2,z3,z4,f.own _ _ (fun m=>by have:=hX _ m;have:=bc b (by simp[vb]);omega) o⟩
  exact SM this (by rw[au fD]) oM
 ·rintro n' env U ⟨F,i,s,J,g8,g7,g2,aE,hi,hn,on,SA,G,I,e,sn,rfl⟩;have F0:=f0.then F;obtain⟨u0,u1,u2,u3,u4,u5,u6⟩:=(F.get op).at6;have ah:=rc.fr F0;by_cases aF:i<sub.len
  ·have Z:(i:Int)<sub.len:=oM
   obtain⟨kd,bn,bv,bg,bm,bt,bz,bf,nx,e1,a8,a6,br,bw,_⟩:=sub.split i aF;obtain⟨bi,bo,p1,p2⟩:=Sl.ix6 ah aF a8;have ph:=PH.at' i (n6.fr F0);have pg:=gs.at' i;have md:=M.at' i;rw[e1]at ph e pg md;obtain⟨z1,z2,z3,z4,z5,z6,z7⟩:=ph;obtain⟨y1,y2,y3,y4,y5,y6⟩:=pg;obtain⟨v0,v1,v2,v3,v4,v5,v6⟩:=p2;have w5:=on.l1 5;have ao:=(F.get oi).la 4
   simp only[evs,seval,eff,g8,g7,g2,aE,u5,ah.len,Z,p1,v6,w5,ao];refine ae (md.1 x U F.wf (a.fr F0) hm ⟨z1,z2,z3,z4,z5,z6,trivial⟩ ⟨y1,y2,y3,y4,y5,trivial⟩) ?_;rintro uu h5 ⟨s5,a9,F5,l5,a3,aj⟩;have ax:=F5.get on;have a0:=ax.l1 5;have a1:=aj [] h5 iS (Qw F5.wf);have ad:∀y∈vb J,h3.next<=y/\y<U.next:=by
    exact y9
   have n5:=F5.next;simp only[evs,eff];refine Hn F5.wf (Gs.frX G F5 iS) oM oM (I.fr F.wf F5) a1.2 (fun X h' hX f=>(aj X h' (fun y m=>by
    rcases hX y m with q|q
    ·omega
    ·exact(ad y q).2) f).1) oM oM a3 ?_
   intro v' h6 G' I' F6 V';have a4:=F6.own _ _ (fun m=>by have:=ad _ m;omega) ax;have ab:=(SM G' (by rw[NT.cells_len]) oM).one;simp only[evs,seval,eff,g7];refine ac F6.wf a4 (by rw[aq ab];rfl) (by rw[aq ab];simp only[af,ag,ab];rfl) (by rw[aq ab];rfl) ?_;rintro h7 o7 F7 n7;have bB:=F6.next;have a5:=Ru w1 (Ru w1 (F.then F5) F6 (fun y m=>by have:=ad y m;omega)) F7 (fun y m=>by simp at m;omega);have G7:=Gs.frX G' F7 (fun y m=>by simp at m;omega);have I7:=I'.frX F6.wf F7 (fun y m=>by simp at m;omega);have aR:∀(X:List Nat)(h':Heap),Fr X h7 h'->Fr (vb J++[h1.next]++X) U h':=fun X h' f=>
    Qx (Qx (Qx F5 F6 F.wf iS (fun y m=>.inl m)) F7 F.wf (fun y m=>.inl (Qp.2 (.inl m))) (fun y m=>.inl (Qp.2 (.inr m)))) f F.wf (fun y m=>.inl (Qp.2 (.inl m))) (fun y m=>.inl (Qp.2 (.inr m)))
   simp(disch:=omega) only[evs,seval,DF,fwrap_i64,g8,aE,u5,v6,w5,ao,a0];refine rqn ⟨sub.len-(i+1),oM,a5,i+1,s.app s5,v',iS,iX,iX,iX,oM,oM,o7,fun X h' hX f=>SA _ h' (fun y m=>?_) (aR X h' f),G7,I7,?_,?_,rfl⟩
   ·rcases Qp.1 m with m|m
    ·rcases Qp.1 m with m|m
     ·exact .inr (ad y m).1
     ·simp at m;omega
    ·exact hX y m
   ·rw[NT.app_sh,a9,ST.app_assoc,a6];exact e
   ·rw[NT.app_len];omega
  ·have Z:¬(i:Int)<sub.len:=oM
   have w6:=on.la 6
   rw[Uh _ _ oM]at e;have e':s.sh=gH x sub:=by rw[<-e];show _=s.sh.app .nil;rw[ST.app_nil]
   simp only[evs,seval,g8,g7,g2,u5,ah.len,eq_false Z,w6];refine k _ _ ⟨.cons 1 tg ky (sl.map (att x)) [] vA J s .nil,by unfold HA;rw[if_pos rfl,<-e'];rfl,F0.then (QW F.wf _),Qt rfl,fun q=>absurd q (by simp[NT.len]),fun X h2' hX f=>?_⟩;have F9:=QW F.wf [ZY 1,.str tg,.str ky,vA,.str [],J];have o9:=Ro F.wf [ZY 1,.str tg,.str ky,vA,.str [],J];have f9:=Qx F9 f F.wf iS (fun y m=>.inl m);refine⟨⟨oM,SA X h2' (fun y m=>.inl (by have:=hX y m;omega)) f9,by simpa using na,?_,oM,I X h2' (fun y m=>.inl (by have:=hX y m;omega)) f9,trivial⟩,RM (f.own _ _ (fun m=>by have:=hX _ m;have:=F0.next;omega) o9) rfl⟩;exact SM (Gs.frX G f9 (fun y m=>by have:=hX y m;omega)) s.cells_len oM
abbrev jJ(z:Str):List V:=[ZY 2,.str [],.str [],.nils,.str z,.nils]
abbrev Mr:List IStep:=[zp (.build [ZY 0,.str [],.str [],.nils,.str [],.nils] [(0,1),(1,1),(2,1),(3,1),(5,1)]) [.c (ZY 1),.l 16,.l 11,.l 7,.l 0],zn (.bs [ZY 0,.str [],.str [],.nils,.str [],.nils] [(0,6)] 1 [.l 0]),zn (.ap 6 104 (.l 20) (.l 0)),zp .mv [.l 0]]
abbrev Mu:List IStep:=[zm 5,zA 1 2,zL,zA 3 3,zL,zm 6,zp (.ixs 1) [.l 1,.l 0],zL,zA 3 2,zL,zn (.ld 4 true (.v 3)),zc 323 [.l 1,.l 0],zA 3 3,zL,zm 6,zp (.ixs 1) [.l 1,.l 0],zL,zp (.build [ZY 0,.str [],.str [],.nils,.str [],.nils] [(0,1),(4,1)]) [.c (ZY 2),.l 0]]
abbrev Mt:IStep:=zn (.bs [ZY 0,.str [],.str [],.nils,.str [],.nils] [(0,6)] 1 [.l 0])
theorem O9{pb b3 o3:Nat}{i:Int}{v5 vm:V}{mk:Str}(g5:env.get 5=some v5)(g2:env.get 2=some (.ptr pb 0))(g3:env.get 3=some (.ptr ib 0))(g6:env.get 6=some (ZZ i))
 (l1:ai h pb 1=some (.str tg)) (l3:ai h ib 3=some vm) (ix:aP (.ixs 1) [vm,ZZ i]=some (.ptr b3 o3)) (lm:ai h b3 o3=some (.str mk)) (lp:ai h pb 3=some va) (l4:aH h ib 0 4=some cs):
 lay go env [18] (Mu++Mt::Mr) 0 [] h=some ((Mu.map fun s=>(s,none))++(Mt,some (.slice h.next 0 1 1,jJ mk))::(Mr.map fun s=>(s,none)),halloc h (jJ mk)):=by
 have R:∀(loc:List V)(x:Opd)(v:V),evO loc env x=some v->aM go loc env h (.p .mv [x])=some (v,h):=fun loc x v e=>by
  simp only[aM,iv,eN,e,cZ,aP]
 have U:∀(loc:List V)(x k b:Nat),env.get x=some (.ptr b 0)->aM go loc env h (.p (.faddr k) [.v x])=some (.ptr b k,h):=fun loc x k b e=>by
  simp only[aM,iv,eN,jN,e,cZ,nW,Rc]
 have Z:∀(loc:List V)(b o:Nat)(v:V),ai h b o=some v->aM go (.ptr b o::loc) env h (.ld 1 false (.l 0))=some (v,h):=fun loc b o v e=>by
  simp only[aM,qj,fM,gW,e]
 have J:∀(loc:List V),aM go (ZZ i::vm::loc) env h (.p (.ixs 1) [.l 1,.l 0])=some (.ptr b3 o3,h):=fun loc=>by
  simp only[aM,iv,eN,qj,fM,sG,cZ,ix]
 have I:∀(loc:List V),aM go loc env h (.ld 4 true (.v 3))=some (.agg cs,h):=fun loc=>by
  simp only[aM,jN,g3,gV,l4];rfl
 have D:∀(loc:List V),aM go (.str mk::loc) env h (.p (.build [ZY 0,.str [],.str [],.nils,.str [],.nils] [(0,1),(4,1)]) [.c (ZY 2),.l 0])=some (.agg (jJ mk),h):=fun loc=>rfl;simp only[Rb,Ri];rw[dh rfl rfl (R _ _ _ (by rw[jN];exact g5)),dh rfl rfl (U _ _ _ _ g2),dh rfl rfl (Z _ _ _ _ l1),dh rfl rfl (U _ _ _ _ g3),dh rfl rfl (Z _ _ _ _ l3),dh rfl rfl (R _ _ _ (by rw[jN];exact g6)),dh rfl rfl (J _),dh rfl rfl (Z _ _ _ _ lm),
  dh rfl rfl (U _ _ _ _ g2),dh rfl rfl (Z _ _ _ _ lp),dh rfl rfl (I _),CT rfl rfl,dh rfl rfl (U _ _ _ _ g3),dh rfl rfl (Z _ _ _ _ l3),dh rfl rfl (R _ _ _ (by rw[jN];exact g6)),dh rfl rfl (J _),dh rfl rfl (Z _ _ _ _ lm),dh rfl rfl (D _)]
 rw[HV (c:=jJ mk) rfl rfl,j6 _ _ _ _ oM];rfl
theorem OG(loc:List V)(env:T V)(n:Nat)(z:Str):cL (.agg (jJ z)::loc) env (.bs [ZY 0,.str [],.str [],.nils,.str [],.nils] [(0,6)] 1 [.l 0]) (.slice n 0 1 1) (jJ z)=true:=by
 have e:jM (.agg (jJ z)::loc) env (.bs [ZY 0,.str [],.str [],.nils,.str [],.nils] [(0,6)] 1 [.l 0])=some (jJ z,some (1,1)):=rfl;simp only[cL,e,lid,eZ,fL,dZ,Sb]
theorem Nj{x:Itm}{ky:Str}{sub:PT}{pb:Nat}(f0:Fr [] h h1)(a:ItmH h x)(hm:x.marks.length<=8)(n:PH h (.cons 5 tg ky sl tx va vc sub .nil))(aF:∀s∈sl,s.2.1<=3)
 (op:Own h1 pb [ZY 5,.str tg,.str ky,va,.str tx,vc]) (oi:Own h1 ib x.cells) (e2:env.get 2=some (.ptr pb 0)) (e3:env.get 3=some (.ptr ib 0))
 (k:∀u h' env',env'.get 4=some u->MDp h x 5 tg ky sl tx sub u h'->Q .ret env' h'):W go mdE env h1 Q:=by
 obtain⟨n1,ra,na,rc,nc,n6,_⟩:=n;have w1:=f0.wf;have fin:HA x 5 tg ky sl tx (gH x sub)=wt tg (sl.map (att x)) x.marks:=rfl;simp only[evs,mdE];refine aw (fun n env D=>Fr [] h1 D/\∃(i:Nat)(s:NT)(vo:V),env.get 6=some (ZZ (i:Int))/\env.get 5=some vo/\env.get 2=some (.ptr pb 0)/\env.get 3=some (.ptr ib 0)/\i<=x.marks.length/\
  Gs D h1.next 6 vo s.cells/\Inv vo h1.next D s/\s.sh.app (wt tg (sl.map (att x)) (x.marks.drop i))=wt tg (sl.map (att x)) x.marks/\s.len=i/\n=x.marks.length-i) x.marks.length oM ?_ ?_
 ·exact⟨Qw w1,0,.nil,.nils,iS,iS,iX,iX,oM,.inl ⟨rfl,rfl⟩,fun _ _ _ _=>trivial,rfl,rfl,rfl⟩
 ·rintro n' env D ⟨F,i,s,vo,g6,g5,g2,g3,hi,G,I,e,sn,rfl⟩;have F0:=f0.then F;obtain⟨u0,u1,u2,u3,u4,u5,u6⟩:=(F.get op).at6;have i3:=(F.get oi).l1 3;have i4:=(F.get oi).la 4
  have am:=a.m.fr F0;by_cases a1:i<x.marks.length
  ·have Z:(i:Int)<x.marks.length:=oM
   obtain⟨b3,o3,mk,p1,p2,_,p4⟩:=am.ix cC .i64 (i:Int) oM Z;have p3:ai D b3 o3=some (.str mk):=p2 0 oM;rw[so]at p4;rw[aX p4]at e;simp only[evs,seval,g6,g3,i3,am.len,Z];refine(Ck _ _ _ _ _ _).2 ?_;refine⟨_,_,O9 (v5:=vo) iX iX iX iX u1 i3 p1 p3 u3 i4,?_⟩;have U:=QW F.wf (jJ mk);have o2:=Ro F.wf (jJ mk);have n2:(halloc D (jJ mk)).next=D.next+1:=rfl;generalize halloc D (jJ mk)=h2 at U o2 n2|-;obtain⟨r0,r1,r2,r3,r4,r5,r6⟩:=(U.get (F.get op)).at6;have i32:=(U.get (F.get oi)).l1 3;have ak:=(U.get (F.get oi)).la 4
   have ao:ai h2 b3 o3=some (.str mk):=by
    obtain⟨aR,ab,mk',R,ad,_,J⟩:=(am.fr U).ix cC .i64 (i:Int) oM Z;rw[p1]at R;cases R;rw[so,p4]at J;cases J;exact ad 0 oM
   simp only[evs,seval,eff,g6,g5,g2,g3,r1,r3,i32,ak,p1,ao];refine ae (wM U.wf (a.fr (F0.then U)) (ra.fr (F0.then U)) na aF) ?_;rintro vA h3 ⟨GA,F3⟩;have aE:=(SM (n:=sl.length) GA (by rw[au fD];simp) oM).one;obtain⟨t0,t1,t2,t3,t4,t5,t6⟩:=(F3.get (U.get (F.get op))).at6;have ax:=(F3.get (U.get (F.get oi))).l1 3;have aj:ai h3 b3 o3=some (.str mk):=by
    obtain⟨aR,ab,mk',R,ad,_,J⟩:=(am.fr (U.then F3)).ix cC .i64 (i:Int) oM Z;rw[p1]at R;cases R;rw[so,p4]at J;cases J;exact ad 0 oM
   simp only[evs,seval,eff,g6,g3,p1,ax,aj,cR,OG,aq aE];have n3:=F3.next;have a0:=F.next;have aA:∀y∈vb vo,h1.next<=y/\y<D.next:=by
    exact y9
   have ah:=U.then F3;have ab:=F3.get o2;refine J0 (k:=1) (n0:=h1.next) (B:=h1.next) (s:=s) (at':=sl.map (att x)) (sub:=.cons 2 [] [] [] mk .nils .nils .nil .nil) F3.wf (Gs.frX G ah iS) oM oM (I.fr F.wf ah) (fun X h' hX f=>?_) oM ?_
   ·have lt:∀y∈X,y<D.next:=fun y m=>by
     rcases hX y m with q|q
     ·omega
     ·exact(aA y q).2
    refine⟨oM,?_,by simpa using na,RM (f.own _ _ (fun m=>by have:=lt _ m;omega) ab) rfl,by simp[NT.len],qN 2 oM [] mk,trivial⟩;exact SM (n:=(sl.map (att x)).length) (Gs.frX GA f (fun y m=>by have:=lt y m;omega)) (by rw[au fD]) oM
   intro v' h' G' I' F' V';have Fn:=Ru w1 (F.then ah) F' (fun y m=>(aA y m).1);simp(disch:=omega) only[evs,seval,DF,eff,fwrap_i64,g6,g3,r1,r3,i32,ak,ao,t1,ax,aj];refine rqn ⟨x.marks.length-(i+1),oM,Fn,i+1,_,v',iS,iS,iX,iX,oM,G',I',?_,?_,rfl⟩
   ·rw[NT.app_sh,ST.app_assoc];exact e
   ·rw[NT.app_len,sn];rfl
  ·have Z:¬(i:Int)<x.marks.length:=oM
   rw[QF oM]at e;have e':s.sh=wt tg (sl.map (att x)) x.marks:=by rw[<-e];show _=s.sh.app .nil;rw[ST.app_nil]
   simp only[evs,seval,g6,g5,g3,i3,am.len,eq_false Z];refine k vo _ _ iS ⟨s,by rw[fin,e'],F0,oM,fun q=>?_,fun X h2 hX f=>⟨I X h2 (fun y m=>.inl (by have:=hX y m;have:=f0.next;omega)) f,SM (n:=s.len) (Gs.frX G f (fun y m=>by have:=hX y m;have:=f0.next;omega)) s.cells_len oM⟩⟩;rcases G with⟨rfl,_⟩|⟨b,n,rfl,z,z2,_⟩
   ·rfl
   ·have:=s.cells_len;omega
theorem HN{ky:Str}{sub:PT}(M:MDs sub):MD k tg ky sl tx va vc sub:=by
 intro x h w a hm n g;have n0:=n;have g0:=g;obtain⟨k1,k5,g3,_⟩:=g;obtain⟨h1,Z,D,ab⟩:=av w [ZY (k:Int),.str tg,.str ky,va,.str tx,vc];obtain⟨h2,U,I,R⟩:=av D.wf x.cells;have J:=D.then I;have op:=I.get ab;have l0:=op.l1 0;have l4:=op.l1 4;have x0:=R.l1 0;have x2:=R.l1 2;have ks:k=1\/k=2\/k=3\/k=4\/k=5:=oM
 refine aa ?_ g187x rfl;rcases ks with e|e|e|e|e
 ·simp[evs,<-Z,<-U,l0,(oM:¬(k:Int)=2),(oM:¬(k:Int)=3),(oM:¬(k:Int)=4),(oM:¬(k:Int)=5)];subst e;exact Ni M J a hm n0 g0 op R iS iS fun u h' r=>r
 ·simp[evs,<-Z,<-U,l0,eq_true (oM:(k:Int)=2),l4];exact xL J (by subst e;rfl)
 ·simp[evs,<-Z,<-U,l0,(oM:¬(k:Int)=2),eq_true (oM:(k:Int)=3),x2];exact xL J (by subst e;rfl)
 ·simp[evs,<-Z,<-U,l0,(oM:¬(k:Int)=2),(oM:¬(k:Int)=3),eq_true (oM:(k:Int)=4),x0];refine dm (mZ (x.key+1) x.key oM a.k) ?_;simp[evs];exact xL J (by subst e;rfl)
 ·simp[evs,<-Z,<-U,l0,(oM:¬(k:Int)=2),(oM:¬(k:Int)=3),(oM:¬(k:Int)=4),eq_true (oM:(k:Int)=5)];subst e;refine Nj J a hm n0 g3 op R iS iS fun u h' ad q r=>?_;simp only[evs,q];exact r
theorem Nh:∀t:PT,MDs t
 |.nil=>trivial
 |.cons _ _ _ _ _ _ _ sub nx=>⟨HN (Nh sub),Nh nx⟩
/-- paternoster/items.exact[paternoster/api.Item] -/
theorem g273x : F.get 324 = some fn273x := rfl
open Go.Ev.St
theorem Me{sub:NT}(sl:Sl h 6 vc sub.len sub.cells){i:Nat}(U:i<sub.len):∃b o ky,aP (.ixs 6) [vc,ZZ (i:Int)]=some (.ptr b o)/\ai h b (o+2)=some (.str ky)/\sub.keys[i]? =some ky/\sub.keys.drop i=ky::sub.keys.drop (i+1):=by
 obtain⟨kd,ah,Z,aj,ab,I,ad,R,nx,e1,e2,e3,e4,J,_⟩:=sub.split i U;obtain⟨b,o,p1,D⟩:=Sl.ix6 sl U e2;exact⟨b,o,Z,p1,D.2.2.1,J,aX J⟩
def KX(l:List Str):Prop:=∀(i j:Nat)(q r:Str),j<i->l[i]? =some q->l[j]? =some r->q=[]\/r≠q
theorem KX.ok'{l:List Str}(h:KX l):∀(n i:Nat),i+n=l.length→fZ (l.take i) (l.drop i)=true
 |0,i,e=>by rw[List.drop_of_length_le oM];rfl
 |n+1,i,e=>by
  have hi:i<l.length:=oM
  have g:=List.getElem?_eq_getElem hi;rw[List.drop_eq_getElem_cons hi,p7,Bool.and_eq_true];refine⟨?_,?_⟩
  ·by_cases z:l[i]=[]
   ·simp[z]
   ·rw[Bool.or_eq_true];right;simp only[Bool.not_eq_true',List.any_eq_false,beq_iff_eq];intro q m e';obtain⟨j,hj,rfl⟩:=List.getElem_of_mem m;have hj':j<i:=by simp at hj;omega
    have gj:l[j]? =some (l.take i)[j]:=by grind
    rcases h i j _ _ hj' g gj with w|w
    ·exact z w
    ·exact w e'
  ·have:=KX.ok' h n (i+1) oM;rwa[List.take_add_one,g]at this
theorem KX.ok{l:List Str}(h:KX l):fZ [] l=true:=by simpa using KX.ok' h l.length 0 oM
theorem Nd{sub:NT}{pb:Nat}(l5:ai h pb 5=some vc)(sl:Sl h 6 vc sub.len sub.cells)(nl:sub.len<=4096)(e1:env.get 1=some (.ptr pb 0))
 (k:∀b,(b=true↔KX sub.keys)->R (.bool b) h):W go noC env h (jo [.t 2] R):=by
 have kl:=sub.keys_len;simp only[evs,noC];refine aw (fun n env hh=>hh=h/\∃(i:Nat),env.get 5=some (ZZ (i:Int))/\env.get 1=some (.ptr pb 0)/\i<=sub.len/\(∀(I j:Nat)(q r:Str),I<i->j<I->sub.keys[I]? =some q->sub.keys[j]? =some r->q=[]\/r≠q)/\n=sub.len-i) sub.len oM ?_ ?_
 ·exact⟨rfl,0,iS,iX,oM,fun _ _ _ _ z=>by omega,rfl⟩
 ·rintro n env hh ⟨rfl,i,D,g1,hi,P,rfl⟩;by_cases ak:i<sub.len
  ·have U:(i:Int)<sub.len:=oM
   obtain⟨b,o,ky,p1,p2,p3,p4⟩:=Me sl ak;simp[evs,D,g1,l5,sl.len,U];refine aw (fun n env h2=>h2=hh/\∃(j:Nat),env.get 6=some (ZZ (j:Int))/\env.get 5=some (ZZ (i:Int))/\env.get 1=some (.ptr pb 0)/\j<=i/\(∀(j':Nat)(r:Str),j'<j->sub.keys[j']? =some r->ky=[]\/r≠ky)/\n=i-j) i oM ?_ ?_
   ·exact⟨rfl,0,iS,iX,iX,oM,fun _ _ z=>by omega,rfl⟩
   ·rintro n' ao h2 ⟨rfl,j,g6,D,g1,hj,Q,rfl⟩;by_cases ah:j<i
    ·have Z:(j:Int)<i:=oM
     obtain⟨b',o',J,ad,ab,aj,aA⟩:=Me sl (oM:j<sub.len);have step:(ky=[]\/J≠ky)->∀(j':Nat)(r:Str),j'<j+1->sub.keys[j']? =some r->ky=[]\/r≠ky:=by grind
     cases c1:ky==[]
     ·cases c2:ky==J
      ·simp(disch:=omega)[evs,DF,eff,fwrap_i64,g6,D,g1,l5,p1,p2,ad,ab,Z,ba,aQ,c1,c2];refine rqn ⟨i-(j+1),oM,rfl,j+1,iS,iX,iX,oM,step (.inr (by rintro rfl;simp at c2)),rfl⟩
      ·simp[evs,DF,eff,g6,D,g1,l5,p1,p2,ad,ab,Z,ba,aQ,c1,c2];refine k false ⟨fun e=>(by cases e),fun K=>?_⟩;rcases K i j ky J ah p3 aj with z|z
       ·grind
       ·grind
     ·simp(disch:=omega)[evs,DF,eff,fwrap_i64,g6,D,g1,l5,p1,p2,Z,ba,c1];refine rqn ⟨i-(j+1),oM,rfl,j+1,iS,iX,iX,oM,step (.inl (eV c1)),rfl⟩
    ·have:j=i:=oM
     subst this;have Z:¬(j:Int)<j:=oM
     simp(disch:=omega)[evs,fwrap_i64,g6,D,eq_false Z];refine rqn ⟨sub.len-(j+1),oM,rfl,j+1,iS,iX,oM,fun I j' q r hi' ax e e2=>?_,rfl⟩;rcases Rn I j with z|z
     ·grind
     ·grind
  ·have U:¬(i:Int)<sub.len:=oM
   simp[evs,D,g1,l5,sl.len,eq_false U];refine k true ⟨fun _ I j q r hj e e2=>P I j q r ?_ hj e e2,fun _=>rfl⟩;have:=(QD.1 e).1;omega
def AX(l:List (Str×Str)):Prop:=∀(i:Nat)(a:Str×Str),l[i]? =some a->okN a.1=true/\okT a.2=true/\∀(j:Nat)(q:Str×Str),j<i->l[j]? =some q->leS a.1 q.1=false
theorem AX.ok'{l:List (Str×Str)}(h:AX l):∀(n i:Nat),i+n=l.length→dO (jL l i) (l.drop i)=true
 |0,i,e=>by rw[List.drop_of_length_le oM];cases jL l i<;>rfl
 |n+1,i,e=>by
  have hi:i<l.length:=oM
  have g:=List.getElem?_eq_getElem hi;obtain⟨x1,x2,x3⟩:=h i _ g;rw[List.drop_eq_getElem_cons hi,nJ,x1,x2];have y:=AX.ok' h n (i+1) oM;rw[sw g]at y;rw[y];have:cJ (jL l i) (l[i]).1=true:=by
   by_cases z:i=0
   ·subst z;rfl
   ·have gj:=List.getElem?_eq_getElem (oM:i-1<l.length);have:=x3 (i-1) _ oM gj;simp[jL,z,gj,cJ,this]
  rw[this];rfl
theorem AX.ok{l:List (Str×Str)}(h:AX l):dO none l=true:=by simpa[jL]using AX.ok' h l.length 0 oM
theorem Nf{at':List (Str×Str)}{sub:NT}{pb:Nat}(I:ai h pb 3=some va)(ra:Recs lh 2 h va at')(na:at'.length<=4096)(l5:ai h pb 5=some vc)(sl:Sl h 6 vc sub.len sub.cells)(nl:sub.len<=4096)(e1:env.get 1=some (.ptr pb 0))
 (k:∀b,(b=true↔AX at'/\KX sub.keys)->R (.bool b) h):W go noA env h (jo [.t 2] R):=by
 simp only[evs,noA];refine aw (fun n env hh=>hh=h/\∃(i:Nat),env.get 3=some (ZZ (i:Int))/\env.get 1=some (.ptr pb 0)/\i<=at'.length/\(∀(J:Nat)(a:Str×Str),J<i->at'[J]? =some a->okN a.1=true/\okT a.2=true/\∀(j:Nat)(q:Str×Str),j<J->at'[j]? =some q->leS a.1 q.1=false)/\n=at'.length-i) at'.length oM ?_ ?_
 ·exact⟨rfl,0,iS,iX,oM,fun _ _ z=>by omega,rfl⟩
 ·rintro n env hh ⟨rfl,i,g3,g1,hi,P,rfl⟩;by_cases ao:i<at'.length
  ·have U:(i:Int)<at'.length:=oM
   obtain⟨b,o,a,p1,p2,_,p4⟩:=ra.ix fD .i64 (i:Int) oM U;rw[so]at p4;have q0:ai hh b o=some (.str a.1):=p2 0 oM;have q1:ai hh b (o+1)=some (.str a.2):=p2 1 oM;simp only[evs,seval,g3,g1,I,ra.len,U,p1,q0];refine ae eY ?_;rintro _ _ ⟨rfl,rfl⟩;cases c1:okN a.1
   ·simp only[evs,seval];exact k false ⟨fun e=>(by cases e),fun K=>by have:=(K.1 i a p4).1;rw[c1]at this;cases this⟩
   simp only[evs,seval,g3,g1,I,p1,q1];refine ae jR ?_;rintro _ _ ⟨rfl,rfl⟩;cases c2:okT a.2
   ·simp only[evs,seval];exact k false ⟨fun e=>(by cases e),fun K=>by have:=(K.1 i a p4).2.1;rw[c2]at this;cases this⟩
   simp only[evs,seval];refine aw (fun n env h2=>h2=hh/\∃(j:Nat),env.get 4=some (ZZ (j:Int))/\env.get 3=some (ZZ (i:Int))/\env.get 1=some (.ptr pb 0)/\j<=i/\(∀(j':Nat)(q:Str×Str),j'<j->at'[j']? =some q->leS a.1 q.1=false)/\n=i-j) i oM ?_ ?_
   ·exact⟨rfl,0,iS,iX,iX,oM,fun _ _ z=>by omega,rfl⟩
   ·rintro n' ak h2 ⟨rfl,j,g4,g3,g1,hj,Q,rfl⟩;by_cases ah:j<i
    ·have Z:(j:Int)<i:=oM
     obtain⟨b',o',a2,ab,aj,_,ad⟩:=ra.ix fD .i64 (j:Int) oM oM;rw[so]at ad;have D:ai h2 b' o'=some (.str a2.1):=aj 0 oM;cases c3:leS a.1 a2.1
     ·simp(disch:=omega) only[evs,seval,DF,eff,fwrap_i64,g4,g3,g1,I,p1,q0,ab,D,Z,kX,c3];refine rqn ⟨i-(j+1),oM,rfl,j+1,iS,iX,iX,oM,?_,rfl⟩;intro j' q ax e;rcases Rn j' j with z|z
      ·exact Q j' q z e
      ·grind
     ·simp only[evs,seval,DF,eff,g4,g3,g1,I,p1,q0,ab,D,Z,kX,c3];exact k false ⟨fun e=>(by cases e),fun K=>by have:=(K.1 i a p4).2.2 j a2 ah ad;rw[c3]at this;cases this⟩
    ·have:j=i:=oM
     subst this;have Z:¬(j:Int)<j:=oM
     simp(disch:=omega) only[evs,seval,fwrap_i64,g4,g3,eq_false Z];refine rqn ⟨at'.length-(j+1),oM,rfl,j+1,iS,iX,oM,fun J b hi' e=>?_,rfl⟩;rcases Rn J j with z|z
     ·exact P J b z e
     ·grind
  ·have U:¬(i:Int)<at'.length:=oM
   simp only[evs,seval,g3,g1,I,ra.len,eq_false U];refine Nd l5 sl nl iX fun b hb=>k b (hb.trans ⟨fun e=>⟨fun J a e'=>P J a ?_ e',e⟩,fun e=>e.2⟩);have:=(QD.1 e').1;omega
def OX(k:Nat)(tg ky:Str)(at':List (Str×Str))(tx:Str)(sub:NT):Prop:=
 (k=2/\okT tx=true/\(tg==[])=true/\(ky==[])=true/\at'.length=0/\sub.len=0)\/(k=1/\okN tg=true/\(ky==[]||okN ky)=true/\(tx==[])=true/\at'.length<=8/\sub.len<=16/\AX at'/\KX sub.keys)
theorem OX.ok{ky:Str}{at':List (Str×Str)}{sub:NT}(h:OX k tg ky at' tx sub):ST.alone k tg ky at' tx sub.sh=true:=by
 have z:=NT.sh_len sub;have zk:sub.sh.keys=sub.keys:=NT.sh_keys sub;unfold ST.alone;rcases h with⟨R,U,Z,J,I,h6⟩|⟨R,U,Z,J,I,h6,D,h8⟩
 ·grind
 ·rw[if_neg oM,U,Z,J,D.ok,zk,h8.ok,decide_eq_true R,decide_eq_true I,decide_eq_true (oM:sub.sh.len<=16)];rfl
theorem J5{ky:Str}{at':List (Str×Str)}{sub:NT}(w:WF h)(n:NH h (.cons k tg ky at' tx va vc sub .nil)):
 ay go 324 [.agg [ZY (k:Int),.str tg,.str ky,va,.str tx,vc]] h fun u h'=>Fr [] h h'/\∃b,u=.bool b/\(b=true↔OX k tg ky at' tx sub):=by
 obtain⟨n1,ra,na,rc,nc,n6,_⟩:=n;obtain⟨h1,J,F_h1,Z⟩:=av w [ZY (k:Int),.str tg,.str ky,va,.str tx,vc];have l0:=Z.l1 0;have l1:=Z.l1 1;have l2:=Z.l1 2;have D:=Z.l1 3;have l4:=Z.l1 4;have l5:=Z.l1 5;have U:=ra.fr F_h1;have R:=rc.fr F_h1;have no{h'}(f:Fr [] h h')(x:¬OX k tg ky at' tx sub):(Fr [] h h'/\∃b,V.bool false=.bool b/\(b=true↔OX k tg ky at' tx sub)):=⟨f,false,rfl,fun e=>(by cases e),fun e=>absurd e x⟩;by_cases k2:(k:Int)=2
 ·refine aa ?_ g273x rfl;simp only[evs,seval,<-J,l0,eq_true k2,l4];refine ae jR ?_;rintro _ _ ⟨rfl,rfl⟩;cases c1:okT tx
  ·simp only[evs,seval];exact yc
  cases c2:tg==[]
  ·simp only[evs,seval,l1,aQ,c2];exact yc
  cases c3:ky==[]
  ·simp only[evs,seval,l1,l2,aQ,c2,c3];exact yc
  by_cases c4:(at'.length:Int)=0
  ·simp only[evs,seval,l1,l2,D,l5,aQ,c2,c3,U.len,eq_true c4,R.len];refine⟨F_h1,_,rfl,fun e=>?_,fun e=>?_⟩
   ·have e0:=of_decide_eq_true e;exact .inl ⟨oM,c1,c2,c3,oM,oM⟩
   ·rcases e with⟨h1,h2,h3,h4,h5,h6⟩|⟨h1,_⟩
    ·grind
    ·omega
  ·simp only[evs,seval,l1,l2,D,aQ,c2,c3,U.len,eq_false c4];exact yc
 by_cases k1:(k:Int)=1
 ·refine aa ?_ g273x rfl;simp only[evs,seval,<-J,l0,eq_false k2,eq_true k1,l1];refine ae eY ?_;rintro _ _ ⟨rfl,rfl⟩;cases c1:okN tg
  ·simp only[evs,seval];exact yc
  have I:∀{env:T V},env.get 1=some (.ptr h.next 0)->tx==[]->(ky==[]||okN ky)=true->at'.length<=8->sub.len<=16->W go noA env h1 (jo [.t 2] fun u h'=>Fr [] h h'/\∃b,u=.bool b/\(b=true↔OX k tg ky at' tx sub)):=by
   intro env e1 c3 c2 c4 c5;refine Nf D U na l5 R nc e1 fun b hb=>⟨F_h1,b,rfl,fun e=>.inr ⟨oM,c1,c2,c3,c4,c5,hb.1 e⟩,fun e=>?_⟩;rcases e with⟨h1,_⟩|⟨h1,h2,h3,h4,h5,h6,h7⟩
   ·omega
   ·exact hb.2 h7
  cases c2:ky==[]
  ·simp only[evs,seval,l2,ba,c2];refine ae eY ?_;rintro _ _ ⟨rfl,rfl⟩;cases ab:okN ky
   ·simp only[evs,seval];exact yc
   cases c3:tx==[]
   ·simp only[evs,seval,l4,ba,c3];exact yc
   by_cases c4:(8:Int)<(at'.length:Nat)
   ·simp only[evs,seval,D,l4,ba,c3,U.len,eq_true c4];exact yc
   by_cases c5:(16:Int)<(sub.len:Nat)
   ·simp only[evs,seval,D,l4,l5,ba,c3,U.len,eq_false c4,R.len,eq_true c5];exact yc
   simp only[evs,seval,D,l4,l5,ba,c3,U.len,eq_false c4,R.len,eq_false c5];exact I iS c3 (by rw[c2,ab];rfl) oM oM
  ·simp only[evs,seval,l2,D,l4,ba,c2];cases c3:tx==[]
   ·simp only[evs,seval];exact yc
   by_cases c4:(8:Int)<(at'.length:Nat)
   ·simp only[evs,seval,U.len,eq_true c4];exact yc
   by_cases c5:(16:Int)<(sub.len:Nat)
   ·simp only[evs,seval,l5,U.len,eq_false c4,R.len,eq_true c5];exact yc
   simp only[evs,seval,l5,U.len,eq_false c4,R.len,eq_false c5];exact I iS c3 (by rw[c2];rfl) oM oM
 ·refine aa ?_ g273x rfl;simp only[evs,seval,<-J,l0,eq_false k2,eq_false k1];exact yc
open Classical in
def NT.rs:NT->Nat->Nat->Nat
 |.nil,_,c=>c
 |.cons k tg ky at' tx _ _ sub nx,lv,c=>if 64<c then c else nx.rs lv (c+(if lv=0\/¬OX k tg ky at' tx sub then 1000 else sub.rs (lv-1) 1))
open Classical in
def NT.rn(k:Nat)(tg ky:Str)(at':List (Str×Str))(tx:Str)(sub:NT)(lv:Nat):Nat:=if lv=0\/¬OX k tg ky at' tx sub then 1000 else sub.rs (lv-1) 1
theorem NT.rs_cons(k:Nat)(tg ky:Str)(at':List (Str×Str))(tx:Str)(va vc:V)(sub nx:NT)(lv c:Nat):(NT.cons k tg ky at' tx va vc sub nx).rs lv c=if 64<c then c else nx.rs lv (c+NT.rn k tg ky at' tx sub lv):=rfl
theorem NT.rs_le:∀(t:NT)(lv c:Nat),t.rs lv c≤max c (1064+64*lv)
 |.nil,lv,c=>by simp only[NT.rs];omega
 |.cons k tg ky sl tx va vc sub nx,lv,c=>by
  rw[NT.rs_cons];split
  ·omega
  ·have h1:=NT.rs_le sub (lv-1) 1;have h2:=NT.rs_le nx lv (c+NT.rn k tg ky sl tx sub lv);have:NT.rn k tg ky sl tx sub lv≤max 1000 (1000+64*lv):=by
    unfold NT.rn;split
    ·omega
    ·omega
   omega
theorem NT.rs_ge:∀(t:NT)(lv c:Nat),c≤t.rs lv c
 |.nil,lv,c=>Nat.le_refl _
 |.cons k tg ky sl tx va vc sub nx,lv,c=>by
  rw[NT.rs_cons];split
  ·omega
  ·have h2:=NT.rs_ge nx lv (c+NT.rn k tg ky sl tx sub lv);omega
theorem NT.rn_le(k:Nat)(tg ky:Str)(sl:List (Str×Str))(tx:Str)(sub:NT)(lv:Nat):NT.rn k tg ky sl tx sub lv<=1064+64*lv/\1<=NT.rn k tg ky sl tx sub lv:=by
 unfold NT.rn;split
 ·omega
 ·have:=NT.rs_le sub (lv-1) 1;have:=NT.rs_ge sub (lv-1) 1;omega
theorem NT.rs_stop:∀(t:NT)(lv c:Nat),64<c->t.rs lv c=c
 |.nil,_,_,_=>rfl
 |.cons _ _ _ _ _ _ _ _ _,_,_,h=>by rw[NT.rs_cons,if_pos h]
theorem NT.rs_walk:∀(t:NT)(lv c c0:Nat),lv≤6→c0+t.rs lv c≤64→t.sh.walk (7-lv) (c0+c)=(c0+t.rs lv c,true)
 |.nil,_,_,_,_,_=>rfl
 |.cons k tg ky sl tx va vc sub nx,lv,c,c0,hl,h=>by
  have g:=NT.rs_ge (.cons k tg ky sl tx va vc sub nx) lv c;have c64:¬64<c:=oM
  rw[NT.rs_cons,if_neg c64]at h⊢;have g2:=NT.rs_ge nx lv (c+NT.rn k tg ky sl tx sub lv);have g3:=(NT.rn_le k tg ky sl tx sub lv).2;have er:¬(lv=0∨¬OX k tg ky sl tx sub):=by
   intro q;have:NT.rn k tg ky sl tx sub lv=1000:=by unfold NT.rn;rw[if_pos q]
   omega
  have ev:NT.rn k tg ky sl tx sub lv=sub.rs (lv-1) 1:=by unfold NT.rn;rw[if_neg er]
  have ox:OX k tg ky sl tx sub:=Classical.byContradiction fun q=>er (.inr q);have l0:lv≠0:=fun e=>er (.inl e);have nd:ST.node k tg ky sl tx sub.sh sub.sh.walk (7-lv) (c0+c)=(c0+c+NT.rn k tg ky sl tx sub lv,true):=by
   unfold ST.node;rw[if_neg (by rw[ox.ok];simp;omega),(oM:7-lv+1=7-(lv-1)),NT.rs_walk sub (lv-1) 1 (c0+c) oM oM,ev]
  simp only[NT.sh,ST.walk,nd,if_true];rw[Nat.add_assoc,NT.rs_walk nx lv _ c0 hl h]
theorem NT.rn_node(k:Nat)(tg ky:Str)(sl:List (Str×Str))(tx:Str)(sub:NT)(h:NT.rn k tg ky sl tx sub 6<=64):ST.count k tg ky sl tx sub.sh=NT.rn k tg ky sl tx sub 6:=by
 have:=NT.rs_walk (.cons k tg ky sl tx .nils .nils sub .nil) 6 0 0 oM (by rw[NT.rs_cons,if_neg oM];simpa[NT.rs]using h);rw[NT.rs_cons,if_neg oM]at this;simp only[NT.sh,ST.walk,NT.rs,Rc]at this;unfold ST.count;split at this
 ·grind
 ·grind
def CN(k:Nat)(tg ky:Str)(at':List (Str×Str))(tx:Str)(va vc:V)(sub:NT):Prop:=∀(lv:Nat)(h:Heap),lv<=6->WF h->NH h (.cons k tg ky at' tx va vc sub .nil)->
 ay go 290 [.agg [ZY (k:Int),.str tg,.str ky,va,.str tx,vc],ZZ (lv:Int)] h fun u h'=>Fr [] h h'/\u=ZZ (NT.rn k tg ky at' tx sub lv:Nat)
def CNs:NT->Prop
 |.nil=>True
 |.cons k tg ky at' tx va vc sub nx=>CN k tg ky at' tx va vc sub/\CNs nx
theorem CNs.at':∀{t:NT}(i:Nat),CNs t->CNs (t.at' i)
 |.nil,0,_=>trivial
 |.nil,_+1,_=>trivial
 |.cons _ _ _ _ _ _ _ _ _,0,a=>a
 |.cons _ _ _ _ _ _ _ _ _,i+1,⟨_,b⟩=>CNs.at' i b
theorem NT.at_end':∀(t:NT)(i:Nat),t.len<=i->t.at' i=.nil
 |.nil,0,_=>rfl
 |.nil,_+1,_=>rfl
 |.cons _ _ _ _ _ _ _ _ nx,0,h=>by simp[NT.len]at h
 |.cons _ _ _ _ _ _ _ _ nx,i+1,h=>NT.at_end' nx i (by simp[NT.len]at h;omega)
theorem FH{ky:Str}{at':List (Str×Str)}{sub:NT}(M:CNs sub):CN k tg ky at' tx va vc sub:=by
 intro lv h aE w n;have n0:=n;obtain⟨n1,ra,na,rc,nc,n6,_⟩:=n;obtain⟨h1,J,Z,D⟩:=av w [ZY (k:Int),.str tg,.str ky,va,.str tx,vc];by_cases c1:(lv:Int)<1
 ·refine aa ?_;simp only[evs,seval,<-J,eq_true c1];exact⟨Z,by rw[NT.rn,if_pos (.inl oM)];rfl⟩
 have l6:=D.la 6
 refine aa ?_;simp only[evs,seval,<-J,eq_false c1,l6];refine ae (J5 Z.wf (n0.fr Z)) ?_;rintro _ h2 ⟨F2,b,rfl,hb⟩;have ao:=Z.then F2;cases c2:b
 ·simp only[evs,seval];exact⟨ao,by rw[NT.rn,if_pos (.inr fun x=>by have:=hb.2 x;rw[c2]at this;cases this)];rfl⟩
 have al:=hb.1 c2;have o2:=F2.get D;simp only[evs,seval];refine aw (fun n env hh=>Fr [] h2 hh/\∃(i c:Nat),env.get 6=some (ZZ (i:Int))/\env.get 5=some (ZZ (c:Int))/\env.get 2=some (.ptr h.next 0)/\env.get 1=some (ZZ (lv:Int))/\i<=sub.len/\c<=2000/\
  (sub.at' i).rs (lv-1) c=sub.rs (lv-1) 1/\n=sub.len-i) sub.len oM ?_ ?_
 ·exact⟨Qw F2.wf,0,1,iS,iS,iS,iS,oM,oM,by cases sub<;>rfl,rfl⟩
 ·rintro n' env hh ⟨F,i,c,g6,g5,g2,g1,hi,hc,P,rfl⟩;have F0:=ao.then F;have l5:=(F.get o2).l1 5;have R:=rc.fr F0;have done:c=sub.rs (lv-1) 1-> ZZ (c:Int)=ZZ (NT.rn k tg ky at' tx sub lv:Nat):=fun e=>by
   rw[NT.rn,if_neg (by intro q;rcases q with q|q;omega;exact q al),<-e]
  by_cases aj:i<sub.len
  ·have U:(i:Int)<sub.len:=oM
   by_cases c3:(c:Int)<=64
   ·obtain⟨kd,ab,ah,ad,ak,aA,aF,I,nx,e1,e2,e3,e4,e5,_⟩:=sub.split i aj;obtain⟨bi,oi,p1,p2⟩:=Sl.ix6 R aj e2;have ph:=NH.at' i (n6.fr F0);rw[e1]at ph;obtain⟨z1,z2,z3,z4,z5,z6,z7⟩:=ph;have cr:=CNs.at' i M;rw[e1]at cr;obtain⟨q0,q1,q2,q3,q4,q5,q6⟩:=p2;simp(disch:=omega) only[evs,seval,fwrap_i64,g6,g5,g2,g1,l5,R.len,U,eq_true c3,p1,q6];have ax:(lv:Int)-1=((lv-1:Nat):Int):=oM
    rw[ax];refine ae (cr.1 (lv-1) hh oM F.wf ⟨z1,z2,z3,z4,z5,z6,trivial⟩) ?_;rintro _ h3 ⟨F3,rfl⟩;have le:=NT.rn_le kd ab ah ad ak I (lv-1);rw[e1,NT.rs_cons,if_neg oM]at P;simp(disch:=omega) only[evs,seval,fwrap_i64,g6];refine rqn ⟨sub.len-(i+1),oM,F.then F3,i+1,c+NT.rn kd ab ah ad ak I (lv-1),iS,iS,iX,iX,oM,oM,by rw[e3];exact P,rfl⟩
   ·simp only[evs,seval,g6,g5,g2,l5,R.len,U,eq_false c3];rw[NT.rs_stop _ _ _ oM]at P;exact⟨F0,done P⟩
  ·have U:¬(i:Int)<sub.len:=oM
   simp only[evs,seval,g6,g5,g2,l5,R.len,eq_false U];rw[NT.at_end' _ _ oM]at P;exact⟨F0,done P⟩
theorem cns:∀t:NT,CNs t
 |.nil=>trivial
 |.cons _ _ _ _ _ _ _ sub nx=>⟨FH (cns sub),cns nx⟩
open Classical in
def NT.rC(k:Nat)(tg ky:Str)(at':List (Str×Str))(tx:Str)(sub:NT):Nat:=if 64<NT.rn k tg ky at' tx sub 6 then 0 else NT.rn k tg ky at' tx sub 6
theorem NT.rC_count{ky:Str}{at':List (Str×Str)}{sub:NT}(h:NT.rC k tg ky at' tx sub≠0):ST.count k tg ky at' tx sub.sh=NT.rC k tg ky at' tx sub:=by
 unfold NT.rC at h|-;split at h
 ·exact absurd rfl h
 ·rename_i q;rw[if_neg q];exact NT.rn_node _ _ _ _ _ _ oM
theorem pR{ky:Str}{at':List (Str×Str)}{sub:NT}(w:WF h)(n:NH h (.cons k tg ky at' tx va vc sub .nil)):
 ay go 229 [.agg [ZY (k:Int),.str tg,.str ky,va,.str tx,vc]] h fun u h'=>Fr [] h h'/\u=ZZ (NT.rC k tg ky at' tx sub:Nat):=by
 obtain⟨I,U,Z,R⟩:=av w [ZY (k:Int),.str tg,.str ky,va,.str tx,vc];have D:=R.la 6
 refine aa ?_;simp[evs,<-U,D];refine ae ((cns (.cons k tg ky at' tx va vc sub .nil)).1 6 I oM Z.wf (n.fr Z)) ?_;rintro _ h2 ⟨J,rfl⟩;by_cases c2:(64:Int)<(NT.rn k tg ky at' tx sub 6:Nat)
 ·simp[evs,eq_true c2];exact⟨Z.then J,by rw[NT.rC,if_pos oM];rfl⟩
 ·simp[evs,eq_false c2];exact⟨Z.then J,by rw[NT.rC,if_neg oM]⟩
theorem wU{ky:Str}{at':List (Str×Str)}{sub:NT}(w:WF h)(n:NH h (.cons k tg ky at' tx va vc sub .nil)):
 ay go 228 [.agg [ZY (k:Int),.str tg,.str ky,va,.str tx,vc]] h fun u h'=>Fr [] h h'/\u=ZZ (if NT.rC k tg ky at' tx sub=0 then 14 else 0):=by
 obtain⟨h1,U,Z,R⟩:=av w [ZY (k:Int),.str tg,.str ky,va,.str tx,vc];have I:=R.la 6
 refine aa ?_;simp only[evs,seval,<-U,I];refine ae (pR Z.wf (n.fr Z)) ?_;rintro _ D ⟨J,rfl⟩;by_cases c2:(NT.rC k tg ky at' tx sub:Int)=0
 ·simp only[evs,seval,eq_true c2];exact⟨Z.then J,by rw[if_pos oM]⟩
 ·simp only[evs,seval,eq_false c2];exact⟨Z.then J,by rw[if_neg oM]⟩
theorem M0{s:NT}{ky:Str}{at':List (Str×Str)}{m:ST}(e:s.sh=.cons 1 tg ky at' [] m .nil):∃va vc sub,s=.cons 1 tg ky at' [] va vc sub .nil/\sub.sh=m:=by
 match s,e with
 |.cons k tg2 ky2 a2 tx2 va vc sub nx,e=>
  simp only[NT.sh,ST.cons.injEq]at e;obtain⟨rfl,rfl,rfl,rfl,rfl,e6,Z⟩:=e;match nx,Z with
  |.nil,_=>exact⟨va,vc,sub,rfl,e6⟩
theorem NT.rs_sh:∀(s t:NT),s.sh=t.sh→∀lv c,s.rs lv c=t.rs lv c
 |.nil,.nil,_,_,_=>rfl
 |.cons k tg ky a tx _ _ sub nx,.cons k2 tg2 ky2 a2 tx2 _ _ sub2 nx2,e,lv,c=>by
  simp only[NT.sh,ST.cons.injEq]at e;obtain⟨rfl,rfl,rfl,rfl,rfl,e6,e7⟩:=e;have l:sub.len=sub2.len:=by rw[←NT.sh_len sub,←NT.sh_len sub2,e6]
  have y:sub.keys=sub2.keys:=by rw[←NT.sh_keys sub,←NT.sh_keys sub2,e6]
  have o:OX k tg ky a tx sub↔OX k tg ky a tx sub2:=by unfold OX;rw[l,y]
  rw[NT.rs_cons,NT.rs_cons];have r:NT.rn k tg ky a tx sub lv=NT.rn k tg ky a tx sub2 lv:=by unfold NT.rn;rw[NT.rs_sh sub sub2 e6];rw[propext o]
  rw[r];split
  ·rfl
  ·exact NT.rs_sh nx nx2 e7 _ _
theorem NT.rC_sh{ky:Str}{a:List (Str×Str)}{s t:NT}(e:s.sh=t.sh):NT.rC k tg ky a tx s=NT.rC k tg ky a tx t:=by
 have h:=NT.rs_sh (.cons k tg ky a tx .nils .nils s .nil) (.cons k tg ky a tx .nils .nils t .nil) (by simp only[NT.sh,e]);have h:=h 6 0;rw[NT.rs_cons,NT.rs_cons]at h;have h:NT.rn k tg ky a tx s 6=NT.rn k tg ky a tx t 6:=by simpa[NT.rs]using h
 unfold NT.rC;rw[h]
def RE(k:Nat)(tg ky tx:Str)(sl:List Slo)(sub:PT)(x:Itm)(most e:Int):Prop:=
 if most<1\/64<most then e=1 else if PT.rC k tg ky sl tx sub=0 then e=14 else if gP x=false then e=6 else
  ∃s:NT,s.sh=gH x sub/\e=if NT.rC 1 tg ky (sl.map (att x)) [] s=0\/most<(NT.rC 1 tg ky (sl.map (att x)) [] s:Nat)then 14 else 0
theorem RE.det{ky:Str}{sub:PT}{x:Itm}{Z e U:Int}(a:RE k tg ky tx sl sub x Z e)(b:RE k tg ky tx sl sub x Z U):e=U:=by
 unfold RE at a b;split at a
 ·grind
 rename_i c;rw[if_neg c]at b;split at a
 ·grind
 rename_i c;rw[if_neg c]at b;split at a
 ·grind
 rename_i c;rw[if_neg c]at b;obtain⟨s,R,rfl⟩:=a;obtain⟨t,ht,rfl⟩:=b;rw[NT.rC_sh (R.trans ht.symm)]
abbrev Z6':List V:=[ZY 0,.str [],.str [],.nils,.str [],.nils]
def TrC(h:Heap)(cs:List V):Prop:=∃k tg ky at' tx va vc sub,cs=[ZY ((k:Nat):Int),.str tg,.str ky,va,.str tx,vc]/\NH h (.cons k tg ky at' tx va vc sub .nil)
theorem TrC.fr(a:TrC h cs)(f:Fr [] h h'):TrC h' cs:=let⟨k,tg,ky,at',tx,va,vc,sub,e,n⟩:=a;⟨k,tg,ky,at',tx,va,vc,sub,e,NH.fr f n⟩
theorem TrC.zero:TrC h [ZY 0,.str [],.str [],.nils,.str [],.nils]:=⟨0,[],[],[],[],.nils,.nils,.nil,rfl,oM,SH,iS,⟨rfl,rfl⟩,by simp[NT.len],trivial,trivial⟩
theorem sj{ky:Str}{sub:PT}{x:Itm}{U:Int}(w:WF h)(n:PH h (.cons k tg ky sl tx va vc sub .nil))(g:PG (.cons k tg ky sl tx va vc sub .nil))(a:ItmH h x):
 ay go 227 [.agg [ZY (k:Int),.str tg,.str ky,va,.str tx,vc],.agg x.cells,ZZ U] h fun u h'=>Fr [] h h'/\∃cs e,u=.tup [.agg cs,ZZ e]/\az cs=true/\cs.length=6/\0<=e/\
  (e=0->k=1/\1<=U/\U<=64/\gP x=true/\ST.count 1 tg ky (sl.map (att x)) [] (gH x sub)≠0/\(ST.count 1 tg ky (sl.map (att x)) [] (gH x sub):Int)<=U)/\RE k tg ky tx sl sub x U e/\∀X h2,(∀y∈X,y<h.next)->Fr X h' h2->TrC h2 cs:=by
 obtain⟨h1,ab,aA,a3⟩:=av w [ZY (k:Int),.str tg,.str ky,va,.str tx,vc];obtain⟨h2,ad,ak,a1⟩:=av aA.wf x.cells;obtain⟨h3,ah,ao,R⟩:=av ak.wf [ZY 0,.str [],.str [],.nils,.str [],.nils];have Z:=(aA.then ak).then ao;have n1:=hnx ab
 have n2:=hnx ad
 have n3:=hnx ah
 have op:=ao.get (ak.get a3);have oi:=ao.get a1;have p6{h'}(f:Fr [] h3 h'):=(f.get op).la 6
 have i4{h'}(f:Fr [] h3 h'):=(f.get oi).la 4
 have z6{h'}(o:Own h' h2.next Z6'):=o.la 6
 by_cases c1:U<1
 ·refine aa ?_;simp only[evs,seval,<-ab,<-ad,<-ah,eq_true c1];refine stu Z.wf R ?_;rintro h4 o4 F4 n4;simp only[evs,seval,z6 o4];exact⟨Z.fresh F4 w oM,_,1,rfl,rfl,rfl,oM,(fun e=>by cases e),by rw[RE,if_pos (.inl c1)],fun _ _ _ _=>TrC.zero⟩
 by_cases c2:(64:Int)<U
 ·refine aa ?_;simp only[evs,seval,<-ab,<-ad,<-ah,eq_false c1,eq_true c2];refine stu Z.wf R ?_;rintro h4 o4 F4 n4;simp only[evs,seval,z6 o4];exact⟨Z.fresh F4 w oM,_,1,rfl,rfl,rfl,oM,(fun e=>by cases e),by rw[RE,if_pos (.inr c2)],fun _ _ _ _=>TrC.zero⟩
 have c12:¬(U<1\/64<U):=oM
 refine aa ?_;simp only[evs,seval,<-ab,<-ad,<-ah,eq_false c1,eq_false c2,p6 (Qw Z.wf)];refine aN (pS Z.wf (n.fr Z)) fun h4 F4=>?_;by_cases c3:PT.rC k tg ky sl tx sub=0
 ·rw[if_pos c3];simp only[evs,seval,p6 F4];refine aN (pS F4.wf (n.fr (Z.then F4))) fun h5 F5=>?_;rw[if_pos c3];simp only[evs,seval];refine stu F5.wf ((F4.then F5).get R) ?_;rintro h6 o6 F6 n6;simp only[evs,seval,z6 o6];exact⟨((Z.then F4).then F5).fresh F6 w oM,_,14,rfl,rfl,rfl,oM,(fun e=>by cases e),by rw[RE,if_neg c12,if_pos c3],fun _ _ _ _=>TrC.zero⟩
 rw[if_neg c3];have k1:k=1:=by
  unfold PT.rC at c3;split at c3
  ·exact absurd rfl c3
  ·omega
 simp only[evs,seval,i4 F4];refine aN (qw F4.wf (a.fr (Z.then F4))) fun h5 F5=>?_;have D:=F4.then F5;cases c4:gP x
 ·simp only[evs,seval,i4 D];refine aN (qw F5.wf (a.fr (Z.then D))) fun h6 F6=>?_;rw[c4];simp only[evs,seval];refine stu F6.wf ((D.then F6).get R) ?_;rintro h7 o7 F7 n7;simp only[evs,seval,z6 o7];exact⟨(Z.then (D.then F6)).fresh F7 w oM,_,6,rfl,rfl,rfl,oM,(fun e=>by cases e),by rw[RE,if_neg c12,if_neg c3,if_pos c4],fun _ _ _ _=>TrC.zero⟩
 have aF:¬gP x=false:=by rw[c4];decide
 have hm:x.marks.length<=8:=by
  simp only[gP,okM,be,decide_eq_true_eq]at c4;exact c4.2.2.1
 simp only[evs,seval,p6 D,i4 D];refine ae ((Nh (.cons k tg ky sl tx va vc sub .nil)).1 x h5 F5.wf (a.fr (Z.then D)) hm (n.fr (Z.then D)) g) ?_;rintro u h6 ⟨s,es,F6,bo,sz,st⟩;subst k1;obtain⟨vA,vC,J,rfl,em⟩:=M0 es;have a4:=D.then F6;obtain⟨a7,bc⟩:=st [] h6 iS (Qw F6.wf);obtain⟨bi,a9,p1,p2⟩:=Sl.ix6 bc (i:=0) (QH Nat.zero_lt_one (Qt rfl)) (r:=[]) rfl;obtain⟨q0,q1,q2,q3,q4,q5,q6⟩:=p2;have bh:aP (.ixs 6) [u,ZZ 0]=some (.ptr bi a9):=p1;have on:az [ZY ((1:Nat):Int),.str tg,.str ky,vA,.str [],vC]=true:=by
  have:=NH.ones a7;simpa[NT.cells]using this
 have n6:=F6.next;have br:=a4.next;obtain⟨h7,a6,aE,a5⟩:=av F6.wf [ZY 0,.str [],.str [],.nils,.str [],.nils];simp only[evs,seval,bh,q6,<-a6];refine ac (c':=[ZY ((1:Nat):Int),.str tg,.str ky,vA,.str [],vC]) aE.wf a5 rfl on rfl ?_;rintro h8 o8 F8 n8;have a0:Fr [] h6 h8:=aE.fresh F8 F6.wf (pi _);have aj:=a4.then a0;have c8{h'}(f:Fr [] h8 h'):=(f.get o8).la 6
 have a2{h'}(f:Fr [] h8 h'):NH h' (.cons 1 tg ky (sl.map (att x)) [] vA vC J .nil):=(st [] _ iS (a0.then f)).1;simp only[evs,seval,c8 (Qw F8.wf)];refine ae (wU F8.wf (a2 (Qw F8.wf))) ?_;rintro _ h9 ⟨F9,rfl⟩;by_cases c5:NT.rC 1 tg ky (sl.map (att x)) [] J=0
 ·rw[if_pos c5];simp only[evs,seval,(dI:¬(14:Int)=0)];refine stu F9.wf ((aj.then F9).get R) ?_;rintro bn bf I bt;simp only[evs,seval,z6 bf];exact⟨(Z.then (aj.then F9)).fresh I w oM,_,14,rfl,rfl,rfl,oM,(fun e=>by cases e),by rw[RE,if_neg c12,if_neg c3,if_neg aF];exact⟨J,em,by rw[if_pos (.inl c5)]⟩,fun _ _ _ _=>TrC.zero⟩
 rw[if_neg c5];simp only[evs,seval,c8 F9];refine ae (pR F9.wf (a2 F9)) ?_;rintro _ bn ⟨I,rfl⟩;have cnt:=NT.rC_count c5;rw[em]at cnt;by_cases c6:U<(NT.rC 1 tg ky (sl.map (att x)) [] J:Nat)
 ·simp only[evs,seval,eq_true c6];refine ac (c':=Z6') I.wf (((aj.then F9).then I).get R) rfl rfl rfl ?_;rintro bm aR ax a8;simp only[evs,seval,z6 aR];exact⟨(Z.then ((aj.then F9).then I)).fresh ax w oM,_,14,rfl,rfl,rfl,oM,(fun e=>by cases e),by rw[RE,if_neg c12,if_neg c3,if_neg aF];exact⟨J,em,by rw[if_pos (.inr c6)]⟩,fun _ _ _ _=>TrC.zero⟩
 simp only[evs,seval,eq_false c6,c8 (F9.then I)];refine ac (c':=[ZY ((1:Nat):Int),.str tg,.str ky,vA,.str [],vC]) I.wf (((aj.then F9).then I).get R) rfl on rfl ?_;rintro bm aR ax a8;have r11:=aR.la 6
 simp only[evs,seval,r11];exact⟨(Z.then ((aj.then F9).then I)).fresh ax w oM,_,0,rfl,on,rfl,oM,fun _=>⟨oM,oM,by rw[cnt];exact c5,by rw[cnt];omega⟩,(by rw[RE,if_neg c12,if_neg c3,if_neg aF];exact⟨J,em,by rw[if_neg (fun q=>q.elim c5 c6)]⟩),fun X h12 hX bg=>⟨1,tg,ky,_,[],vA,vC,J,rfl,(st (h2.next::X) h12 (by intro y m;have:=D.next;have:=Z.next;rcases Qy.1 m with rfl|m;omega;have:=hX y m;omega) (Qx (Qx (T:=[h2.next]) ((a0.then F9).then I) ax F6.wf iS iS) bg F6.wf (fun y m=>.inl (by simp at m;simp[m])) (fun y m=>.inl iX))).1⟩⟩
theorem ew{o m:Nat}(e:aH h b o (n+m)=some cs):aH h b o n=some (cs.take n):=by
 simp only[aH]at e|-;cases U:dt h b with
 |none=>rw[U]at e;cases e
 |some C=>
  rw[U]at e;simp only[bA]at e|-;have J:∀(n:Nat)(l:List V),l.length<n->dL n l=none:=by
   intro n;induction n with
   |zero=>intro l Z;omega
   |succ n ih=>
    intro l Z;cases l with
    |nil=>rfl
    |cons a l=>rw[fF,ih l (eV Z)];rfl
  have Z:n+m<=(C.drop o).length:=by grind
  rw[aU _ _ Z]at e;rw[aU _ _ oM];have R:=Sd e;rw[<-R,Tc,Rt oM]
def GK(Ks:List Knd):Prop:=∀q∈Ks,okK q=true/\PG (.cons q.k q.tg q.ky q.sl q.tx q.vs q.vp q.sub .nil)/\1<=q.base/\q.base<=40
def IE(Ks:List Knd)(cap:Int)(x:Itm)(e:Int):Prop:=
 if okI x Ks.length=false then e=6 else∃q e1,Ks[x.type]? =some q/\RE q.k q.tg q.ky q.tx q.sl q.sub x cap e1/\e=if 0<e1 then 14 else 0
theorem IE.det{x:Itm}{e U:Int}(a:IE Ks cap x e)(b:IE Ks cap x U):e=U:=by
 unfold IE at a b;split at a
 ·grind
 rename_i c;rw[if_neg c]at b;obtain⟨q,D,J,r,rfl⟩:=a;obtain⟨I,e2,Z,R,rfl⟩:=b;rw[J]at Z;cases Z;rw[r.det R]
theorem H9{x:Itm}(w:WF h)(rk:Recs Knd.cells 9 h vK Ks)(kh:∀q∈Ks,KndH h q)(gk:GK Ks)(hK:Ks.length<256)(a:ItmH h x):
 ay go 282 [.agg [vK,ZZ cap],.agg x.cells,ZZ 0] h fun u h'=>Fr [] h h'/\∃e:Int,u=ZZ e/\0<=e/\(e=0->okI x Ks.length=true/\jK Ks cap x=0)/\IE Ks cap x e:=by
 have v1:=RI rk;obtain⟨h1,J,D,aj⟩:=av w [vK,ZZ cap];obtain⟨h2,ad,ab,I⟩:=av D.wf x.cells;have n1:=hnx J
 have U:=D.then ab;have oc:=ab.get aj;have c0{h'}(f:Fr [] h2 h'):=(f.get oc).l1 0;have c1{h'}(f:Fr [] h2 h'):=(f.get oc).l1 1;have i1{h'}(f:Fr [] h2 h'):=(f.get I).l1 1;have i4{h'}(f:Fr [] h2 h'):=(f.get I).la 4
 have r0:Fr [] h2 h2:=Qw U.wf;refine aa ?_;simp only[evs,seval,<-J,<-ad,i4 r0,c0 r0,(QI rk U).len];refine aN (pK U.wf (a.fr U) hK) fun h3 F3=>?_;cases d1:okI x Ks.length
 ·simp only[evs,seval];exact⟨U.then F3,6,rfl,oM,(fun e=>by cases e),by rw[IE,if_pos d1]⟩
 have ht:x.type<Ks.length:=by
  simp only[okI,be,decide_eq_true_eq]at d1;exact d1.2.1
 simp only[evs,seval];refine lW [zA 0 3,zL,zA 1 4,zL,zp (.ixs 9) [.l 2,.l 0],za 0,zn (.ld 6 true (.l 0)),zn (.ld 4 true (.v 4)),zA 1 3,zL,zc 227 [.l 3,.l 2,.l 0],zp .mv [.l 0],zp (.ext 0) [.l 0],zp (.ext 1) [.l 1]] _ rfl ?_;have F4:=QW F3.wf [ZY 0,.str [],.str [],.nils,.str [],.nils];have o4:=Ro F3.wf [ZY 0,.str [],.str [],.nils,.str [],.nils];have n4:(halloc h3 [ZY 0,.str [],.str [],.nils,.str [],.nils]).next=h3.next+1:=rfl;generalize halloc h3 [ZY 0,.str [],.str [],.nils,.str [],.nils]=h4 at F4 o4 n4|-;have Z:=F3.then F4;have R:=U.then Z;obtain⟨bk,ok',q,p1,p2,p3,p4⟩:=Rg aW (QI rk R) .u8 (x.type:Int) oM oM;rw[so]at p4;have qm:=Of p4;obtain⟨ak,aA,_⟩:=gk q qm;have p6:aH h4 bk ok' 6=some q.part:=ew (m:=3) p3;simp only[evs,seval,eff,c0 Z,c1 Z,i1 Z,i4 Z,p1,p6];refine ae (sj F4.wf ((kh q qm).fr R) aA (a.fr R)) ?_;rintro _ h5 ⟨F5,cs,e,rfl,on,cl,e0,he,ah,_⟩;have a2:=Z.then F5;obtain⟨a0,aF,q',ao,aR,aE,ax⟩:=Rg aW (QI rk (R.then F5)) .u8 (x.type:Int) oM oM;rw[so,p4]at ax;cases ax;rw[p1]at ao;cases ao;have a3:aH h5 bk ok' 6=some q.part:=ew (m:=3) aE;simp only[evs,eff,cR,fu];refine ac (c':=cs) F5.wf (F5.get o4) cl on (by
  rw[mF _ _ _ (by show 0+cs.length<=6;omega)];simp[V.cells];omega) ?_
 rintro h6 o6 F6 n6;have n3:=F3.next;have a1:=U.next;have n5:=F5.next;simp only[evs,seval,DF,eff,c0 Z,c1 Z,i1 Z,i4 Z,p6];have Fin:=((U.then F3).then (F4.then F5)).fresh F6 w oM;by_cases d2:(0:Int)<e
 ·simp only[seval,eq_true d2];exact⟨Fin,14,rfl,oM,(fun e=>by cases e),by rw[IE,if_neg (by rw[d1];decide)];exact⟨q,e,p4,ah,by rw[if_pos d2]⟩⟩
 ·simp only[seval,eq_false d2];refine⟨Fin,0,rfl,oM,fun _=>?_,by rw[IE,if_neg (by rw[d1];decide)];exact⟨q,e,p4,ah,by rw[if_neg d2]⟩⟩;obtain⟨y1,y2,y3,y4,y5,y6⟩:=he oM;have er:jK Ks cap x=CC q.k q.tg q.ky q.sl q.tx q.sub x cap:=by simp[jK,p4]
  simp only[okK,be,decide_eq_true_eq]at ak;rw[er];unfold CC;rw[if_neg oM,if_neg ak.2,y4,if_neg dI,if_neg (by intro z;rcases z with z|z;exact y5 z;omega)]
def Itm.ent(x:Itm)(b:Int)(k:Bool):List V:=x.cells++[ZZ b,.bool k]
theorem wa{x:Itm}(w:WF h)(rk:Recs Knd.cells 9 h vK Ks)(a:ItmH h x)(ht:x.type<Ks.length):
 ay go 280 [.agg [vK,ZZ cap],.agg x.cells] h fun u h'=>u=.agg (x.ent (di Ks x) false)/\Fr [] h h':=by
 have v1:=RI rk;obtain⟨h1,R,D,ad⟩:=av w [vK,ZZ cap];obtain⟨h2,J,U,I⟩:=av D.wf x.cells;obtain⟨h3,ah,Z,aj⟩:=av U.wf [ZX 0,ZY 0,.str [],.nils,ZZ 0,.bool false];have n1:=hnx R
 have n2:=hnx J
 have ak:=Z;have ab:=D.then (U.then Z);have c0:=(Z.get (U.get ad)).l1 0;have i1:=(Z.get I).l1 1;have i4:=(Z.get I).la 4
 obtain⟨bk,ok',q,p1,p2,p3,p4⟩:=Rg aW (QI rk ab) .u8 (x.type:Int) oM oM;rw[so]at p4;have p6:ai h3 bk (ok'+6)=some (ZZ q.base):=p2 6 oM;have eb:di Ks x=q.base:=by simp[di,p4]
 have u1:bF [ZX 0,ZY 0,.str [],.nils,ZZ 0,.bool false] 0 x.cells=some (x.cells++[ZZ 0,.bool false]):=rfl;have u2:∀b:Int,bF (x.cells++[ZZ 0,.bool false]) 4 [ZZ b]=some (x.ent b false):=fun _=>rfl;refine aa ?_;simp[evs,eff,(iR:x.cells.length=4),u1,u2,<-R,<-J,<-ah,i4,c0,i1,p1,p6];refine ac (c':=x.ent q.base false) Z.wf aj rfl (by show az (x.cells++[ZZ q.base,.bool false])=true;rw[bQ,a.one];rfl) rfl ?_;rintro h4 o4 F4 n4;have ld:=o4.la 6
 simp[evs,DF,ld,i4,c0,i1,p6];exact⟨by rw[eb],ab.fresh F4 w oM⟩
def e6:List V:=[ZY 0,.str [],.str [],.nils,.str [],.nils]
def LL:Str:=[114,111,119]
theorem xv(a n:Nat)(b:Int)(hb:b=n)(h:n≠0):aP (.ib .rem) [ZY (a:Int),ZY b]=some (ZY ((a%n:Nat):Int)):=by
 exact ya5
theorem MR(a n:Nat)(b:Int)(Z:b=n)(h:n≠0)(U:a<256):aP (.ib .quo) [ZY (a:Int),ZY b]=some (ZY ((a/n:Nat):Int)):=by
 subst Z;have:=RQ a n;rw[iB _ _ _ oM,show Int.tdiv (a:Int) n=((a/n:Nat):Int)from(Int.ofNat_tdiv a n).symm];generalize a/n=q at *;rw[fwrap_u8 _ oM oM]
theorem ER(w:WF h)(hb:b<256):
 ay go 42 [ZY (b:Int)] h fun u h'=>Fr [] h h'/\∃kb Ks,u=.slice kb 0 3 3/\h.next<=kb/\Own h' kb (Ks.flatMap Knd.cells)/\(∀Z h'',(∀z∈Z,z<h.next\/z=kb)->Fr Z h' h''->∀q∈Ks,KndH h'' q)/\GK Ks/\okR Ks 12=true/\Ks.length=3/\∀q∈Ks,6<=q.base/\0<=q.pool/\q.pool<=16:=by
 obtain⟨h1,aR,a0,bn⟩:=av w [.str [110],ZY 3,.str [],.str [116,101,120,116],ZY 1,.str []];obtain⟨h2,ao,aj,bc⟩:=av a0.wf [ZY 3,.str [],.str [],.nils,.str [],.nils];obtain⟨h3,a4,I,br⟩:=av aj.wf [ZY 0,.str [],.str [],.nils,.str [],.nils];have n1:=hnx aR
 have n2:=hnx ao
 have n3:=hnx a4
 refine aa ?_;simp only[evs,seval,<-aR,<-ao,<-a4];refine stu I.wf br ?_;rintro h4 o4 F4 n4;obtain⟨h5,a2,a3,a8⟩:=av F4.wf [.str [105,100],ZY 2,.str []];obtain⟨h6,a5,ab,bo⟩:=av a3.wf [ZY 2,.str [],.str [],.nils,.str [35],.nils,ZY 4,.str [],.str [],.nils,.str [],.nils];obtain⟨h7,aF,D,bh⟩:=av ab.wf [ZY 0,.str [],.str [],.nils,.str [],.nils];simp only[evs,seval,<-a2,<-a5,<-aF];refine stu D.wf bh ?_;rintro h8 o8 F8 n8;obtain⟨h9,aA,ax,bg⟩:=av F8.wf [ZY 3,.str [],.str [],.nils,.str [],.nils];obtain⟨ha,aE,ah,bm⟩:=av ax.wf [.str [111,102],ZY 2,.str []];obtain⟨bu,ad,U,a6⟩:=av ah.wf [ZY 1,.str [98],.str [98,50],.nils,.str [],.slice h8.next 0 1 1,ZY 5,.str [116,97,103],.str [],.slice h9.next 0 1 1,.str [],.nils];obtain⟨hc,a1,R,bi⟩:=av U.wf [ZY 0,.str [],.str [],.nils,.str [],.nils];simp only[evs,seval,<-aA,<-aE,<-ad,<-a1];refine stu R.wf bi ?_;rintro hd od Fd nd;have bz:h4.next=h2.next+1:=oM
 have n5:=hnx a2
 have n6:=hnx a5
 have n7:=hnx aF
 have n9:=hnx aA
 have na:=hnx aE
 have nb:=hnx ad
 have nc:=hnx a1
 have a7:=a3.then (ab.then D);have ak:=ax.then (ah.then (U.then R));have bv:=Fd.own _ _ oO (ak.get (F8.own _ _ oO (a7.get o4)));have bt:=Fd.own _ _ oO (ak.get o8);have p4:=bv.la 6
 have p8:=bt.la 6
 have pd:=od.la 6
 let k0:Knd:=⟨1,LL,[],[([110],3,[]),([116,101,120,116],1,[])],[],.slice h.next 0 2 2,.slice h1.next 0 1 1,.cons 3 [] [] [] [] .nils .nils .nil .nil,10+((b%7:Nat):Int),false,((b%4:Nat):Int)⟩;let k1:Knd:=⟨1,[104,101,97,100],[104],[([105,100],2,[])],[],.slice h4.next 0 1 1,.slice h5.next 0 2 2,.cons 2 [] [] [] [35] .nils .nils .nil (.cons 4 [] [] [] [] .nils .nils .nil .nil),6+((b%3:Nat):Int),true,((b/4%3:Nat):Int)⟩;let k2:Knd:=⟨1,LL,[],[],[],.nils,.slice ha.next 0 2 2,.cons 1 [98] [98,50] [] [] .nils (.slice h8.next 0 1 1) (.cons 3 [] [] [] [] .nils .nils .nil .nil) (.cons 5 [116,97,103] [] [([111,102],2,[])] [] (.slice h9.next 0 1 1) .nils .nil .nil),20,decide (((b%16:Nat):Int)=15),((b/8%3:Nat):Int)⟩;have m7:b%7<7:=QR _ dI;have m4:b%4<4:=QR _ dI;have m3:b%3<3:=QR _ dI;have bB:b/4%3<3:=QR _ dI;have bw:b/8%3<3:=QR _ dI;obtain⟨he,a9,J,bf⟩:=av Fd.wf (k0.cells++(k1.cells++(k2.cells++[])));have t8{B:Nat}{cs:List V}(o:Own h8 B cs)(l:B<bu.next):=J.get (Fd.own _ _ oO (ak.get o));have t4{B:Nat}{cs:List V}(o:Own h4 B cs)(l:B<h6.next):=t8 (F8.own _ _ oO (a7.get o)) oM;have x1:=t4 (F4.own _ _ oO ((aj.then I).get bn)) oM;have x2:=t4 (F4.own _ _ oO (I.get bc)) oM;have x5:=t8 (F8.own _ _ oO ((ab.then D).get a8)) oM;have x6:=t8 (F8.own _ _ oO (D.get bo)) oM;have x9:=J.get (Fd.own _ _ oO ((ah.then (U.then R)).get bg));have xa:=J.get (Fd.own _ _ oO ((U.then R).get bm));have xb:=J.get (Fd.own _ _ oO (R.get a6));have bE:h.next<=h2.next:=oM
 have FF:=((((((a0.then (aj.then I)).fresh F4 w oM).then a7).fresh F8 w oM).then ak).fresh Fd w oM).then J;have gk:GK [k0,k1,k2]:=by
  intro q m;simp only[Qy,Rz,or_false]at m;rcases m with rfl|rfl|rfl
  ·refine⟨?_,by simp[PG,PT.len,k0],(oM:1<=10+((b%7:Nat):Int)),show 10+((b%7:Nat):Int)<=40 by omega⟩;have:okB (10+((b%7:Nat):Int))=true:=by simp only[okB,be,decide_eq_true_eq];omega
   show(okB (10+((b%7:Nat):Int))&&_)=true;rw[this];rfl
  ·refine⟨?_,by simp[PG,PT.len,k1],(oM:1<=6+((b%3:Nat):Int)),show 6+((b%3:Nat):Int)<=40 by omega⟩;have:okB (6+((b%3:Nat):Int))=true:=by simp only[okB,be,decide_eq_true_eq];omega
   show(okB (6+((b%3:Nat):Int))&&_)=true;rw[this];rfl
  ·exact⟨rfl,by simp[PG,PT.len,k2],(oM:(1:Int)<=20),show(20:Int)<=40 by omega⟩
 have fin:Fr [] h he/\∃kb Ks,V.slice hd.next 0 3 3=.slice kb 0 3 3/\h.next<=kb/\Own he kb (Ks.flatMap Knd.cells)/\(∀Z h'',(∀z∈Z,z<h.next\/z=kb)->Fr Z he h''->∀q∈Ks,KndH h'' q)/\GK Ks/\okR Ks 12=true/\Ks.length=3/\∀q∈Ks,6<=q.base/\0<=q.pool/\q.pool<=16:=by
  refine⟨FF,hd.next,[k0,k1,k2],rfl,oM,bf,?_,gk,?_,rfl,?_⟩
  rotate_left 2
  ·grind
  ·intro Z H hZ f;have go{B:Nat}{cs:List V}(o:Own he B cs)(l:h.next<=B/\B<hd.next):=f.own _ _ (fun m=>by have:=hZ _ m;omega) o;have x1:=go x1 oM;have x2:=go x2 oM;have x5:=go x5 oM;have x6:=go x6 oM;have x9:=go x9 oM;have xa:=go xa oM;have xb:=go xb oM;intro q m;simp only[Qy,Rz,or_false]at m;rcases m with rfl|rfl|rfl
   ·exact⟨Qt rfl,RM x1 rfl,Qt rfl,RM x2 rfl,Qt rfl,⟨Qt rfl,⟨rfl,rfl⟩,Qt rfl,⟨rfl,rfl⟩,Qt rfl,trivial,trivial⟩,trivial⟩
   ·exact⟨Qt rfl,RM x5 rfl,Qt rfl,RM x6 rfl,Qt rfl,⟨Qt rfl,⟨rfl,rfl⟩,Qt rfl,⟨rfl,rfl⟩,Qt rfl,trivial,⟨Qt rfl,⟨rfl,rfl⟩,Qt rfl,⟨rfl,rfl⟩,Qt rfl,trivial,trivial⟩⟩,trivial⟩
   ·exact⟨Qt rfl,⟨rfl,rfl⟩,Qt rfl,RM xb rfl,Qt rfl,⟨Qt rfl,⟨rfl,rfl⟩,Qt rfl,RM x9 rfl,Qt rfl,⟨Qt rfl,⟨rfl,rfl⟩,Qt rfl,⟨rfl,rfl⟩,Qt rfl,trivial,trivial⟩,⟨Qt rfl,RM xa rfl,Qt rfl,⟨rfl,rfl⟩,Qt rfl,trivial,trivial⟩⟩,trivial⟩
  ·have:=QM.2 fun q m=>(gk q m).1;unfold okR;rw[this];rfl
 simp(disch:=omega) only[evs,seval,fwrap_i64,p4,p8,pd,xv b 7 7 rfl dI,xv b 4 4 rfl dI,xv b 3 3 rfl dI,MR b 4 4 rfl dI hb,xv (b/4) 3 3 rfl dI,xv b 16 16 rfl dI,MR b 8 8 rfl dI hb,xv (b/8) 3 3 rfl dI];rw[a9]at fin;exact fin
theorem NS{call:aD}{op:IOp}{o:Option (Nat×Nat)}{R:List Nat}{Z:List (Nat×Nat×Nat)}{U:List (Nat×Nat)}(A B:List IStep)(J:A.length=k)(lc:∀loc,jM loc env op=some (cs,o))
 (x:WD call env ((A.map fun s=>(s,none))++(⟨none,op,none⟩,some (eZ h.next o,cs))::B.map fun s=>(s,none)) [] [halloc h cs] (halloc h cs) (DF call (A++⟨none,op,none⟩::B) Z U env (Q .norm))):
 W call (.dops (A++⟨none,op,none⟩::B) [k] R Z U) env h Q:=by
 refine(Ck _ _ _ _ _ _).2 ?_;have e:∀loc,lay call env [k] (⟨none,op,none⟩::B) k loc h=some ((⟨none,op,none⟩,some (eZ h.next o,cs))::B.map (fun s=>(s,none)),halloc h cs):=by
  intro loc;have c:List.contains [k] k=true:=by simp
  simp only[lay,c,cond_true,lc,j6 B (k+1) _ _ (Sz k)]
 rw[xR A 0 [] oM e,jq];exact x
theorem zG{loc:List V}{op:IOp}{o:Option (Nat×Nat)}(n:Nat)(e:jM loc env op=some (cs,o)):cL loc env op (eZ n o) cs=true:=by
 cases o with
 |none=>simp only[cL,e,lid,eZ,fL,dZ,Sb]
 |some q=>obtain⟨q,r⟩:=q;simp only[cL,e,lid,eZ,fL,dZ,Sb]
def JV:List Str:=[[],[97],[114,111,119],[116,119,111,32,119,111,114,100,115],[32,32],[126,33,45,44],[97,32,108,111,110,103,101,114,32,116,101,120,116,32,111,102,32,116,104,105,115,32,107,105,110,100],[57]]
theorem OH(loc:List V)(env:T V)(n:Nat):cL loc env (.bs [(.str [])] [(0,1),(1,1),(2,1),(3,1),(4,1),(5,1),(6,1),(7,1)] 8 [.c (.str []),.c (.str [97]),.c (.str [114,111,119]),.c (.str [116,119,111,32,119,111,114,100,115]),.c (.str [32,32]),.c (.str [126,33,45,44]),.c (.str [97,32,108,111,110,103,101,114,32,116,101,120,116,32,111,102,32,116,104,105,115,32,107,105,110,100]),.c (.str [57])]) (.slice n 0 8 8) (JV.map V.str)=true:=zG (o:=some (8,8)) n rfl
theorem Bx(b n k:Nat):eZ b (some (n,k))=.slice b 0 n k:=rfl
abbrev Ov:List IStep:=[zp (.ixa 4 1) [.v 1,.c (ZZ 0)],zL,zp (.ib .rem) [.l 0,.c (ZY 60)],zp (.conv .u64) [.l 0],zp (.ib .add) [.c (ZX 1),.l 0],zp (.ixa 4 1) [.v 1,.c (ZZ 1)],zL,zp (.ib .rem) [.l 0,.c (ZY 3)]]
abbrev Ou:List IStep:=[zp (.ixa 4 1) [.v 1,.c (ZZ 2)],zL,zp (.ib .rem) [.l 0,.c (ZY 8)],zp (.ixs 1) [.l 3,.l 0],zL,zp (.build [(ZX 0),(ZY 0),(.str []),.nils] [(0,1),(1,1),(2,1)]) [.l 9,.l 6,.l 0],zn (.al [(ZX 0),(ZY 0),(.str []),.nils]),zn (.st 4 (.l 0) (.l 1))]
theorem PP(x:Int)(a n:Nat)(b:Int)(hx:x=a)(Z:b=n)(h:n≠0):aP (.ib .rem) [ZZ x,ZZ b]=some (ZZ ((a%n:Nat):Int)):=by
 subst Z;subst hx;rw[iA _ _ _ oM];congr 2
theorem Bf(l:List Str):(l.flatMap sS).length=l.length:=by
 induction l with
 |nil=>rfl
 |cons a l ih=>simp only[QT,Qv,ih,QB];show 1+_=_;omega
theorem _root_.Go.Ev.Gs.keep(g:Gs h B e v cs)(f:Fr Z h h')(U:∀z∈Z,z<B):Gs h' B e v cs:=by
 rcases g with z|⟨b,n,I,R,J,z4,o⟩
 ·exact .inl z
 ·exact .inr ⟨b,n,I,R,J,z4,f.own _ _ (fun m=>by have:=U _ m;omega) o⟩
theorem _root_.Go.Ev.Gs.vb(g:Gs h B e v cs):∀z∈vb v,B<=z:=by
 rcases g with⟨rfl,_⟩|⟨b,n,rfl,_,_,z4,_⟩
 ·simp[Go.Ev.vb]
 ·intro z m;simp[Go.Ev.vb]at m;omega
theorem _root_.Go.Ev.Gs.le{C:Nat}(g:Gs h B e v cs)(l:C<=B):Gs h C e v cs:=by
 exact yN
structure ItmG(N:Nat)(h:Heap)(x:Itm):Prop where
 k:x.key<18446744073709551616
 t:x.type<256
 g:Gs h N 1 x.vm (x.marks.flatMap sS)
 n:x.marks.length<=4096
 l:x.text.length<16777216
theorem ItmG.H{x:Itm}(a:ItmG N h x):ItmH h x:=⟨a.k,a.t,Sl.a (SM a.g (by rw[Bf];exact(Sj _).symm) oM),a.n,a.l⟩
theorem ItmG.keep{x:Itm}(a:ItmG N h x)(f:Fr Z h h')(d:∀z∈Z,z∉vb x.vm):ItmG N h' x:=by
 refine⟨a.k,a.t,?_,a.n,a.l⟩;rcases a.g with z|⟨b,n,z1,z2,z3,z4,o⟩
 ·exact .inl z
 ·exact yaY
def mk3:List Str:=[[97],[98,50],[107,101,121]]
theorem xH{b0 b1 b2 b3:Nat}(w:WF h)(h0:b0<256)(b7:b1<256)(b6:b2<256)(bK:b3<256):
 ay go 214 [.agg [ZY (b0:Int),ZY (b1:Int),ZY (b2:Int),ZY (b3:Int)]] h fun u h'=>Fr [] h h'/\∃x:Itm,u=.agg x.cells/\ItmG h.next h' x:=by
 obtain⟨h1,aF,aR,R⟩:=av w [ZY (b0:Int),ZY (b1:Int),ZY (b2:Int),ZY (b3:Int)];obtain⟨h2,aE,Z,bh⟩:=av aR.wf [ZX 0,ZY 0,.str [],.nils];have l0:=(Z.get R).l1 0;have l1:=(Z.get R).l1 1;have l2:=(Z.get R).l1 2;have l3:=(Z.get R).l1 3;refine aa ?_;simp only[evs,seval,<-aF,<-aE];have n1:=hnx aF
 have n2:=hnx aE
 refine NS (op:=.bs [(.str [])] [(0,1),(1,1),(2,1),(3,1),(4,1),(5,1),(6,1),(7,1)] 8 [.c (.str []),.c (.str [97]),.c (.str [114,111,119]),.c (.str [116,119,111,32,119,111,114,100,115]),.c (.str [32,32]),.c (.str [126,33,45,44]),.c (.str [97,32,108,111,110,103,101,114,32,116,101,120,116,32,111,102,32,116,104,105,115,32,107,105,110,100]),.c (.str [57])]) Ov Ou rfl (fun _=>rfl) (cs:=JV.map V.str) ?_;obtain⟨h3,a7,U,a8⟩:=av Z.wf (JV.map V.str);have bY:=U;have m0:=(U.get (Z.get R)).l1 0;have m1:=(U.get (Z.get R)).l1 1;have m2:=(U.get (Z.get R)).l1 2;obtain⟨h4,a0,aA,bi⟩:=av U.wf [ZX 0,ZY 0,.str [],.nils];have n3:=hnx a7
 have xa:∀i:Nat,i<4->aP (.ixa 4 1) [.ptr h.next 0,ZZ (i:Int)]=some (.ptr h.next i):=fun i hi=>by rw[iC 1 h.next 0 4 _ _ oM oM];simp
 have x0:aP (.ixa 4 1) [.ptr h.next 0,ZZ 0]=some (.ptr h.next 0):=xa 0 oM;have x1:aP (.ixa 4 1) [.ptr h.next 0,ZZ 1]=some (.ptr h.next 1):=xa 1 oM;have x2:aP (.ixa 4 1) [.ptr h.next 0,ZZ 2]=some (.ptr h.next 2):=xa 2 oM;have x3:aP (.ixa 4 1) [.ptr h.next 0,ZZ 3]=some (.ptr h.next 3):=xa 3 oM;have cc:b2%8<8:=QR _ dI;obtain⟨bt,ot,x8,y8,_⟩:=Sl.ix (esz:=1) (v:=.slice h2.next 0 8 8) (RM a8 rfl) .u8 ((b2%8:Nat):Int) oM oM;obtain⟨tx,tb⟩:∃tx,JV[b2%8]? =some tx/\tx.length<30:=by
  have:b2%8<8:=QR _ dI;match b2%8,this with
  |0,_|1,_|2,_|3,_|4,_|5,_|6,_|7,_=>exact⟨_,rfl,dI⟩
 have t0:ai h3 bt ot=some (.str tx):=by grind
 simp(disch:=omega) only[evs,seval,eff,m0,m1,m2,<-a7,Ov,Ou,cR,OH,Bx,xv b0 60 60 rfl dI,xv b1 3 3 rfl dI,xv b2 8 8 rfl dI,t0,<-a0,x0,x1,x2,x8,fwrap_u64];refine stu aA.wf bi ?_;rintro h5 o5 F5 n5;have F4:=aA;have k0:=(F4.get (U.get (Z.get R))).l1 0;have k1:=(F4.get (U.get (Z.get R))).l1 1;have k2:=(F4.get (U.get (Z.get R))).l1 2;have FF:=(aR.then (Z.then (U.then aA))).fresh F5 w oM;have ob:=F5.own _ _ oO (F4.get (U.get (Z.get R)));obtain⟨ce,ci,br,ca,_⟩:=Sl.ix (esz:=1) (v:=.slice h2.next 0 8 8) (RM (F4.get a8) rfl) .u8 ((b2%8:Nat):Int) oM oM;rw[x8]at br;cases br;have t4:ai h4 bt ot=some (.str tx):=by grind
 have o2:=F5.own _ _ oO (F4.get (U.get bh));simp only[evs,seval,DF,m0,m1,m2,k0,k1,k2,t0,t4];have n4:=hnx a0
 refine aw (fun n env hh=>Fr [] h hh/\∃(i:Nat)(vm:V)(ms:List Str),env.get 4=some (ZZ i)/\env.get 3=some (.ptr h3.next 0)/\env.get 1=some (.ptr h.next 0)/\env.get 2=some (.ptr h1.next 0)/\i<=3/\
  Own hh h.next [ZY (b0:Int),ZY (b1:Int),ZY (b2:Int),ZY (b3:Int)]/\Own hh h1.next [ZX 0,ZY 0,.str [],.nils]/\Own hh h3.next [ZX (1+((b0%60:Nat):Int)),ZY ((b1%3:Nat):Int),.str tx,vm]/\Gs hh h4.next 1 vm (ms.flatMap sS)/\h4.next<=hh.next/\ms.length<=i/\n=3-i) 3 oM ?_ ?_
 ·exact⟨FF,0,.nils,[],iS,iS,iS,iS,oM,ob,o2,o5,.inl ⟨rfl,rfl⟩,oM,iS,rfl⟩
 ·rintro n env hh ⟨F,i,vm,ms,g4,g3,g1,g2,hi,ob,o2,oi,G,nx,ml,rfl⟩;have p3:=ob.l1 3;have v3:=oi.l1 3;by_cases ch:i<3
  ·have a6:(i:Int)<3:=oM
   obtain⟨s,xs⟩:∃s,aP (.sh false) [ZY (b3:Int),ZZ (i:Int)]=some (ZY s):=⟨_,ut _ _ _ _ oM⟩;obtain⟨y,xy⟩:∃y,aP (.ib .and) [ZY s,ZY 1]=some (ZY y):=⟨_,NP _ _ _⟩;by_cases c:0<y
   ·obtain⟨a1,ab,J,aj⟩:=av F.wf [.str [97],.str [98,50],.str [107,101,121]];have m3:(i+b3/8)%3<3:=QR _ dI;have xq:∀{H},Fr [] a1 H->∃bs os,aP (.ixs 1) [.slice hh.next 0 3 3,ZZ (((i+b3/8)%3:Nat):Int)]=some (.ptr bs os)/\ai H bs os=(mk3.map V.str)[(i+b3/8)%3]? :=by
     intro H f;obtain⟨bs,os,xq,yq,_⟩:=Sl.ix (esz:=1) (v:=.slice hh.next 0 3 3) (RM (f.get aj) rfl) .i64 (((i+b3/8)%3:Nat):Int) oM oM;refine⟨bs,os,xq,?_⟩;have:=yq 0 oM;rw[so,Sj,RG,RG]at this;exact this
    obtain⟨mk,em⟩:∃mk,(mk3.map V.str)[(i+b3/8)%3]? =some (.str mk):=by
     match(i+b3/8)%3,m3 with
     |0,_|1,_|2,_=>exact⟨_,rfl⟩
    rw[em]at xq;obtain⟨bs,os,bu,t1⟩:=xq (Qw J.wf);obtain⟨a2,a5,ak,bm⟩:=av J.wf [.str mk];obtain⟨_,_,bg,t2⟩:=xq ak;rw[bu]at bg;cases bg;have bB:=hnx ab
    have bT:=hnx a5
    have D:=J.then ak;have bo:=(J.get ob).l1 3;have bP:=(D.get ob).l1 3;have bw:=(J.get oi).l1 3;have bz:=(D.get oi).l1 3;simp(disch:=omega) only[evs,seval,eff,fwrap_i64,g4,g3,g1,a6,x3,p3,xs,xy,eq_true c,v3,<-ab,MR b3 8 8 rfl dI bK,fwrap_i64,PP ((i:Int)+((b3/8:Nat):Int)) (i+b3/8) 3 3 oM rfl dI,bu,t1,<-a5,bo];have ax:=Bf ms;refine RB (bytes:=16) ak.wf (G.fr D) (RM bm rfl) oM oM rfl oM (by rw[ax];omega) ?_;intro ah a3 G3 e3 F3;have I:=G.vb;have bc:=F3.own _ _ (fun m=>by have:=I _ m;omega) (D.get oi);have bN:ai a3 h.next 3=some (ZY (b3:Int)):=(F3.own _ _ (fun m=>by have:=I _ m;omega) (D.get ob)).ld1 3;have bI:=F3.next;have c1:ah.one=true:=by
     rcases G3 with⟨rfl,_⟩|⟨b,n,rfl,_⟩<;>rfl
    simp only[evs,seval,eff,g3];refine ac F3.wf bc (by rw[aq c1];rfl) (by rw[aq c1];simp only[af,ag,c1];rfl) (by rw[aq c1];rfl) ?_;rintro a4 a9 ad bv;simp(disch:=omega) only[evs,seval,DF,fwrap_i64,g4,p3,bo,v3,bw,bz,t1];have FN:=(Ru w (F.then D) F3 (fun y hy=>by have:=I _ hy;omega)).fresh ad w oM;have eq:(ms++[mk]).flatMap sS=ms.flatMap sS++[.str mk]:=by simp[sS]
    refine rqn ⟨3-(i+1),oM,FN,i+1,ah,ms++[mk],iS,iX,iX,iX,oM,ad.own _ _ oO (F3.own _ _ (fun m=>by have:=I _ m;omega) (D.get ob)),ad.own _ _ oO (F3.own _ _ (fun m=>by have:=I _ m;omega) (D.get o2)),a9,by rw[eq];exact G3.keep ad oO,oM,by simp;omega,rfl⟩
   ·simp(disch:=omega) only[evs,seval,fwrap_i64,g4,g1,a6,x3,p3,xs,xy,eq_false c];refine rqn ⟨3-(i+1),oM,F,i+1,vm,ms,iS,iX,iX,iX,oM,ob,o2,oi,G,nx,oM,rfl⟩
  ·have bn:¬(i:Int)<3:=oM
   by_cases c:(240:Int)<=b3
   ·obtain⟨a1,ab,J,aj⟩:=av F.wf [.str [97],.str [97]];simp only[evs,seval,g4,g3,g1,eq_false bn,x3,p3,eq_true c,v3,<-ab];have ax:=Bf ms;have bB:=hnx ab
    refine RB (bytes:=16) J.wf (G.fr J) (RM aj rfl) oM oM rfl oM (by rw[ax];omega) ?_;intro ah a3 G3 e3 F3;have I:=G.vb;have bc:=F3.own _ _ (fun m=>by have:=I _ m;omega) (J.get oi);have bI:=F3.next;have c1:ah.one=true:=by
     rcases G3 with⟨rfl,_⟩|⟨b,n,rfl,_⟩<;>rfl
    simp only[evs,seval,g3];refine ac F3.wf bc (by rw[aq c1];rfl) (by rw[aq c1];simp only[af,ag,c1];rfl) (by rw[aq c1];rfl) ?_;rintro a4 a9 ad bv;have FN:=(Ru w (F.then J) F3 (fun y hy=>by have:=I _ hy;omega)).fresh ad w oM;have eq:(ms++[[97],[97]]).flatMap sS=ms.flatMap sS++[.str [97],.str [97]]:=by simp[sS]
    have bL:=ad.own _ _ oO (F3.own _ _ (fun m=>by have:=I _ m;omega) (J.get o2));have G4:Gs a4 h4.next 1 ah ((ms++[[97],[97]]).flatMap sS):=by rw[eq];exact G3.keep ad oO
    have ld:=(a9).la 4
    simp only[evs,seval,g3,g2,ld];refine ac (v:=.agg [ZX (1+((b0%60:Nat):Int)),ZY ((b1%3:Nat):Int),.str tx,ah]) (FN).wf (bL) rfl (by show az [_,_,_,_]=true;simp only[af,ag,c1];rfl) rfl ?_;rintro z o5 ao bE;have bf:=o5.la 4
    simp only[evs,seval,g2,bf];refine⟨(FN).fresh ao w oM,⟨1+b0%60,b1%3,tx,ms++[[97],[97]],ah⟩,rfl,by show 1+b0%60<_;omega,by show b1%3<256;omega,?_,by show(ms++[[97],[97]]).length<=4096;simp;omega,by show tx.length<16777216;omega⟩;exact((G4).keep ao oO).le oM
   ·simp only[evs,seval,g4,g3,g1,eq_false bn,x3,p3,eq_false c];have c1:vm.one=true:=by
     rcases G with⟨rfl,_⟩|⟨b,n,rfl,_⟩<;>rfl
    have ld:=(oi).la 4
    simp only[evs,seval,ld,g2];refine ac (v:=.agg [ZX (1+((b0%60:Nat):Int)),ZY ((b1%3:Nat):Int),.str tx,vm]) (F).wf (o2) rfl (by show az [_,_,_,_]=true;simp only[af,ag,c1];rfl) rfl ?_;rintro z o5 ao bE;have bf:=o5.la 4
    simp only[evs,seval,g2,bf];refine⟨(F).fresh ao w oM,⟨1+b0%60,b1%3,tx,ms,vm⟩,rfl,by show 1+b0%60<_;omega,by show b1%3<256;omega,?_,by show(ms).length<=4096;omega,by show tx.length<16777216;omega⟩;exact((G).keep ao oO).le oM
def q4(q:Nat×Nat×Nat×Nat):List V:=[ZY (q.1:Int),ZY (q.2.1:Int),ZY (q.2.2.1:Int),ZY (q.2.2.2:Int)]
structure IL(N:Nat)(h:Heap)(v:V)(X:List Itm):Prop where
 g:Gs h N 4 v (X.flatMap Itm.cells)
 i:∀x∈X,ItmG N h x
 d:∀x∈X,∀z∈vb v,z∉vb x.vm
 n:(X.map Itm.key).Nodup
theorem IL.fr{X:List Itm}(a:IL N h v X)(f:Fr [] h h'):IL N h' v X:=⟨a.g.fr f,fun x m=>(a.i x m).keep f iS,a.d,a.n⟩
theorem IL.keep{X:List Itm}(a:IL N h v X)(f:Fr Z h h')(l:∀z∈Z,z<N):IL N h' v X:=
 ⟨a.g.keep f l,fun x m=>(a.i x m).keep f (fun z hz c=>by have:=l z hz;have:=(a.i x m).g.vb z c;omega),a.d,a.n⟩
theorem ItmG.le{M:Nat}{x:Itm}(a:ItmG N h x)(l:M<=N):ItmG M h x:=⟨a.k,a.t,a.g.le l,a.n,a.l⟩
theorem IL.le{M:Nat}{X:List Itm}(a:IL N h v X)(l:M<=N):IL M h v X:=⟨a.g.le l,fun x m=>(a.i x m).le l,a.d,a.n⟩
theorem IL.rs{X:List Itm}(a:IL N h v X):Recs Itm.cells 4 h v X:=SM a.g (au b8 X) oM
theorem _root_.Go.Ev.Gs.lt(w:WF h)(g:Gs h B e v cs):∀z∈vb v,z<h.next:=by
 rcases g with⟨rfl,_⟩|⟨b,n,rfl,_,_,_,o⟩
 ·simp[Go.Ev.vb]
 ·intro z m;simp[Go.Ev.vb]at m;have:=o.lt w;omega
structure Ent where
 x:Itm
 b:Int
 kn:Bool
def Ent.cells(e:Ent):List V:=e.x.ent e.b e.kn
theorem aJ(e:Ent):e.cells.length=6:=rfl
def IxOf(m:Nat->Option Nat)(E:List Ent):Prop:=∀k j,m k=some j↔∃e,E[j]? =some e/\e.x.key=k
def okZ(E:List Ent):Prop:=∀e∈E,1<=e.b/\e.b<=2305843009213693952
theorem okZ.sum_nn:∀{E:List Ent},okZ E→0≤(E.map Ent.b).sum
 |[],_=>by simp
 |e::E,h=>by
  have h1:=h e iS;have h2:=okZ.sum_nn (E:=E) fun x m=>h x iX;simp only[List.map_cons,List.sum_cons];omega
theorem okZ.take{E:List Ent}(h:okZ E)(i:Nat):okZ (E.take i):=fun e m=>h e (QP m)
theorem okZ.drop{E:List Ent}(h:okZ E)(i:Nat):okZ (E.drop i):=fun e m=>h e (Sf m)
theorem okZ.split{E:List Ent}(i:Nat):(E.map Ent.b).sum=((E.take i).map Ent.b).sum+((E.drop i).map Ent.b).sum:=by
 rw[<-List.sum_append,<-RL,RH]
theorem GH{E:List Ent}{e:Ent}(h:E[i]? =some e):((E.take (i+1)).map Ent.b).sum=((E.take i).map Ent.b).sum+e.b:=by
 rw[QS,h];simp
theorem wu{E:List Ent}(a:Recs Ent.cells 6 h v E)(hE:E.length<=4096)(ok:okZ E):
 ay go 284 [v] h fun u h'=>h=h'/\∃t:Int,u=ZZ t/\(4611686018427387904<t↔4611686018427387904<(E.map Ent.b).sum):=by
 refine aa ?_;simp only[evs];refine aw (fun n env U=>h=U/\∃i:Nat,env.get 4=some (ZZ i)/\env.get 3=some (ZX ((E.take i).map Ent.b).sum)/\env.get 0=some v/\i<=E.length/\((E.take i).map Ent.b).sum<=4611686018427387904/\n=E.length-i) E.length oM ?_ ?_
 ·exact⟨rfl,0,iS,iS,iS,oM,iS,rfl⟩
 ·rintro n env U ⟨rfl,i,g4,g3,g0,D,J,rfl⟩;have nn:=(ok.take i).sum_nn;by_cases c:i<E.length
  ·obtain⟨b,o,e,p1,I,_,Z⟩:=a.ix aJ .i64 (i:Int) oM oM;rw[so]at Z;have b4:ai h b (o+4)=some (ZZ e.b):=I 4 oM;have ob:=ok e (Of Z);have R:=GH Z;have c1:aB .u64 e.b=e.b:=fwrap_u64 _ oM oM;have c2:aB .u64 (((E.take i).map Ent.b).sum+e.b)=((E.take (i+1)).map Ent.b).sum:=by rw[fwrap_u64 _ oM oM,R]
   by_cases c3:4611686018427387904<((E.take (i+1)).map Ent.b).sum
   ·simp only[evs,seval,g4,g3,g0,a.len,(oM:(i:Int)<E.length),p1,b4,eq_true (oM:(0:Int)<e.b),c1,c2,eq_true c3];refine⟨_,rfl,?_⟩;have:=(ok.drop (i+1)).sum_nn;have:=okZ.split (E:=E) (i+1);omega
   ·simp(disch:=omega) only[evs,seval,fwrap_i64,g4,g3,g0,a.len,(oM:(i:Int)<E.length),p1,b4,eq_true (oM:(0:Int)<e.b),c1,c2,eq_false c3];refine rqn ⟨E.length-(i+1),oM,rfl,i+1,iS,iS,iX,oM,oM,rfl⟩
  ·rw[Qs oM]at J g3 nn;have c1:aB .i64 (E.map Ent.b).sum=(E.map Ent.b).sum:=fwrap_i64 _ oM oM;simp only[evs,seval,g4,g3,g0,a.len,(oM:¬(i:Int)<E.length),c1];exact⟨_,rfl,Sm⟩
theorem Ad{E:List Ent}(a:Recs Ent.cells 6 h v E)(Z:E.length<=4096)(ok:okZ E):
 ay go 223 [v] h fun u h'=>h=h'/\u=ZZ (if 4611686018427387904<(E.map Ent.b).sum then 13 else 0):=by
 refine aa ?_;simp[evs];refine ae (wu a Z ok) ?_;rintro _ _ ⟨rfl,t,rfl,ht⟩;by_cases c:4611686018427387904<(E.map Ent.b).sum
 ·simp[evs,eq_true (ht.2 c),c]
 ·simp[evs,eq_false (fun x=>c (ht.1 x)),c]
theorem uO:∀(d:List V)(o:Nat),bF d o []=some d
 |[],o=>iD o
 |x::l,0=>dD x l
 |x::l,o+1=>by rw[bH,uO l o];rfl
theorem oJ(d:List V):∀(c:List V)(o:Nat)(vs c':List V),bF c o vs=some c'->bF (c++d) o vs=some (c'++d)
 |[],o,[],c',e=>by rw[iD]at e;cases e;exact uO d o
 |[],o,v::vs,c',e=>by rw[lH]at e;cases e
 |x::l,0,[],c',e=>by rw[dD]at e;cases e;rfl
 |x::l,0,v::vs,c',e=>by
  rw[bC]at e;cases q:bF l 0 vs with
  |none=>rw[q]at e;cases e
  |some r=>rw[q]at e;cases e;rw[Rb,bC,oJ d l 0 vs r q];rfl
 |x::l,o+1,vs,c',e=>by
  rw[bH]at e;cases q:bF l o vs with
  |none=>rw[q]at e;cases e
  |some r=>rw[q]at e;cases e;rw[Rb,bH,oJ d l o vs r q];rfl
theorem rg(d:List V)(o:Nat)(vs d':List V)(e:bF d o vs=some d'):∀(c:List V),bF (c++d) (c.length+o) vs=some (c++d')
 |[]=>by simpa using e
 |x::l=>by
  rw[Rb,QB,(oM:l.length+1+o=(l.length+o)+1),bH,rg d o vs d' e l];rfl
theorem aS{α:Type}{f:α->List V}(hf:∀x,(f x).length=k){y:α}{o:Nat}{vs:List V}:∀(L:List α)(i:Nat)(x:α),L[i]? =some x->bF (f x) o vs=some (f y)->bF (L.flatMap f) (i*k+o) vs=some ((L.set i y).flatMap f)
 |z::L,0,x,h,e=>by
  simp at h;subst h;rw[QT,SN,Rc,TS,QT];exact oJ _ _ _ _ _ e
 |z::L,i+1,x,h,e=>by
  rw[QT,TD,QT,show(i+1) *k+o=(f z).length+(i*k+o) by rw[hf,Tj];omega];exact rg _ _ _ _ (aS hf L i x (eV h) e) _
theorem _root_.Go.Ev.Gs.ptr(g:Gs h B e v cs)(J:cs.length=n*e)(U:0<e){i:Nat}(I:i<n):∃b,vb v=[b]/\B<=b/\Own h b cs/\(∀k,aP (.ixs e) [v,.int k (i:Int)]=some (.ptr b (i*e)))/\∀h' c',Own h' b c'->c'.length=cs.length->Gs h' B e v c':=by
 rcases g with⟨rfl,rfl⟩|⟨b,m,rfl,D,R,Z,o⟩
 ·have h0:0=n*e:=J;have:=Uj (oM:0<n) U;omega
 ·have:m=n:=Tw U oM;subst this;refine⟨b,rfl,Z,o,fun k=>?_,fun h' c' o' hl=>.inr ⟨b,m,rfl,oM,R,Z,o'⟩⟩;rw[uv _ _ _ _ _ _ _ oM oM];simp
theorem Ent.upd_b(e:Ent)(s:Int):bF e.cells 4 [ZZ s]=some (Ent.cells ⟨e.x,s,e.kn⟩):=rfl
theorem Ent.upd_k(e:Ent)(t:Bool):bF e.cells 5 [.bool t]=some (Ent.cells ⟨e.x,e.b,t⟩):=rfl
theorem fy{e:Ent}(a:ItmH h e.x):az e.cells=true:=by
 show az (e.x.cells++[_,_])=true;rw[bQ,a.one];rfl
theorem IxOf.same{m:Nat->Option Nat}{E Z:List Ent}(ix:IxOf m E)(e:Z.map Ent.x=E.map Ent.x):IxOf m Z:=by
 intro k j;rw[ix k j];have:=congrArg (fun l=>l[j]?) e;simp only[SK]at this;constructor
 ·grind
 ·grind
def Itm.val(x:Itm):Nat×Nat×Str×List Str:=(x.key,x.type,x.text,x.marks)
def Ent.val(e:Ent):(Nat×Nat×Str×List Str)×Int×Bool:=(e.x.val,e.b,e.kn)
theorem Itm.val_eq{x y:Itm}(e:x.val=y.val):x.key=y.key/\x.type=y.type/\x.text=y.text/\x.marks=y.marks:=by
 simp only[Itm.val,Re]at e;exact e
def E0:List V:=[ZX 0,ZY 0,.str [],.nils,ZZ 0,.bool false]
theorem LoP.kl{ks bs:List Bool}(a:LoP h b pm l ks bs):ks.length=l.length/\Fit l:=by
 obtain⟨p,U,o,Z,ix,mk,e⟩:=a;exact⟨ix.len.1,ix.fit⟩
def LsO(N:Nat)(h:Heap)(v:V)(Z:List Ent):Prop:=(Z=[]/\v=.nils)\/∃b,v=.slice b 0 Z.length Z.length/\N<=b/\Own h b (Z.flatMap Ent.cells)/\∀z∈Z,CpO (b+1) h z.x.vm z.x.marks
theorem CpO.le{M:Nat}{L:List (List UInt8)}(a:CpO N h v L)(l:M<=N):CpO M h v L:=by
 rcases a with⟨e,rfl|⟨b,rfl,Z,o⟩⟩|⟨b,e,Z,o⟩
 ·exact .inl ⟨e,.inl rfl⟩
 ·exact .inl ⟨e,.inr ⟨b,rfl,oM,o⟩⟩
 ·exact .inr ⟨b,e,oM,o⟩
theorem LsO.rs{Z:List Ent}(a:LsO N h v Z):Recs Ent.cells 6 h v Z:=by
 rcases a with⟨rfl,rfl⟩|⟨b,rfl,_,o,_⟩
 ·exact SH
 ·exact RM o (au aJ Z)
def SE(N:Nat)(Ks:List Knd)(h:Heap)(b:Nat)(E:List Ent):Prop:=
 ∃n0 K X st vK bg B bm S bl pm mc,Sto n0 h b K 12 X (E.map Ent.b) (E.map Ent.kn) st vK bg B bm S bl pm mc/\fW Ks K/\X.map Itm.val=E.map (fun e=>e.x.val)/\(∀x∈X,nZ x.vm=true)/\IxOf mc.1 E/\mc.2<=1024/\(∀y∈Wr b bg B bm S bl pm,N<=y)/\N<=n0.1
theorem SE.fr{E:List Ent}(w:WF h)(s:SE N Ks h b E)(f:Fr [] h h'):SE N Ks h' b E:=by
 exact yav
def SA(Ks:List Knd)(h:Heap)(b:Nat)(E:List Ent):Prop:=
 ∃n0 K X st vK bg B bm S bl pm mc,Sto n0 h b K 12 X (E.map Ent.b) (E.map Ent.kn) st vK bg B bm S bl pm mc/\fW Ks K/\X.map Itm.val=E.map (fun e=>e.x.val)/\(∀x∈X,nZ x.vm=true)/\IxOf mc.1 E
theorem SE.a{E:List Ent}(s:SE N Ks h b E):SA Ks h b E:=by
 obtain⟨n0,K,X,st,vK,R,B,J,S,bl,U,Z,s,r1,r2,r3,r4,_⟩:=s;exact⟨n0,K,X,st,vK,R,B,J,S,bl,U,Z,s,r1,r2,r3,r4⟩
theorem GN:∀{L:List Int},(∀x∈L,1≤x∧x≤40)→0≤L.sum∧L.sum≤40*L.length
 |[],_=>by simp
 |x::L,h=>by
  have:=h x iS;have:=GN (L:=L) fun y m=>h y iX;simp only[List.sum_cons,List.length_cons];omega
def Ent.ht(e:Ent):Nat×Int:=(e.x.key,e.b)
structure LOk(Ks:List Knd)(h:Heap)(E:List Ent):Prop where
 h:∀e∈E,ItmH h e.x/\nZ e.x.vm=true/\okI e.x 3=true/\jK Ks 12 e.x=0
 b:∀e∈E,e.kn=false->e.b=di Ks e.x
 c:∀e∈E,e.kn=true->1<=e.b/\e.b<=40
 n:(E.map fun e=>e.x.key).Nodup
 l:E.length<=1000
 r:okR Ks 12=true/\Ks.length=3/\GK Ks
theorem Sto.wrlt{X:List Itm}{kn st:List Bool}{Z:pQ}(w:WF h)(s:Sto n0 h b Ks cap X l kn st vK bg B bm S bl pm Z):∀y∈Wr b bg B bm S bl pm,y<h.next:=by
 intro y m;simp only[Wr,Qp,Qy,Rz,or_false]at m;rcases m with(rfl|rfl|rfl|rfl|rfl|rfl)|m
 ·exact s.ob.lt w
 ·exact s.g.ob.1.lt w
 ·exact s.gB.lt w
 ·exact s.k.lt w
 ·exact s.Sl'
 ·exact s.bl'
 ·exact s.pl y (eV m)
theorem LOk.fr{E:List Ent}(a:LOk Ks h E)(f:Fr [] h h'):LOk Ks h' E:=⟨fun e m=>⟨(a.h e m).1.fr f,(a.h e m).2⟩,a.b,a.c,a.n,a.l,a.r⟩
theorem LOk.base{E:List Ent}(a:LOk Ks h E):∀e∈E,1<=di Ks e.x/\di Ks e.x<=40:=by
 intro e m;have t:=(a.h e m).2.2.1;simp only[okI,be,decide_eq_true_eq]at t;have p:Ks[e.x.type]? =some (Ks[e.x.type]'(by rw[a.r.2.1];exact t.2.1)):=Qq _;generalize Ks[e.x.type]'(by rw[a.r.2.1];exact t.2.1)=q at p;have g:=(a.r.2.2 q (Of p)).2.2;rw[di,p];exact g
theorem LOk.okZ{E:List Ent}(a:LOk Ks h E):okZ E:=by
 intro e m;cases Z:e.kn
 ·have:=a.base e m;rw[a.b e m Z];omega
 ·have:=a.c e m Z;omega
theorem LOk.key{E:List Ent}(a:LOk Ks h E):∀e∈E,0<e.x.key:=by
 intro e m;have t:=(a.h e m).2.2.1;simp only[okI,be,decide_eq_true_eq]at t;omega
theorem _root_.Go.Ev.Gs.dj(g:Gs h B e v cs)(f:Fr Z h h')(d:∀z∈Z,z∉vb v):Gs h' B e v cs:=by
 rcases g with z|⟨b,n,z1,z2,z3,z4,o⟩
 ·exact .inl z
 ·exact yaY
theorem Cps.vals:∀{a b:List Itm},Cps a b→b.map Itm.val=a.map Itm.val
 |[],[],_=>rfl
 |_::_,_::_,h=>by
  obtain⟨⟨v,rfl,_⟩,h2⟩:=h;simp only[List.map_cons,Cps.vals h2];rfl
 |[],_::_,h=>h.elim
 |_::_,[],h=>h.elim
def ST.at'':ST->Nat->ST
 |t,0=>t
 |.nil,_+1=>.nil
 |.cons _ _ _ _ _ _ nx,i+1=>nx.at'' i
open Go.Ev.St
abbrev Z4':List V:=[ZX 0,ZY 0,.str [],.nils]
section
variable {n0 : NL} {h : Heap} {b bg B bm S bl : Nat} {Ks : List Knd} {cap : Int} {X : List Itm} {l : List Int} {kn st : List Bool} {vK : V} {pm : Option Nat} {mc : pQ}
end
open Go.Ev.St
theorem TreeS.on{U:Heap}{x:Itm}(t:TreeS N h' Ks x cs)(f:Fr Z h' U)(J:∀z∈Z,z<N):TreeS N U Ks x cs:=by
 obtain⟨q,s,va,vc,t1,t2,t3,I⟩:=t;refine⟨q,s,va,vc,t1,t2,fun X R hX g=>?_,I⟩;refine t3 (Z++X) R (fun y m=>(Qp.1 m).elim (J y) (hX y)) ⟨QY f.next g.next,g.wf,fun b c hb o=>g.own b c (fun m=>hb (Qp.2 (.inr m))) (f.own b c (fun m=>hb (Qp.2 (.inl m))) o),fun b c hb o=>g.pl b c (fun m=>hb (Qp.2 (.inr m))) (f.pl b c (fun m=>hb (Qp.2 (.inl m))) o),fun b x hx e=>g.lp b x hx (f.lp b x hx e),fun b c r=>g.ro b c (f.ro b c r),fun b x hb e=>g.ty b x (QH hb f.next) (f.ty b x hb e)⟩
theorem TreeS.le{M:Nat}{x:Itm}(t:TreeS N h' Ks x cs)(l:M<=N):TreeS M h' Ks x cs:=by
 obtain⟨q,s,va,vc,t1,t2,t3,U⟩:=t;exact⟨q,s,va,vc,t1,t2,fun X Z hX g=>t3 X Z (fun y m=>QH (hX y m) l) g,U⟩
theorem LOk.sum{E:List Ent}(o:LOk Ks h E):(E.map Ent.b).sum<=40000:=by
 have:=GN (L:=E.map Ent.b) (fun x m=>by
  obtain⟨e,Z,rfl⟩:=Tn.1 m;cases U:e.kn
  ·rw[o.b e Z U];exact o.base e Z
  ·exact o.c e Z U)
 have R:=o.l;simp at this;omega
structure Drawn(N M:Nat)(h:Heap)(Ks:List Knd)(vE:V)(X:List Itm)(E:List Ent):Prop where
 g:Gs h N 6 vE (E.flatMap Ent.cells)
 l:∀z∈vb vE,z<M
 i:∀e∈E,ItmG N h e.x
 il:∀e∈E,∀z∈vb e.x.vm,z<M
 o:∀h',(∀e∈E,ItmH h' e.x)->LOk Ks h' E
 n:E.length<=12
theorem Drawn.keep{M:Nat}{X:List Itm}{E:List Ent}(d:Drawn N M h Ks vE X E)(f:Fr Z h h')(l:∀z∈Z,z<N\/M<=z):Drawn N M h' Ks vE X E:=
 ⟨d.g.dj f (fun z m c=>by have:=d.l z c;have:=d.g.vb z c;have:=l z m;omega),d.l,fun e m=>(d.i e m).keep f (fun z mz c=>by have:=d.il e m z c;have:=(d.i e m).g.vb z c;have:=l z mz;omega),d.il,d.o,d.n⟩
theorem Drawn.H{M:Nat}{X:List Itm}{E:List Ent}(d:Drawn N M h Ks vE X E):∀e∈E,ItmH h e.x:=fun e m=>(d.i e m).H
theorem Drawn.rs{M:Nat}{X:List Itm}{E:List Ent}(d:Drawn N M h Ks vE X E):Recs Ent.cells 6 h vE E:=SM d.g (au aJ _) oM
open Go.Ev.St
abbrev zz:Str:=[122,122]
theorem GY{M:List Str}(e:L.flatMap sS=M.flatMap sS):L.length=M.length:=by
 have:=congrArg List.length e;rw[au cC,au cC]at this;omega
theorem CpO.lenS(a:CpO N h v L):aP .lenS [v]=some (ZZ L.length):=a.rs.len
theorem CpO.capS(a:CpO N h v L):aP .capS [v]=some (ZZ L.length):=by
 rcases a with⟨rfl,rfl|⟨b,rfl,_⟩⟩|⟨b,rfl,_⟩<;>rfl
theorem CpO.wr{M J:List Str}(a:CpO N h v L)(f:Fr [b] h h')(o:Own h b (M.flatMap sS))(I:Own h' b (J.flatMap sS))(e:J.length=M.length):∃L',L'.length=L.length/\CpO N h' v L':=by
 rcases a with⟨rfl,rfl|⟨R,rfl,Z,ob⟩⟩|⟨R,rfl,Z,ob⟩
 ·exact⟨[],rfl,.inl ⟨rfl,.inl rfl⟩⟩
 ·by_cases c:R=b
  ·subst c;have q:M.flatMap sS=([]:List Str).flatMap sS:=o.uniq ob;have U:=GY q;have:=Rx.1 (by rw[e,U];rfl);subst this;exact⟨[],rfl,.inl ⟨rfl,.inr ⟨_,rfl,Z,I⟩⟩⟩
  ·exact⟨[],rfl,.inl ⟨rfl,.inr ⟨_,rfl,Z,f.own _ _ (eV c) ob⟩⟩⟩
 ·by_cases c:R=b
  ·subst c;have U:=GY (o.uniq ob);exact⟨J,oM,.inr ⟨_,by rw[e,U],Z,I⟩⟩
  ·exact⟨L,rfl,.inr ⟨_,rfl,Z,f.own _ _ (eV c) ob⟩⟩
theorem CpO.ix(a:CpO N h v L)(Z:i<L.length):∃b,N<=b/\Own h b (L.flatMap sS)/\aP (.ixs 1) [v,ZZ (i:Int)]=some (.ptr b i)/\bF (L.flatMap sS) i [.str zz]=some ((L.set i zz).flatMap sS):=by
 have p:=Qq Z;have u:=aS (o:=0) (vs:=[.str zz]) cC L i L[i] p rfl;rw[Sj,RG]at u;rcases a with⟨rfl,_⟩|⟨b,rfl,U,o⟩
 ·simp at Z
 ·refine⟨b,U,o,?_,u⟩;rw[bO _ _ _ _ _ _ _ oM oM];simp
section
variable {env : T V} {h h7 : Heap} {N : Nat} (w7 : WF h7) (hN : h7.next <= N)
include w7 hN
def LsW(N bo:Nat)(h:Heap)(Z Z':List Ent):Prop:=bo<N/\Own h bo (Z'.flatMap Ent.cells)/\Z'.map Ent.x=Z.map Ent.x/\∀z∈Z,∃L',L'.length=z.x.marks.length/\CpO N h z.x.vm L'
end
open Go.Ev.St
section
variable {env : T V} {h h7 : Heap} {N : Nat} (w7 : WF h7)
theorem LsW.wr{U:Nat}{Z J:List Ent}{M R:List Str}(a:LsW N U h Z J)(hb:N<=b)(f:Fr [b] h h')(o:Own h b (M.flatMap sS))(I:Own h' b (R.flatMap sS))(e:R.length=M.length):LsW N U h' Z J:=by
 obtain⟨l,ob,ex,cs⟩:=a;refine⟨l,f.own _ _ oO ob,ex,fun z m=>?_⟩;obtain⟨L,e1,c1⟩:=cs z m;obtain⟨D,e2,c2⟩:=c1.wr f o I e;exact⟨D,oM,c2⟩
include w7
end
open Go.Ev.St
theorem xM(k t:Nat)(x:Str)(m:List Str)(v u:V):∀p:PT,gH ⟨k,t,x,m,v⟩ p=gH ⟨k,t,x,m,u⟩ p
 |.nil=>rfl
 |.cons _ _ _ _ _ _ _ s n=>by
  simp only[gH,xM k t x m v u s,xM k t x m v u n];rfl
theorem AN{y z:Itm}(e:y.val=z.val):y=⟨z.key,z.type,z.text,z.marks,y.vm⟩:=by
 obtain⟨J,Z,R,U⟩:=Itm.val_eq e;obtain⟨a,b,c,d,v⟩:=y;simp only at J Z R U;subst J Z R U;rfl
theorem HM{y z:Itm}(e:y.val=z.val)(p:PT):gH y p=gH z p:=by
 rw[AN e];exact xM _ _ _ _ _ _ p
theorem Ln{y z:Itm}(e:y.val=z.val):att y=att z:=by
 rw[AN e];rfl
theorem Hb{y z:Itm}(e:y.val=z.val):jK Ks cap y=jK Ks cap z:=by
 unfold jK;obtain⟨_,Z,_⟩:=Itm.val_eq e;rw[Z];split
 ·unfold CC;rw[HM e,Ln e];have:gP y=gP z:=by rw[AN e];rfl
  rw[this]
 ·rfl
theorem Sto.wo{X:List Itm}{kn st:List Bool}{Z:pQ}(s:Sto n0 h b Ks cap X l kn st vK bg B bm S bl pm Z):Oth h (Wr b bg B bm S bl pm):=by
 have a:=(((((Oth.own s.ob iS (jW (n:=2) rfl)).app (A:=[b]) s.g.ob.1.oth).app s.gB.oth).app s.k.bmgood.oth).app s.gS.oth).app s.lo.oth;intro x m;refine a x ?_;simp only[Wr,Qp,Qy,Rz,or_false]at m|-;rcases m with(m|m|m|m|m|m)|m<;>simp[m]
theorem Gp.spare{D:Nat}{l:List V}(g:Gp h b B n l)(J:Good h D)(U:D≠b):∃B',(B'=D\/B'=B)/\Gp h b B' n l/\Good h B':=by
 obtain⟨v,c1,G,c2,a,Z,m,k,x⟩:=g;obtain⟨R,⟨e,z⟩|⟨e,o⟩⟩:=id k.tb
 ·exact⟨D,.inl rfl,⟨v,c1,G,c2,a,Z,m,{k with tb:=⟨R,.inl ⟨e,z⟩⟩,ne:=U},x⟩,J⟩
 ·exact⟨B,.inr rfl,⟨v,c1,G,c2,a,Z,m,k,x⟩,⟨_,o,oM,Bj k.n6⟩⟩
end Go.Ev.Lay
