/- An evaluator of the program, and contracts over it: StaD to StbE. -/
import Derived.Test.YtiiggfpadljcbaaGreatDoorP07
import Derived.Test.YtiiggfpadljcbaaGreatDoorP08
set_option linter.unusedSimpArgs false
set_option linter.unusedVariables false
set_option linter.constructorNameAsVariable false
set_option linter.unnecessarySimpa false
namespace Go.Ev.Lay
set_option maxRecDepth 4000
theorem _root_.Go.Ev.Gs.append1{h:Heap}{B esz bytes:Nat}{v x:V}{cs xs:List V}{n:Nat}(w:WF h)(a:Gs h B esz v cs)(s:Sl h esz x n xs)(he:0<esz)(hn:n≠0)(ho:au xs=true)(hB:B≤h.next)
 (hsz:(2*(cs.length+n)+1024) *bytes≤281474976710656) {K:V→Heap→Prop} (k:∀v' h',Gs h' B esz v' (cs++xs)→vb v'=[h.next]→Fr (vb v) h h'→K v' h'):OQ (jf h esz bytes v x) K:=by
 unfold jf;rw[s.srcLen];simp only[];rw[ew hn,cond_false,s.srcCells];simp only[];obtain⟨rfl,rfl⟩|⟨b,m,rfl,hm,hm0,hb,o⟩:=a;simp only[tF];have:Nat.ble ((2*n+1024) *bytes) 281474976710656=true:=by rw[Nat.ble_eq];simpa using hsz
 rw[this,cond_true];refine(bY _ _ _).2 (k _ _ (.inr ⟨h.next,n,rfl,by simpa using s.1,oM,hB,by simpa using Own.new w xs⟩) rfl (Fr.halloc w xs));have hle:(2*(m+n)+1024) *bytes≤(2*(cs.length+n)+1024) *bytes:=by
  apply Nat.mul_le_mul_right _;have:m≤cs.length:=by rw[hm];exact Nat.le_mul_of_pos_right m he
  omega
 have h1:(Nat.beq esz esz&&Nat.ble ((2*(m+n)+1024) *bytes) 281474976710656)=true:=by simp only[Nat.beq_refl,Bool.true_and,Nat.ble_eq];omega
 simp only[h1,cond_true,o.cells];have hmn:(m+n) *esz=m*esz+n*esz:=Nat.add_mul _ _ _;have hpos:0<n*esz:=Nat.mul_pos oM he;rw[DZ (oM:¬0+(m+n) *esz≤cs.length),cond_false];have h2:(Nat.ble (0+m*esz) cs.length&&au xs)=true:=by simp only[ho,Bool.and_true,Nat.ble_eq];omega
 simp only[h2,cond_true,fX,bP cs (m*esz) oM];let⟨h',e,o',f⟩:=sH (pos:=0+m*esz) (c':=cs.take (m*esz)++xs) w o;rw[e];simp only[Option.map_some];refine(bY _ _ _).2 (k _ _ (.inr ⟨h.next,m+n,rfl,by simp[s.1];omega,oM,hB,?_⟩) rfl f);rwa[List.take_of_length_le oM]at o'
inductive ST where
 |nil
 |cons (kind:Nat) (tag key:Str) (attrs:List (Str×Str)) (text:Str) (sub next:ST)
namespace ST
def app:ST→ST→ST
 |nil,t=>t
 |cons k tg ky a tx sub nx,t=>cons k tg ky a tx sub (nx.app t)
theorem app_nil:∀t:ST,t.app nil=t
 |nil=>rfl
 |cons _ _ _ _ _ _ nx=>by simp only[app,app_nil nx]
theorem app_assoc:∀a b c:ST,(a.app b).app c=a.app (b.app c)
 |nil,_,_=>rfl
 |cons _ _ _ _ _ _ nx,b,c=>by simp only[app,app_assoc nx b c]
def len:ST→Nat
 |nil=>0
 |cons _ _ _ _ _ _ nx=>nx.len+1
def keys:ST→List Str
 |nil=>[]
 |cons _ _ ky _ _ _ nx=>ky::nx.keys
def alone(k:Nat)(tg ky:Str)(at':List (Str×Str))(tx:Str)(sub:ST):Bool:=
 if k=2 then okT tx&&(tg==[]&&(ky==[]&&(decide (at'.length=0)&&decide (sub.len=0))))
 else decide (k=1)&&(okN tg&&((ky==[]||okN ky)&&(tx==[]&&(decide (at'.length≤8)&&(decide (sub.len≤16)&&(cZ none at'&&eT [] sub.keys))))))
def node(k:Nat)(tg ky:Str)(at':List (Str×Str))(tx:Str)(sub:ST)(w:Nat→Nat→Nat×Bool)(l c:Nat):Nat×Bool:=
 if 6<l∨64<c+1∨alone k tg ky at' tx sub=false then(c+1,false)else w (l+1) (c+1)
def walk:ST→Nat→Nat→Nat×Bool
 |nil,_,c=>(c,true)
 |cons k tg ky at' tx sub nx,l,c=>let r:=node k tg ky at' tx sub sub.walk l c;if r.2=true then nx.walk l r.1 else r
def count(k:Nat)(tg ky:Str)(at':List (Str×Str))(tx:Str)(sub:ST):Nat:=
 if(node k tg ky at' tx sub sub.walk 1 0).2=true then(node k tg ky at' tx sub sub.walk 1 0).1 else 0
end ST
namespace NT
def sh:NT→ST
 |nil=>.nil
 |cons k tg ky a tx _ _ sub nx=>.cons k tg ky a tx sub.sh nx.sh
def app:NT→NT→NT
 |nil,t=>t
 |cons k tg ky a tx va vc sub nx,t=>cons k tg ky a tx va vc sub (nx.app t)
theorem app_sh:∀a b:NT,(a.app b).sh=a.sh.app b.sh
 |nil,_=>rfl
 |cons _ _ _ _ _ _ _ _ nx,b=>by simp only[app,sh,ST.app,app_sh nx b]
theorem app_len:∀a b:NT,(a.app b).len=a.len+b.len
 |nil,b=>by simp[app,len]
 |cons _ _ _ _ _ _ _ _ nx,b=>by simp only[app,len,app_len nx b];omega
theorem app_cells:∀a b:NT,(a.app b).cells=a.cells++b.cells
 |nil,_=>rfl
 |cons _ _ _ _ _ _ _ _ nx,b=>by simp only[app,cells,app_cells nx b,List.append_assoc]
theorem sh_len:∀t:NT,t.sh.len=t.len
 |nil=>rfl
 |cons _ _ _ _ _ _ _ _ nx=>by simp only[sh,len,ST.len,sh_len nx]
theorem sh_keys:∀t:NT,t.sh.keys=t.keys
 |nil=>rfl
 |cons _ _ _ _ _ _ _ _ nx=>by simp only[sh,keys,ST.keys,sh_keys nx]
theorem vU(k:Nat)(tg ky:Str)(at':List (Str×Str))(tx:Str)(sub:NT):ST.alone k tg ky at' tx sub.sh=ga k tg ky at' tx sub:=by simp only[ST.alone,ga,sh_len,sh_keys]
theorem uy:∀(t:NT)(l c:Nat),t.sh.walk l c=t.walk l c
 |nil,_,_=>rfl
 |cons k tg ky at' tx _ _ sub nx,l,c=>by
  have e1:ST.node k tg ky at' tx sub.sh sub.sh.walk l c=node k tg ky at' tx sub sub.walk l c:=by unfold ST.node node;rw[vU,uy sub]
  show(let r:=ST.node k tg ky at' tx sub.sh sub.sh.walk l c;if r.2=true then nx.sh.walk l r.1 else r)=_;rw[e1];simp only[walk,uy nx]
theorem sh_count(k:Nat)(tg ky:Str)(at':List (Str×Str))(tx:Str)(sub:NT):ST.count k tg ky at' tx sub.sh=count k tg ky at' tx sub:=by
 have e1:ST.node k tg ky at' tx sub.sh sub.sh.walk 1 0=node k tg ky at' tx sub sub.walk 1 0:=by unfold ST.node node;rw[vU,uy sub]
 unfold ST.count count;rw[e1]
end NT
theorem NH.app{h:Heap}:∀{a b:NT},NH h a→NH h b→NH h (a.app b)
 |.nil,_,_,q=>q
 |.cons _ _ _ _ _ _ _ _ _,_,⟨x1,x2,x3,x4,x5,x6,x7⟩,q=>⟨x1,x2,x3,x4,x5,x6,NH.app x7 q⟩
def fK(z:Str):ST:=.cons 2 [] [] [] z .nil .nil
def jd(tg:Str)(a:List (Str×Str)):List Str→ST
 |[]=>.nil
 |m::ms=>.cons 1 tg m a [] (fK m) (jd tg a ms)
def kX(x:Itm)(k:Nat)(tg ky:Str)(sl:List Slo)(tx:Str)(sub:ST):ST:=
 if k=1 then .cons 1 tg ky (sl.map (att x)) [] sub .nil
 else if k=2 then fK tx
 else if k=3 then fK x.text
 else if k=4 then fK (dec x.key)
 else if k=5 then jd tg (sl.map (att x)) x.marks
 else .nil
def bM(x:Itm):PT→ST
 |.nil=>.nil
 |.cons k tg ky sl tx _ _ sub nx=>(kX x k tg ky sl tx (bM x sub)).app (bM x nx)
def TG:PT→Prop
 |.nil=>True
 |.cons _ _ _ sl _ _ _ sub nx=>(∀s∈sl,s.2.1≤3)∧sub.len≤16∧TG sub∧TG nx
theorem TG.at':∀{t:PT}(i:Nat),TG t→TG (t.at' i)
 |.nil,0,_=>trivial
 |.nil,_+1,_=>trivial
 |.cons _ _ _ _ _ _ _ _ _,0,a=>a
 |.cons _ _ _ _ _ _ _ _ _,i+1,⟨_,_,_,g⟩=>TG.at' i g
theorem wX(tg:Str)(a:List (Str×Str)):∀ms:List Str,(jd tg a ms).len=ms.length
 |[]=>rfl
 |m::ms=>by simp[jd,ST.len,wX tg a ms]
theorem FE(x:Itm)(k:Nat)(tg ky:Str)(sl:List Slo)(tx:Str)(sub:ST)(hm:x.marks.length≤8):(kX x k tg ky sl tx sub).len≤8:=by unfold kX;split;simp[ST.len];split;simp[fK,ST.len];split;simp[fK,ST.len];split;simp[fK,ST.len];split;rw[wX];exact hm;simp[ST.len]
def Inv(v:V)(n0:Nat)(h:Heap)(s:NT):Prop:=∀(X:List Nat)(h':Heap),(∀x∈X,x<n0∨x∈vb v)→Fr X h h'→NH h' s
theorem Inv.fr{v:V}{n0:Nat}{h h':Heap}{s:NT}(I:Inv v n0 h s)(w:WF h)(f:Fr [] h h'):Inv v n0 h' s:=fun X h2 hx f2=>
 I X h2 hx (Fr.trans f f2 w iS (fun x hx=>.inl hx))
theorem Inv.nh{v:V}{n0:Nat}{h:Heap}{s:NT}(I:Inv v n0 h s)(w:WF h):NH h s:=I [] h iS (Fr.refl w)
theorem jY{h:Heap}{n0 B k:Nat}{vo:V}{s sub:NT}{tg ky tx:Str}{at':List (Str×Str)}{va vc:V}{K:V→Heap→Prop}(w:WF h)(g:Gs h B 6 vo s.cells)(hB:B≤h.next)(h0:n0≤h.next)(I:Inv vo n0 h s)
 (N:∀(X:List Nat)(h':Heap),(∀x∈X,x<n0∨x∈vb vo)→Fr X h h'→NH h' (.cons k tg ky at' tx va vc sub .nil)) (hl:s.len≤1000)
 (hk:∀v' h',Gs h' B 6 v' (s.app (.cons k tg ky at' tx va vc sub .nil)).cells→Inv v' n0 h' (s.app (.cons k tg ky at' tx va vc sub .nil))→Fr (vb vo) h h'→(∀y∈vb v',h.next≤y)→K v' h'):
 OQ (jf (halloc h [.int .u8 (k:Int),.str tg,.str ky,va,.str tx,vc]) 6 104 vo (.slice h.next 0 1 1)) K:=by
 have n1:=N [] h iS (Fr.refl w);have on:=NH.ones n1;have F1:=Fr.halloc w [.int .u8 (k:Int),.str tg,.str ky,va,.str tx,vc];have o1:=Own.new w [.int .u8 (k:Int),.str tg,.str ky,va,.str tx,vc];have cl:=s.cells_len;have vlt:∀x∈vb vo,x<h.next:=by obtain⟨rfl,_⟩|⟨b,n,rfl,_,_,_,o⟩:=g;simp[vb];have:=o.lt w;simp only[vb,List.mem_singleton];rintro x rfl;exact this
 refine Gs.append1 (n:=1) F1.wf (g.fr F1) (Sl.lit o1 rfl) oM oM on (Nat.le_trans hB F1.next) (by rw[cl];omega) ?_;intro v' h' g' e' F';have F:Fr (vb vo) h h':=Fr.trans F1 F' w iS (fun x hx=>.inl hx);refine hk v' h' ?_ ?_ F (by rw[e'];simp only[List.mem_singleton];rintro y rfl;exact F1.next);rw[NT.app_cells];exact g';intro X h2 hX f2;have f3:Fr (vb vo++X.filter (fun x=>decide (x<n0))) h h2:=by refine Fr.trans F f2 w (fun x hx=>.inl iX) (fun x hx=>?_);obtain q|q:=hX x hx;grind;rw[e']at q;simp at q;exact .inr (by subst q;exact F1.next)
 have hX':∀x∈vb vo++X.filter (fun x=>decide (x<n0)),x<n0∨x∈vb vo:=by grind
 exact NH.app (I _ h2 hX' f3) (N _ h2 hX' f3)
def MK(t:PT):Prop:=∀(x:Itm)(h:Heap)(v:V),WF h→ItmH h x→x.marks.length≤8→PH h t→TG t→t.len≤16→Sl h 6 v t.len t.cells→
 ao go 181 [.agg x.cells,v] h fun u h'=>∃s:NT,s.sh=bM x t∧Fr [] h h'∧u≠.sliceE∧s.len≤128∧∀(X:List Nat)(h2:Heap),(∀y∈X,y<h.next)→Fr X h' h2→NH h2 s∧Sl h2 6 u s.len s.cells
def MKs:PT→Prop
 |.nil=>True
 |.cons _ _ _ _ _ _ _ sub nx=>MK sub∧MKs nx
theorem MKs.at':∀{t:PT}(i:Nat),MKs t→MKs (t.at' i)
 |.nil,0,_=>trivial
 |.nil,_+1,_=>trivial
 |.cons _ _ _ _ _ _ _ _ _,0,a=>a
 |.cons _ _ _ _ _ _ _ _ _,i+1,⟨_,g⟩=>MKs.at' i g
theorem Gs.nE{h:Heap}{B e:Nat}{v:V}{cs:List V}(g:Gs h B e v cs):v≠.sliceE:=by obtain⟨rfl,_⟩|⟨b,n,rfl,_⟩:=g<;>simp
theorem Gs.frX{h h':Heap}{B e:Nat}{v:V}{cs:List V}{X:List Nat}(g:Gs h B e v cs)(f:Fr X h h')(hx:∀x∈X,x<B):Gs h' B e v cs:=by obtain⟨rfl,rfl⟩|⟨b,n,rfl,h1,h2,h3,o⟩:=g;exact .inl ⟨rfl,rfl⟩;exact .inr ⟨b,n,rfl,h1,h2,h3,f.own _ _ (fun m=>by have:=hx _ m;omega) o⟩
theorem xH{n0:Nat}{v:V}{h:Heap}(z:Str):∀(X:List Nat)(h':Heap),(∀x∈X,x<n0∨x∈vb v)→Fr X h h'→NH h' (.cons 2 [] [] [] z .nils .nils .nil .nil):=fun _ _ _ _=>jZ 2 oM [] z
theorem zP{t:PT}(M:MKs t):MK t:=by
 intro x h v w a hm pt tg hl sl;let⟨h1,e_h1,F_h1,o_h1⟩:=aj w x.cells;have n1:=hnx e_h1;refine ac ?_;simp only[evs,seval,←e_h1,sl.len];refine az (fun n env hh=>Fr [] h hh∧Fr [] h1 hh∧∃(i:Nat)(s:NT)(vo:V),env.get 12=some (.int .i64 i)∧env.get 11=some (.int .i64 t.len)∧env.get 10=some v∧env.get 5=some vo∧env.get 2=some (.ptr h.next 0)∧
  i≤t.len∧Inv vo h.next hh s∧Gs hh h1.next 6 vo s.cells∧s.sh.app (bM x (t.at' i))=bM x t∧s.len≤8*i∧n=t.len-i) t.len oM ?_ ?_
 ·exact⟨F_h1,Fr.refl F_h1.wf,0,.nil,.nils,iS,iS,iS,iS,iS,oM,fun _ _ _ _=>trivial,.inl ⟨rfl,rfl⟩,by cases t<;>rfl,by simp[NT.len],rfl⟩
 ·rintro n env hh ⟨F,F1,i,s,vo,g12,g11,g10,g5,g2,hi,I,G,e,sn,rfl⟩;by_cases hlt:i<t.len
  ·have hlt':(i:Int)<t.len:=oM
   let⟨k,tgn,ky,sl',tx,vs,vp,sub,nx,e1,e2,e3,e4,e5,e6⟩:=t.split i hlt;have pti:=pt.at' i;have tgi:=tg.at' i;have Mi:=M.at' i;rw[e1]at pti tgi Mi e;let⟨pk,pr,pl,ps,pn,psub,_⟩:=pti;let⟨t3,tl,tsub,_⟩:=tgi;let⟨b',o',p1,p2⟩:=(sl.fr F).ix6 hlt e2;have on:au [.int .u8 (k:Int),.str tgn,.str ky,vs,.str tx,vp]=true:=by
    simp only[av,aF,Sl.one pr,Sl.one ps];rfl
   have vlt:∀y∈vb vo,y<hh.next:=by
    obtain⟨rfl,_⟩|⟨b,n,rfl,_,_,_,o⟩:=G
    ·simp[vb]
    ·have:=o.lt F.wf;simp only[vb,List.mem_singleton];rintro y rfl;exact this
   let⟨h3,e_h3,F_h3,o_h3⟩:=aj F.wf [.int .u8 0,.str [],.str [],.nils,.str [],.nils];simp only[evs,seval,g12,g11,g10,hlt',p1,p2.2.2.2.2.2.2,←e_h3];refine ah (c':=[.int .u8 (k:Int),.str tgn,.str ky,vs,.str tx,vp]) F_h3.wf o_h3 rfl on rfl ?_;rintro h4 o4 F4 n4;have F04:Fr [] hh h4:=F_h3.fresh F4 F.wf (Nat.le_refl _);have q4:=o4.at6;have ox:=F04.get (F1.get o_h1);have x4:ai h4 h.next 0 4=some x.cells:=by rw[ox.ld];rfl
   have hn4:hh.next≤h4.next:=F04.next;have h1n:=F1.next;simp only[bM]at e;have fin:∀{env2:T V}{s2:NT}{v2:V}{h5:Heap},Fr [] h h5→Fr [] h1 h5→env2.get 12=some (.int .i64 ((i:Int)+1))→env2.get 11=some (.int .i64 t.len)→env2.get 10=some v→env2.get 5=some v2→env2.get 2=some (.ptr h.next 0)→
    Inv v2 h.next h5 s2→Gs h5 h1.next 6 v2 s2.cells→s2.sh=s.sh.app (kX x k tgn ky sl' tx (bM x sub))→
    ∃k',k'<t.len-i∧Fr [] h h5∧Fr [] h1 h5∧∃(i:Nat)(s:NT)(vo:V),env2.get 12=some (.int .i64 i)∧env2.get 11=some (.int .i64 t.len)∧env2.get 10=some v∧env2.get 5=some vo∧env2.get 2=some (.ptr h.next 0)∧
     i≤t.len∧Inv vo h.next h5 s∧Gs h5 h1.next 6 vo s.cells∧s.sh.app (bM x (t.at' i))=bM x t∧s.len≤8*i∧k'=t.len-i:=by
    intro env2 s2 v2 h5 f f1 a1 a2 a3 a4 a5 I2 G2 es;have ol:=FE x k tgn ky sl' tx (bM x sub) hm;refine⟨t.len-(i+1),oM,f,f1,i+1,s2,v2,a1,a2,a3,a4,a5,oM,I2,G2,?_,?_,rfl⟩
    ·rw[es,e3,ST.app_assoc];exact e
    ·rw[←NT.sh_len,es];have:∀a b:ST,(a.app b).len=a.len+b.len:=by
      intro a b;induction a with
      |nil=>simp[ST.app,ST.len]
      |cons _ _ _ _ _ _ nx _ ih=>simp only[ST.app,ST.len,ih];omega
     rw[this,NT.sh_len];omega
   have l0:ag h4 hh.next 0=some (.int .u8 (k:Int)):=q4.1;have vge:∀y∈vb vo,h1.next≤y:=by
    obtain⟨rfl,_⟩|⟨b,n,rfl,_,_,hb,o⟩:=G
    ·simp[vb]
    ·simp only[vb,List.mem_singleton];rintro y rfl;exact hb
   have F0:Fr [] h h4:=F.then F04;have F10:Fr [] h1 h4:=F1.then F04;have att_h:=a.fr F0;by_cases k1:k=1
   ·have ek:kX x k tgn ky sl' tx (bM x sub)=.cons 1 tgn ky (sl'.map (att x)) [] (bM x sub) .nil:=by subst k1;rfl
    have l2:ag h4 hh.next 2=some (.str ky):=q4.2.2.1;have l5:ag h4 hh.next 5=some vp:=q4.2.2.2.2.2.1;have l6:=q4.2.2.2.2.2.2;simp only[evs,seval,eff,g5,g2,l0,eq_true (oM:(k:Int)=1),x4,l6,l2,l5];refine aa (Mi.1 x h4 vp F04.wf att_h hm (psub.fr F0) tsub tl (ps.fr F0)) ?_;rintro u h5 ⟨s5,es5,F5,uE,s5l,st5⟩;have st0:=st5 [] h5 iS (Fr.refl F5.wf);have x5:ai h5 h.next 0 4=some x.cells:=by rw[(F5.get ox).ld];rfl
    have r5:=(F5.get o4).at6;have m2:ag h5 hh.next 2=some (.str ky):=r5.2.2.1;have m6:=r5.2.2.2.2.2.2;simp only[evs,eff];refine aa (qE F5.wf (att_h.fr F5) (Recs.fr pr (F0.then F5)) pl t3 (Sl.one ps) st0.2 uE) ?_;rintro _ h6 ⟨va,vc,ba,rfl,hba,ta,scA,vc1,F6⟩;simp only[evs,seval,eff];have hn5:=F5.next;refine jY (k:=1) (sub:=s5) (at':=sl'.map (att x)) F6.wf (G.fr ((F04.then F5).then F6)) (by have:=F6.next;omega) (by have:=F6.next;omega) (I.fr F.wf ((F04.then F5).then F6)) ?_ oM ?_
    ·intro X h' hX f;have hX':∀y∈X,y<h4.next:=fun y hy=>by grind
     let⟨z1,z2⟩:=st5 X h' hX' (Fr.trans F6 f F5.wf iS (fun y hy=>.inl hy));refine⟨oM,?_,by simpa using pl,scA _ z2,oM,z1,trivial⟩;have:=(ta.fr f (fun m=>by have:=hX' _ m;omega)).sl;show Sl h' 2 va (sl'.map (att x)).length _;rw[List.length_map];exact this
    intro v' h' G' I' F' V';simp(disch:=omega) only[evs,seval,DF,eff,ab,g12,g2,x4,l6,l2,l5,x5,m6,m2];refine rqn ?_;exact fin (Fr.new w ((F0.then F5).then F6) F' (fun y hy=>by have:=vge y hy;omega)) (Fr.new F_h1.wf ((F10.then F5).then F6) F' vge) iS iX iX iS iX I' G' (by rw[ek,←es5];exact NT.app_sh _ _)
    done
   by_cases k2:k=2
   ·have ek:kX x k tgn ky sl' tx (bM x sub)=fK tx:=by subst k2;rfl
    simp only[evs,seval,g5,l0,(oM:¬(k:Int)=1),eq_true (oM:(k:Int)=2),q4.2.2.2.2.1];refine aa (lK F04.wf) ?_;rintro _ h5 ⟨rfl,F5⟩;simp only[evs,seval];refine jY (k:=2) F5.wf (G.fr (F04.then F5)) (by have:=F5.next;omega) (by have:=F5.next;omega) (I.fr F.wf (F04.then F5)) (xH _) oM ?_;intro v' h' G' I' F' V';simp(disch:=omega) only[evs,seval,ab,g12];refine rqn ?_;exact fin (Fr.new w (F0.then F5) F' (fun y hy=>by have:=vge y hy;omega)) (Fr.new F_h1.wf (F10.then F5) F' vge) iS iX iX iS iX I' G' (by rw[ek];exact NT.app_sh _ _)
    done
   by_cases k3:k=3
   ·have ek:kX x k tgn ky sl' tx (bM x sub)=fK x.text:=by subst k3;rfl
    simp only[evs,seval,g5,g2,l0,(oM:¬(k:Int)=1),(oM:¬(k:Int)=2),eq_true (oM:(k:Int)=3),show ag h4 h.next 2=some (.str x.text)from ox.ld1 2];refine aa (lK F04.wf) ?_;rintro _ h5 ⟨rfl,F5⟩;simp only[evs,seval];refine jY (k:=2) F5.wf (G.fr (F04.then F5)) (by have:=F5.next;omega) (by have:=F5.next;omega) (I.fr F.wf (F04.then F5)) (xH _) oM ?_;intro v' h' G' I' F' V';simp(disch:=omega) only[evs,seval,ab,g12];refine rqn ?_;exact fin (Fr.new w (F0.then F5) F' (fun y hy=>by have:=vge y hy;omega)) (Fr.new F_h1.wf (F10.then F5) F' vge) iS iX iX iS iX I' G' (by rw[ek];exact NT.app_sh _ _)
    done
   by_cases k4:k=4
   ·have ek:kX x k tgn ky sl' tx (bM x sub)=fK (dec x.key):=by subst k4;rfl
    simp only[evs,seval,g5,g2,l0,(oM:¬(k:Int)=1),(oM:¬(k:Int)=2),(oM:¬(k:Int)=3),eq_true (oM:(k:Int)=4),show ag h4 h.next 0=some (.int .u64 (x.key:Int))from ox.ld1 0];refine aa (lD F04.wf a.k) ?_;rintro _ h4' ⟨rfl,F4'⟩;simp only[evs];refine aa (lK F4'.wf) ?_;rintro _ h5 ⟨rfl,F5'⟩;have F5:=F4'.then F5';simp only[evs,seval];refine jY (k:=2) F5.wf (G.fr (F04.then F5)) (by have:=F5.next;omega) (by have:=F5.next;omega) (I.fr F.wf (F04.then F5)) (xH _) oM ?_;intro v' h' G' I' F' V';simp(disch:=omega) only[evs,seval,ab,g12];refine rqn ?_;exact fin (Fr.new w (F0.then F5) F' (fun y hy=>by have:=vge y hy;omega)) (Fr.new F_h1.wf (F10.then F5) F' vge) iS iX iX iS iX I' G' (by rw[ek];exact NT.app_sh _ _)
    done
   by_cases k5:k=5
   ·have ek:kX x k tgn ky sl' tx (bM x sub)=jd tgn (sl'.map (att x)) x.marks:=by subst k5;rfl
    have l3:ag h4 h.next 3=some x.vm:=ox.ld1 3;simp only[evs,seval,g2,l0,(oM:¬(k:Int)=1),(oM:¬(k:Int)=2),(oM:¬(k:Int)=3),(oM:¬(k:Int)=4),eq_true (oM:(k:Int)=5),l3,a.m.len];refine az (fun n env' hh'=>Fr [] h hh'∧Fr [] h1 hh'∧Own hh' hh.next [.int .u8 (k:Int),.str tgn,.str ky,vs,.str tx,vp]∧h4.next≤hh'.next∧∃(j:Nat)(s':NT)(v2:V),env'.get 65=some (.int .i64 j)∧env'.get 64=some (.int .i64 x.marks.length)∧env'.get 63=some x.vm∧env'.get 7=some (.ptr hh.next 0)∧
     env'.get 12=some (.int .i64 i)∧env'.get 11=some (.int .i64 t.len)∧env'.get 10=some v∧env'.get 5=some v2∧env'.get 2=some (.ptr h.next 0)∧j≤x.marks.length∧hh.next∉vb v2∧Inv v2 h.next hh' s'∧Gs hh' h1.next 6 v2 s'.cells∧
     s'.sh.app (jd tgn (sl'.map (att x)) (x.marks.drop j))=s.sh.app (jd tgn (sl'.map (att x)) x.marks)∧s'.len≤8*i+j∧n=x.marks.length-j) x.marks.length oM ?_ ?_
    ·exact⟨F0,F10,o4,Nat.le_refl _,0,s,vo,iS,iS,iS,iS,iX,iX,iX,iX,iX,oM,fun m=>by(have:=vlt _ m;omega),I.fr F.wf F04,G.fr F04,rfl,oM,rfl⟩
    ·rintro n' env' hh' ⟨F0j,F1j,oj,hnj,j,s',v2,g65,g64,g63,g7,g12,g11,g10,g5,g2,hj,hnv,I2,G2,ej,sl2,rfl⟩;have oxj:=F1j.get o_h1;by_cases hjl:j<x.marks.length
     ·have hjl':(j:Int)<x.marks.length:=oM
      let⟨b3,o3',mk,r1,r2,_,r4⟩:=(a.m.fr F0j).ix fM .i64 (j:Int) oM hjl';have r2':ag hh' b3 o3'=some (.str mk):=r2 0 oM;rw[Int.toNat_natCast]at r4;rw[aK r4]at ej;have v2ge:∀y∈vb v2,h1.next≤y:=by
       obtain⟨rfl,_⟩|⟨b,n,rfl,_,_,hb,o⟩:=G2
       ·simp[vb]
       ·simp only[vb,List.mem_singleton];rintro y rfl;exact hb
      have v2lt:∀y∈vb v2,y<hh'.next:=by
       obtain⟨rfl,_⟩|⟨b,n,rfl,_,_,_,o⟩:=G2
       ·simp[vb]
       ·have:=o.lt F0j.wf;simp only[vb,List.mem_singleton];rintro y rfl;exact this
      have ja:ai hh' h.next 0 4=some x.cells:=by rw[oxj.ld];rfl
      have jp:=oj.at6.2.2.2.2.2.2;simp only[evs,seval,eff,g65,g64,g63,g7,g5,g2,hjl',r1,r2',ja,jp];refine aa (lK F0j.wf) ?_;rintro _ h5 ⟨rfl,F5⟩;let⟨h6,e_h6,F_h6,o_h6⟩:=aj F5.wf [.int .u8 2,.str [],.str [],.nils,.str mk,.nils];have n6:=hnx e_h6;have ja5:ai h5 h.next 0 4=some x.cells:=by rw[(F5.get oxj).ld];rfl
      have jp5:=(F5.get oj).at6.2.2.2.2.2.2;have ja6:ai h6 h.next 0 4=some x.cells:=by rw[(F_h6.get (F5.get oxj)).ld];rfl
      have jp6:=(F_h6.get (F5.get oj)).at6.2.2.2.2.2.2;simp only[evs,seval,eff,←e_h6];have F06:=(F0j.then F5).then F_h6;have kid:Sl h6 6 (.slice h5.next 0 1 1) 1 (NT.cons 2 [] [] [] mk .nils .nils .nil .nil).cells:=Sl.lit o_h6 rfl;refine aa (qE F_h6.wf (a.fr F06) (Recs.fr pr F06) pl t3 (Sl.one ps) kid iS) ?_;rintro _ h7 ⟨va,vc,ba,rfl,hba,ta,scA,vc1,F7⟩;simp only[evs,seval,eff];have hn5:=F5.next;have hn7:=F7.next;have Fj7:=(F5.then F_h6).then F7;refine jY (k:=1) (sub:=.cons 2 [] [] [] mk .nils .nils .nil .nil) (at':=sl'.map (att x)) F7.wf (G2.fr Fj7) oM oM (I2.fr F0j.wf Fj7) ?_ oM ?_
      ·intro X h' hX f;have hX':∀y∈X,y<hh'.next:=fun y hy=>by grind
       have f2:Fr X h6 h':=Fr.trans F7 f F_h6.wf iS (fun y hy=>.inl hy);have o':=f2.own _ _ (fun m=>by have:=hX' _ m;omega) o_h6;refine⟨oM,?_,by simpa using pl,scA _ (Sl.lit o' rfl),by simp[NT.len],jZ 2 oM [] mk,trivial⟩;have:=(ta.fr f (fun m=>by have:=hX' _ m;omega)).sl;show Sl h' 2 va (sl'.map (att x)).length _;rw[List.length_map];exact this
      intro v' h' G' I' F' V';simp(disch:=omega) only[evs,seval,DF,eff,ab,g65,g7,g2,ja,jp,ja5,jp5,ja6,jp6];refine rqn ⟨x.marks.length-(j+1),oM,Fr.new w (F0j.then Fj7) F' (fun y hy=>by have:=v2ge y hy;omega),Fr.new F_h1.wf (F1j.then Fj7) F' v2ge,F'.own _ _ hnv (Fj7.get oj),by have:=F'.next;omega,j+1,_,v',iS,iX,iX,iX,iX,iX,iX,iS,iX,oM,fun m=>by(have:=V' _ m;omega),I',G',?_,?_,rfl⟩
      ·rw[NT.app_sh,ST.app_assoc];exact ej
      ·rw[NT.app_len];simp only[NT.len];omega
     ·simp(disch:=omega) only[evs,seval,ab,g65,g64,g12,(oM:¬(j:Int)<x.marks.length)];rw[List.drop_of_length_le oM]at ej;simp only[jd,ST.app_nil]at ej;refine rqn ?_;exact fin F0j F1j iS iX iX iX iX I2 G2 (by rw[ek];exact ej)
      done
   have ek:kX x k tgn ky sl' tx (bM x sub)=.nil:=by unfold kX;simp[k1,k2,k3,k4,k5]
   simp(disch:=omega) only[evs,seval,ab,g12,l0,(oM:¬(k:Int)=1),(oM:¬(k:Int)=2),(oM:¬(k:Int)=3),(oM:¬(k:Int)=4),(oM:¬(k:Int)=5)];refine rqn ?_;exact fin F0 F10 iS iX iX iX iX (I.fr F.wf F04) (G.fr F04) (by rw[ek,ST.app_nil])
   done
  ·simp only[evs,seval,g12,g11,g5,(oM:¬(i:Int)<t.len)];rw[PT.at_end _ _ oM]at e;simp only[bM,ST.app_nil]at e;refine⟨s,e,F,Gs.nE G,oM,fun X h2 hX f2=>⟨I X h2 (fun y hy=>.inl (hX y hy)) f2,(Gs.frX G f2 (fun y hy=>by have:=hX y hy;omega)).sl s.cells_len oM⟩⟩
theorem mks:∀t:PT,MKs t
 |.nil=>trivial
 |.cons _ _ _ _ _ _ _ sub nx=>⟨zP (mks sub),mks nx⟩
theorem ut:∀(p:Option Str)(l:List Slo),dK p l=true→∀s∈l,s.2.1≤3
 |_,[],_,s,m=>by simp at m
 |p,a::l,e,s,m=>by rw[jr,Bool.and_eq_true]at e;obtain rfl|m:=List.mem_cons.1 m;have:=e.1;simp only[gq,Bool.and_eq_true,decide_eq_true_eq]at this;exact this.2.1;exact ut _ l e.2 s m
theorem qe{k:Nat}{tg ky tx:Str}{sl:List Slo}{n:Nat}(h:dg k tg ky sl tx n=true):(∀s∈sl,s.2.1≤3)∧n≤16:=by unfold dg at h;by_cases k1:k=1;rw[if_pos k1]at h;simp only[Bool.and_eq_true,decide_eq_true_eq,bQ]at h;exact⟨ut _ _ h.2.2.2.1.2,h.2.1⟩;rw[if_neg k1]at h;by_cases k5:k=5;rw[if_pos k5]at h;simp only[Bool.and_eq_true,decide_eq_true_eq,bQ]at h;exact⟨ut _ _ h.2.1.2,oM⟩;rw[if_neg k5]at h;by_cases k2:k=2;grind;rw[if_neg k2]at h;by_cases k34:k=3∨k=4;grind;grind
theorem ui:∀(t:PT)(l c:Nat),(t.walk l c).2=true→TG t
 |.nil,_,_,_=>trivial
 |.cons k tg ky sl tx _ _ sub nx,l,c,h=>by
  simp only[PT.walk]at h;by_cases q:(PT.node k tg ky sl tx sub sub.walk l c).2=true;rw[if_pos q]at h;have g:=ui nx _ _ h;unfold PT.node at q;by_cases x:6<l∨64<c+1∨dg k tg ky sl tx sub.len=false;grind;rw[if_neg x]at q;have pb:dg k tg ky sl tx sub.len=true:=by grind
  exact⟨(qe pb).1,(qe pb).2,ui sub _ _ q,g⟩;grind
theorem DP{k:Nat}{tg ky tx:Str}{sl:List Slo}{sub:PT}(va vc:V)(h:PT.count k tg ky sl tx sub≠0):k=1∧TG (.cons k tg ky sl tx va vc sub .nil):=by unfold PT.count at h;split at h;rename_i q;refine⟨q.1,ui (.cons k tg ky sl tx va vc sub .nil) 1 0 ?_⟩;simp only[PT.walk];rw[if_pos q.2];exact absurd rfl h
theorem NT.sh_one{s:NT}{k:Nat}{tg ky tx:Str}{a:List (Str×Str)}{sub:ST}(e:s.sh=.cons k tg ky a tx sub .nil):∃va vc s',s=.cons k tg ky a tx va vc s' .nil∧s'.sh=sub:=by
 cases s with
 |nil=>cases e
 |cons k' tg' ky' a' tx' va vc s' nx=>
  simp only[NT.sh]at e;cases nx with
  |nil=>cases e;exact⟨va,vc,s',rfl,rfl⟩
  |cons _ _ _ _ _ _ _ _ _=>cases e
def eX(k:Nat)(tg ky:Str)(sl:List Slo)(tx:Str)(sub:PT)(x:Itm)(most:Int):Int:=
 if most<1∨64<most then 1
 else if PT.count k tg ky sl tx sub=0 then 14
 else if fQ x=false then 6
 else if ST.count 1 tg ky (sl.map (att x)) [] (bM x sub)=0∨most<(ST.count 1 tg ky (sl.map (att x)) [] (bM x sub):Nat)then 14
 else 0
abbrev Z6:List V:=[.int .u8 0,.str [],.str [],.nils,.str [],.nils]
theorem AY{h:Heap}{k:Nat}{tg ky tx:Str}{sl:List Slo}{vs vp:V}{sub:PT}{x:Itm}{most:Int}(w:WF h)(n:PH h (.cons k tg ky sl tx vs vp sub .nil))(a:ItmH h x):
 ao go 151 [.agg [.int .u8 (k:Int),.str tg,.str ky,vs,.str tx,vp],.agg x.cells,.int .i64 most] h fun u h'=>∃cs,u=.tup [.agg cs,.int .i64 (eX k tg ky sl tx sub x most)]∧Fr [] h h'∧
  (eX k tg ky sl tx sub x most≠0→cs=Z6)∧(eX k tg ky sl tx sub x most=0→∃(s:NT)(va vc:V),cs=[.int .u8 1,.str tg,.str ky,va,.str [],vc]∧(∀(X:List Nat)(h2:Heap),(∀y∈X,y<h.next)→Fr X h' h2→NH h2 (.cons 1 tg ky (sl.map (att x)) [] va vc s .nil))∧s.sh=bM x sub):=by
 let⟨h1,e_h1,F_h1,o_h1⟩:=aj w [.int .u8 (k:Int),.str tg,.str ky,vs,.str tx,vp];let⟨h2,e_h2,F_h2,o_h2⟩:=aj F_h1.wf x.cells;let⟨h3,e_h3,F_h3,o_h3⟩:=aj F_h2.wf [.int .u8 0,.str [],.str [],.nils,.str [],.nils];have n1:=hnx e_h1;have n2:=hnx e_h2;have F03:=(F_h1.then F_h2).then F_h3;have op:=F_h3.get (F_h2.get o_h1);have ox:=F_h3.get o_h2;have p6:=op.at6.2.2.2.2.2.2;have x4:ai h3 h1.next 0 4=some x.cells:=by rw[ox.ld];rfl
 have bad:∀{h4 h5:Heap}{e:Int}{c0:List V},eX k tg ky sl tx sub x most=e→e≠0→Fr [] h h4→Own h4 h2.next c0→Fr [h2.next] h4 h5→∃cs,V.tup [.agg Z6,.int .i64 e]=.tup [.agg cs,.int .i64 (eX k tg ky sl tx sub x most)]∧Fr [] h h5∧
  (eX k tg ky sl tx sub x most≠0→cs=Z6)∧(eX k tg ky sl tx sub x most=0→∃(s:NT)(va vc:V),cs=[.int .u8 1,.str tg,.str ky,va,.str [],vc]∧(∀(X:List Nat)(h2:Heap),(∀y∈X,y<h.next)→Fr X h5 h2→NH h2 (.cons 1 tg ky (sl.map (att x)) [] va vc s .nil))∧s.sh=bM x sub):=by
  intro h4 h5 e c0 q ne f _ f2;subst q;exact⟨Z6,rfl,f.fresh f2 w oM,fun _=>rfl,fun q=>absurd q ne⟩
 by_cases m1:most<1;refine ac ?_;simp only[evs,seval,←e_h1,←e_h2,←e_h3,m1];refine stu F_h3.wf o_h3 ?_;rintro h4 o4 F4 n4;simp only[evs,seval,o4.at6.2.2.2.2.2.2];exact bad (if_pos (.inl m1)) oM F03 o_h3 F4;by_cases m2:(64:Int)<most;refine ac ?_;simp only[evs,seval,←e_h1,←e_h2,←e_h3,m1,m2];refine stu F_h3.wf o_h3 ?_;rintro h4 o4 F4 n4;simp only[evs,seval,o4.at6.2.2.2.2.2.2];exact bad (if_pos (.inr m2)) oM F03 o_h3 F4;have r1:eX k tg ky sl tx sub x most=if PT.count k tg ky sl tx sub=0 then 14 else if fQ x=false then 6 else if ST.count 1 tg ky (sl.map (att x)) [] (bM x sub)=0∨most<(ST.count 1 tg ky (sl.map (att x)) [] (bM x sub):Nat)then 14 else 0:=if_neg oM;refine ac ?_;simp only[evs,seval,←e_h1,←e_h2,←e_h3,m1,m2,p6];refine aa (rZ F_h3.wf (n.fr F03)) ?_;rintro _ h4 ⟨rfl,F4⟩;have F04:=F03.then F4;have oz4:=F4.get o_h3;have x4':ai h4 h1.next 0 4=some x.cells:=by rw[(F4.get ox).ld];rfl
 have p6':=(F4.get op).at6.2.2.2.2.2.2;by_cases c0:PT.count k tg ky sl tx sub=0;rw[if_pos c0];simp only[evs,seval];apply stu F4.wf oz4;rintro h5 o5 F5 n5;simp only[evs,seval,o5.at6.2.2.2.2.2.2];exact bad (r1.trans (if_pos c0)) oM F04 oz4 F5;rw[if_neg c0];rw[if_neg c0]at r1;simp only[evs,seval,x4'];apply aa (u7 F4.wf (a.fr F04));rintro _ h5 ⟨rfl,F5⟩;have F05:=F04.then F5;have oz5:=F5.get oz4;have x5:ai h5 h1.next 0 4=some x.cells:=by rw[(F5.get (F4.get ox)).ld];rfl
 have p5:=(F5.get (F4.get op)).at6.2.2.2.2.2.2;cases c1:fQ x;rw[c1]at r1;simp only[evs,seval];apply stu F5.wf oz5;rintro h6 o6 F6 n6;simp only[evs,seval,o6.at6.2.2.2.2.2.2];exact bad r1 oM F05 oz5 F6;rw[c1,if_neg iS]at r1;let⟨k1,tgd⟩:=DP vs vp c0;have hm:x.marks.length≤8:=by simp only[fQ,okM,Bool.and_eq_true,decide_eq_true_eq]at c1;exact c1.2.2.1
 have em:bM x (.cons k tg ky sl tx vs vp sub .nil)=.cons 1 tg ky (sl.map (att x)) [] (bM x sub) .nil:=by subst k1;rfl
 have bld:aP (.build [.int .u64 0,.int .u8 0,.str [],.nils] [(0,4)]) [.agg x.cells]=some (.agg x.cells):=rfl;have n5:=n.fr F05;let⟨h6,e_h6,F_h6,o_h6⟩:=aj F5.wf [.int .u8 (k:Int),.str tg,.str ky,vs,.str tx,vp];have n6:=hnx e_h6;simp only[evs,seval,x5,p5,bld,←e_h6];have F06:=F05.then F_h6;apply aa (zP (mks _) x h6 _ F_h6.wf (a.fr F06) hm (n.fr F06) tgd (by simp[PT.len]) (Sl.lit o_h6 rfl));rintro u h7 ⟨s,es,F7,uE,_,st⟩;rw[em]at es;obtain⟨va,vc,s',rfl,es'⟩:=NT.sh_one es;have st0:=st [] h7 iS (Fr.refl F7.wf);have F07:=F06.then F7;let⟨b,o,i1,i2⟩:=st0.2.ix6 (i:=0) (by simp[NT.len]) (x0:=.int .u8 ((1:Nat):Int)) (x1:=.str tg) (x2:=.str ky) (x3:=va) (x4:=.str []) (x5:=vc) (r:=[]) rfl;have i1':aP (.ixs 6) [u,.int .i64 0]=some (.ptr b o):=i1;have on:=NH.ones st0.1;have oz7:=F7.get (F_h6.get oz5);let⟨h8,e_h8,F_h8,o_h8⟩:=aj F7.wf [.int .u8 0,.str [],.str [],.nils,.str [],.nils];simp only[evs,seval,i1',i2.2.2.2.2.2.2,←e_h8];apply ah (c':=[.int .u8 ((1:Nat):Int),.str tg,.str ky,va,.str [],vc]) F_h8.wf o_h8 rfl (by exact on) rfl;rintro h9 o9 F9 n9;have F79:Fr [] h7 h9:=F_h8.fresh F9 F7.wf (Nat.le_refl _);have N9:=NH.fr F79 st0.1;simp only[evs,seval,o9.at6.2.2.2.2.2.2];apply aa (nt F9.wf N9);rintro _ h10 ⟨rfl,F10⟩;have oz10:=F10.get (F79.get oz7);have F010:=(F07.then F79).then F10;have ec:ST.count 1 tg ky (sl.map (att x)) [] (bM x sub)=NT.count 1 tg ky (sl.map (att x)) [] s':=by rw[←es',NT.sh_count]
 rw[ec]at r1;by_cases z:NT.count 1 tg ky (sl.map (att x)) [] s'=0;simp only[evs,seval,(oM:((NT.count 1 tg ky (sl.map (att x)) [] s':Nat):Int)=0)];apply stu F10.wf oz10;rintro h11 o11 F11 n11;simp only[evs,seval,o11.at6.2.2.2.2.2.2];exact bad (r1.trans (if_pos (.inl z))) oM F010 oz10 F11;by_cases z2:most<((NT.count 1 tg ky (sl.map (att x)) [] s':Nat):Int);simp only[evs,seval,eq_false (oM:¬((NT.count 1 tg ky (sl.map (att x)) [] s':Nat):Int)=0),z2];apply stu F10.wf oz10;rintro h11 o11 F11 n11;simp only[evs,seval,o11.at6.2.2.2.2.2.2];exact bad (r1.trans (if_pos (.inr z2))) oM F010 oz10 F11;have r2:=r1.trans (if_neg oM);have l10:=(F10.get o9).at6.2.2.2.2.2.2;simp only[evs,seval,eq_false (oM:¬((NT.count 1 tg ky (sl.map (att x)) [] s':Nat):Int)=0),z2,l10];apply ah (c':=[.int .u8 ((1:Nat):Int),.str tg,.str ky,va,.str [],vc]) F10.wf oz10 rfl (by exact on) rfl;rintro h11 o11 F11 n11;simp only[evs,seval,o11.at6.2.2.2.2.2.2];rw[r2];refine⟨_,rfl,F010.fresh F11 w oM,fun q=>absurd rfl q,fun _=>⟨s',va,vc,rfl,fun X hh hX f=>?_,es'⟩⟩;have h7n:=F7.next;refine(st ([h2.next]++X) hh (fun y m=>?_) (Fr.trans (Fr.trans (T:=[h2.next]) (F79.then F10) F11 F7.wf iS (fun y hy=>.inl hy)) f F7.wf (fun y m=>.inl (List.mem_append.2 (.inl m))) (fun y m=>.inl (List.mem_append.2 (.inr m))))).1;have:=F5.next;have:=F4.next;have:=F_h3.next;have:=(show h3.next=h2.next+1 by rw[e_h3];rfl);obtain m|m:=List.mem_append.1 m;simp at m;omega;grind
def Gn(e:Nat)(h:Heap)(B:Nat)(v:V)(n:Nat)(cs:List V):Prop:=cs.length=n*e∧((n=0∧(v=.nils∨∃b,B≤b∧v=.slice b 0 0 0∧Own h b []))∨∃b,B≤b∧v=.sliceU b 0 n e∧Own h b cs)
theorem Gn.sl{e:Nat}{h:Heap}{B n:Nat}{v:V}{cs:List V}(g:Gn e h B v n cs):Sl h e v n cs:=by obtain⟨hl,⟨rfl,rfl|⟨b,_,rfl,o⟩⟩|⟨b,_,rfl,o⟩⟩:=g;exact⟨hl,rfl⟩;have:cs=[]:=List.length_eq_zero_iff.1 oM;subst this;exact⟨hl,rfl,Nat.le_refl _,[],o,iS,iS⟩;exact⟨hl,rfl,rfl,cs,o,oM,by rw[List.drop_zero,List.take_of_length_le oM]⟩
theorem Gn.fr{e:Nat}{h h':Heap}{B n:Nat}{v:V}{cs:List V}{X:List Nat}(g:Gn e h B v n cs)(f:Fr X h h')(hx:∀x∈X,x<B):Gn e h' B v n cs:=by obtain⟨hl,⟨rfl,rfl|⟨b,hb,rfl,o⟩⟩|⟨b,hb,rfl,o⟩⟩:=g;exact⟨hl,.inl ⟨rfl,.inl rfl⟩⟩;exact⟨hl,.inl ⟨rfl,.inr ⟨b,hb,rfl,f.own _ _ (fun m=>by have:=hx _ m;omega) o⟩⟩⟩;exact⟨hl,.inr ⟨b,hb,rfl,f.own _ _ (fun m=>by have:=hx _ m;omega) o⟩⟩
theorem Gn.one{e:Nat}{h:Heap}{B n:Nat}{v:V}{cs:List V}(g:Gn e h B v n cs):v.one=true:=g.sl.one
theorem Gn.nE{e:Nat}{h:Heap}{B n:Nat}{v:V}{cs:List V}(g:Gn e h B v n cs):v≠.sliceE:=by obtain⟨_,⟨_,rfl|⟨b,_,rfl,_⟩⟩|⟨b,_,rfl,_⟩⟩:=g<;>simp
def nZ:V→Bool:=fun _=>true
theorem _root_.Go.Ev.ASl.src{h:Heap}{e:Nat}{v:V}{n:Nat}{cs:List V}(a:ASl h e v n cs)(z:nZ v=true):srcLen v=some n∧srcCells h e v n=some cs∧(v≠.nils→aP (.nil 1 false) [v,.nils]=some (.bool false)):=by
 let⟨hl,a⟩:=a;cases v with
 |slice b o len cap=>obtain⟨rfl,_,c,hc,h2,q⟩:=a;exact⟨rfl,by simp only[Ev.srcCells,hc.ld,bS,bP _ _ (oO:len*e≤(c.drop o).length),q],fun _=>rfl⟩
 |sliceU b o len e'=>obtain⟨rfl,rfl,c,hc,h2,q⟩:=a;exact⟨rfl,by simp only[Ev.srcCells,hc.ld,bS,bP _ _ (oO:len*e'≤(c.drop o).length),q],fun _=>rfl⟩
 |nils=>have a:n=0:=a;subst a;simp at hl;subst hl;exact⟨rfl,rfl,fun q=>absurd rfl q⟩
 |sliceE=>have a:n=0:=a;subst a;simp at hl;subst hl;exact⟨rfl,rfl,fun _=>rfl⟩
 |sliceZ _ _=>have a:n=0:=a;subst a;simp at hl;subst hl;exact⟨rfl,rfl,fun _=>rfl⟩
 |_=>exact a.elim
def Itm.own(x:Itm)(v:V):Itm:=⟨x.key,x.type,x.text,x.marks,v⟩
def CpO(N:Nat)(h:Heap)(v:V)(L:List (List UInt8)):Prop:=(L=[]∧(v=.nils∨∃b,v=.slice b 0 0 0∧N≤b∧Own h b []))∨∃b,v=.slice b 0 L.length L.length∧N≤b∧Own h b (L.flatMap sS)
theorem CpO.fr{N:Nat}{h h':Heap}{v:V}{L:List (List UInt8)}{X:List Nat}(a:CpO N h v L)(f:Fr X h h')(l:∀y∈X,y<N):CpO N h' v L:=by obtain⟨e,rfl|⟨b,rfl,hb,o⟩⟩|⟨b,e,hb,o⟩:=a;exact .inl ⟨e,.inl rfl⟩;exact .inl ⟨e,.inr ⟨b,rfl,hb,f.own _ _ (fun m=>by have:=l b m;omega) o⟩⟩;exact .inr ⟨b,e,hb,f.own _ _ (fun m=>by have:=l b m;omega) o⟩
theorem CpO.rs{N:Nat}{h:Heap}{v:V}{L:List (List UInt8)}(a:CpO N h v L):Recs sS 1 h v L:=by have hl:(L.flatMap sS).length=L.length*1:=aC fM L;obtain⟨rfl,rfl|⟨b,rfl,_,o⟩⟩|⟨b,rfl,_,o⟩:=a;exact Recs.nil;exact Sl.lit o rfl;exact Sl.lit o hl
theorem CpO.one{N:Nat}{h:Heap}{v:V}{L:List (List UInt8)}(a:CpO N h v L):v.one=true:=Sl.one a.rs
theorem CpO.nE{N:Nat}{h:Heap}{v:V}{L:List (List UInt8)}(a:CpO N h v L):v≠.sliceE:=by obtain⟨_,rfl|⟨b,rfl,_,o⟩⟩|⟨b,rfl,_,o⟩:=a<;>simp
structure Knd where
 k:Nat
 tg:Str
 ky:Str
 sl:List Slo
 tx:Str
 vs:V
 vp:V
 sub:PT
 base:Int
 sticky:Bool
 pool:Int
def Knd.part(q:Knd):List V:=[.int .u8 (q.k:Int),.str q.tg,.str q.ky,q.vs,.str q.tx,q.vp]
def Knd.cells(q:Knd):List V:=q.part++[.int .i64 q.base,.bool q.sticky,.int .i64 q.pool]
theorem dW(q:Knd):q.cells.length=9:=rfl
def KndH(h:Heap)(q:Knd):Prop:=PH h (.cons q.k q.tg q.ky q.sl q.tx q.vs q.vp q.sub .nil)
theorem KndH.fr{h h':Heap}{q:Knd}(a:KndH h q)(f:Fr [] h h'):KndH h' q:=PH.fr f a
theorem KndH.ones{h:Heap}{q:Knd}(a:KndH h q):au q.part=true:=PH.ones a
def okB(b:Int):Bool:=decide (1≤b)&&decide (b≤2305843009213693952)
def okK(q:Knd):Bool:=okB q.base&&decide (PT.count q.k q.tg q.ky q.sl q.tx q.sub≠0)
theorem sU{h:Heap}(n:Int):ao go 98 [.int .i64 n] h fun u h'=>u=.bool (okB n)∧h=h':=by by_cases c:1≤n;refine ac ?_;simp only[evs,seval,c];simp[okB,c];refine ac ?_;simp only[evs,seval,c];simp[okB,c]
theorem He{h:Heap}{q:Knd}(w:WF h)(a:KndH h q):ao go 141 [.agg q.cells] h fun u h'=>u=.bool (!okK q)∧Fr [] h h':=by
 let⟨h1,e_h1,F_h1,o_h1⟩:=aj w q.cells;have l6:ag h1 h.next 6=some (.int .i64 q.base):=o_h1.ld1 6;have l0:ai h1 h.next 0 6=some q.part:=by rw[o_h1.ld];rfl
 refine ac ?_;simp only[evs,seval,←e_h1,l6];refine aa (sU _) ?_;rintro _ _ ⟨rfl,rfl⟩;cases c:okB q.base;simp only[evs,seval];exact⟨by simp[okK,c],F_h1⟩;simp only[evs,seval,l0];apply aa (rZ (va:=q.vs) (vc:=q.vp) F_h1.wf (a.fr F_h1));rintro _ h2 ⟨rfl,F2⟩;by_cases z:PT.count q.k q.tg q.ky q.sl q.tx q.sub=0;rw[if_pos z];simp only[evs,seval];exact⟨by simp[okK,z],F_h1.then F2⟩;rw[if_neg z];simp only[evs,seval];exact⟨by simp[okK,c,z],F_h1.then F2⟩
theorem yw{h:Heap}{v:V}{L:List Knd}(w:WF h)(a:Recs Knd.cells 9 h v L)(hL:∀q∈L,KndH h q)(hn:L.length≤4096):
 ao go 176 [v,.func (.func 141) [] []] h fun u h'=>∃r:Int,u=.int .i64 r∧(decide (0≤r)= !L.all okK)∧Fr [] h h':=by
 refine ac ?_;simp only[evs,seval,Recs.len a];refine az (fun k env hh=>Fr [] h hh∧∃(i:Nat),env.get 8=some (.int .i64 i)∧env.get 7=some (.int .i64 L.length)∧env.get 0=some v∧env.get 1=some (.func (.func 141) [] [])∧
  i≤L.length∧(L.drop i).all okK=L.all okK∧k=L.length-i) L.length oM ?_ ?_
 ·exact⟨Fr.refl w,0,iS,iS,iS,iS,oM,rfl,rfl⟩
 ·rintro k env hh ⟨F,i,g8,g7,g0,g1,hi,e,rfl⟩;by_cases hlt:i<L.length
  ·have hlt':(i:Int)<L.length:=oM
   let⟨b,o,s,e1,_,e3,e5⟩:=(Recs.fr a F).ix dW .i64 i oM hlt';rw[Int.toNat_natCast]at e5;rw[aK e5,List.all_cons]at e;have hs:=hL s (List.mem_of_getElem? e5);simp only[evs,seval,g8,g7,g0,g1,hlt',e1,e3];refine aa (He F.wf (hs.fr F)) ?_;rintro _ h1 ⟨rfl,F1⟩;cases c:okK s
   ·simp only[evs,seval];rw[c]at e;exact⟨i,rfl,by rw[←e];simp,F.then F1⟩
   ·simp(disch:=omega) only[evs,seval,ab,g8];rw[c]at e;refine rqn ⟨L.length-(i+1),oM,F.then F1,i+1,iS,iX,iX,iX,oM,by simpa using e,rfl⟩
    done
  ·simp only[evs,seval,g8,g7,(oM:¬(i:Int)<L.length)];rw[List.drop_of_length_le oM]at e;exact⟨-1,rfl,by rw[←e];rfl,F⟩
def okR(L:List Knd)(cap:Int):Bool:=decide (1≤L.length)&&(decide (L.length≤8)&&(decide (1≤cap)&&(decide (cap≤64)&&L.all okK)))
theorem pH{h:Heap}{v:V}{L:List Knd}{cap:Int}(w:WF h)(a:Recs Knd.cells 9 h v L)(hL:∀q∈L,KndH h q)(hn:L.length≤4096):
 ao go 95 [.agg [v,.int .i64 cap]] h fun u h'=>u=.int .i64 (if okR L cap then 0 else 7)∧Fr [] h h':=by
 let⟨h1,e_h1,F_h1,o_h1⟩:=aj w [v,.int .i64 cap];have l0:ag h1 h.next 0=some v:=o_h1.ld1 0;have l1:ag h1 h.next 1=some (.int .i64 cap):=o_h1.ld1 1;have len:=Recs.len a;by_cases c0:L.length<1;refine ac ?_;simp only[evs,seval,←e_h1,l0,len,(oM:(L.length:Int)<1)];exact⟨by simp[okR];omega,F_h1⟩;by_cases c1:8<L.length;refine ac ?_;simp only[evs,seval,←e_h1,l0,len,(oM:¬(L.length:Int)<1),(oM:(8:Int)<L.length)];exact⟨by simp[okR];omega,F_h1⟩;by_cases c2:cap<1;refine ac ?_;simp only[evs,seval,←e_h1,l0,l1,len,(oM:¬(L.length:Int)<1),(oM:¬(8:Int)<L.length),c2];exact⟨by simp[okR];omega,F_h1⟩;by_cases c3:64<cap;refine ac ?_;simp only[evs,seval,←e_h1,l0,l1,len,(oM:¬(L.length:Int)<1),(oM:¬(8:Int)<L.length),c2,c3];exact⟨by simp[okR];omega,F_h1⟩;refine ac ?_;simp only[evs,seval,←e_h1,l0,l1,len,(oM:¬(L.length:Int)<1),(oM:¬(8:Int)<L.length),c2,c3];refine aa (?_:ao go 143 _ _ (fun u h'=>u=.bool (!L.all okK)∧Fr [] h1 h')) ?_;refine ac ?_;simp only[evs,seval];refine aa (yw F_h1.wf (Recs.fr a F_h1) (fun q m=>(hL q m).fr F_h1) hn) ?_;rintro _ h2 ⟨r,rfl,e,F2⟩;simp only[evs,seval];exact⟨by rw[e],F2⟩;rintro _ h2 ⟨rfl,F2⟩;have e:okR L cap=L.all okK:=by simp[okR,(oM:1≤L.length),(oM:L.length≤8),(oM:1≤cap),(oM:cap≤64)]
 rw[e];cases c4:L.all okK;simp only[evs,seval];exact F_h1.then F2;simp only[evs,seval];exact F_h1.then F2
set_option maxRecDepth 4000
namespace PT
def same:PT→PT→Prop
 |nil,nil=>True
 |cons k tg ky sl tx _ _ s n,cons k' tg' ky' sl' tx' _ _ s' n'=>k=k'∧tg=tg'∧ky=ky'∧sl=sl'∧tx=tx'∧same s s'∧same n n'
 |_,_=>False
def app:PT→PT→PT
 |nil,t=>t
 |cons k tg ky a tx va vc sub nx,t=>cons k tg ky a tx va vc sub (nx.app t)
theorem app_cells:∀a b:PT,(a.app b).cells=a.cells++b.cells
 |nil,_=>rfl
 |cons _ _ _ _ _ _ _ _ nx,b=>by simp only[app,cells,app_cells nx b,List.append_assoc]
theorem app_len:∀a b:PT,(a.app b).len=a.len+b.len
 |nil,b=>by simp[app,len]
 |cons _ _ _ _ _ _ _ _ nx,b=>by simp only[app,len,app_len nx b];omega
end PT
theorem PH.app{h:Heap}:∀{a b:PT},PH h a→PH h b→PH h (a.app b)
 |.nil,_,_,q=>q
 |.cons _ _ _ _ _ _ _ _ _,_,⟨x1,x2,x3,x4,x5,x6,x7⟩,q=>⟨x1,x2,x3,x4,x5,x6,PH.app x7 q⟩
set_option maxRecDepth 4000
def rc(r:Int×Bool×Bool):List V:=[.int .i64 r.1,.bool r.2.1,.bool r.2.2]
theorem gN(r:Int×Bool×Bool):(rc r).length=3:=rfl
theorem Fu(r:Int×Bool×Bool):au (rc r)=true:=rfl
abbrev Rws(h:Heap)(v:V)(L:List (Int×Bool×Bool)):Prop:=Recs rc 3 h v L
def sz(L:List (Int×Bool×Bool)):List Int:=L.map fun r=>r.1
def ky(L:List (Int×Bool×Bool)):List Bool:=L.map fun r=>r.2.1
def sy(L:List (Int×Bool×Bool)):List Bool:=L.map fun r=>r.2.2
theorem dR(L:List (Int×Bool×Bool)):(sz L).length=L.length:=by simp[sz]
theorem C9(L:List (Int×Bool×Bool)):(ky L).length=L.length:=by simp[ky]
theorem Cg(L:List (Int×Bool×Bool)):(sy L).length=L.length:=by simp[sy]
theorem Rws.ix{h:Heap}{v:V}{L:List (Int×Bool×Bool)}(a:Rws h v L)(i:Nat)(h1:(i:Int)<L.length):
 ∃b o r,aP (.ixs 3) [v,.int .i64 i]=some (.ptr b o)∧ag h b o=some (.int .i64 r.1)∧ag h b (o+1)=some (.bool r.2.1)∧ag h b (o+2)=some (.bool r.2.2)∧ai h b o 3=some [.int .i64 r.1,.bool r.2.1,.bool r.2.2]∧L[i]? =some r:=by
 let⟨b,o,s,e,g,g2,e3⟩:=Recs.ix gN a .i64 i oM h1;exact⟨b,o,s,e,by simpa[rc]using g 0 oM,by simpa[rc]using g 1 oM,by simpa[rc]using g 2 oM,g2,by simpa using e3⟩
theorem xM{L:List (Int×Bool×Bool)}{i:Nat}{r:Int×Bool×Bool}(h:L[i]? =some r):(sz L)[i]? =some r.1:=by simp[sz,h]
theorem Ce{l:List Int}{i:Nat}{x:Int}(h:l[i]? =some x):(l.take (i+1)).sum=(l.take i).sum+x:=by rw[List.take_add_one,h];simp
theorem un{l:List Int}(f:Fit l)(i:Nat):0≤(l.take i).sum∧(l.take i).sum≤l.sum:=by have h1:=(f.sub (List.take_sublist i l)).nn;have h2:=List.sum_append (l₁:=l.take i) (l₂:=l.drop i);rw[List.take_append_drop]at h2;have:=(f.sub (List.drop_sublist i l)).nn;omega
theorem r9{l:List Int}(f:Fit l){i j:Nat}(h:i≤j):(l.take i).sum≤(l.take j).sum:=by have:=un (f.sub (List.take_sublist j l)) i;rw[List.take_take,Nat.min_eq_left h]at this;exact this.2
theorem zB{h:Heap}{v:V}{L:List (Int×Bool×Bool)}{i:Nat}(a:Rws h v L)(f:Fit (sz L))(hi:i≤L.length):ao go 37 [v,.int .i64 (i:Int)] h fun u h'=>u=.int .i64 ((sz L).take i).sum∧h'=h:=by
 have f3:=f.2.2;rw[dR]at f3;refine ac ?_;simp only[evs,seval];refine az (fun k env hh=>h=hh∧∃j:Nat,env.get 6=some (.int .i64 j)∧env.get 5=some (.int .i64 ((sz L).take j).sum)∧env.get 0=some v∧env.get 1=some (.int .i64 i)∧j≤i∧k=i-j) i oM ?_ ?_
 ·exact⟨rfl,0,iS,iS,iS,iS,oM,rfl⟩
 ·rintro k env hh ⟨rfl,j,g6,g5,g0,g1,hj,rfl⟩;by_cases hlt:(j:Int)<i
  ·let⟨b,o,r,e1,e2,e3,e4,e5,e6⟩:=Rws.ix a j oM;have ts:=Ce (xM e6);have t1:=un f j;have t2:=un f (j+1);have f2:=f.2.1;simp(disch:=omega) only[evs,seval,ab,g6,g5,g0,g1,hlt,e1,e2];refine rqn ⟨i-(j+1),oM,rfl,j+1,iS,iX,iX,iX,oM,rfl⟩
   done
  ·simp only[evs,seval,g6,g5,g1,hlt];rw[(oM:j=i)]
theorem A2{h:Heap}{v:V}{L:List (Int×Bool×Bool)}(a:Rws h v L)(f:Fit (sz L)):ao go 32 [v] h fun u h'=>u=.int .i64 (sz L).sum∧h'=h:=by refine ac ?_;simp only[evs,seval,a.len];refine aa (zB a f (Nat.le_refl _)) ?_;rintro _ _ ⟨rfl,hh⟩;replace hh:=hh.symm;subst hh;simp only[evs,seval];rw[List.take_of_length_le (by rw[dR];omega)]
theorem nY:∀{l:List Int}{x:Int},0≤x→x<l.sum→(l.take (aB l x).1).sum≤x∧x<(l.take ((aB l x).1+1)).sum∧(aB l x).2=x-(l.take (aB l x).1).sum
 |[],x,h0,h1=>by simp at h1;omega
 |s::l,x,h0,h1=>by simp only[aB];by_cases c:x<s;grind;simp only[if_neg c];have:=nY (l:=l) (x:=x-s) oM (by simp at h1;omega);simp only[List.take_succ_cons,List.sum_cons];omega
theorem yo{l:List Int}(f:Fit l){x:Int}(h0:0≤x)(h1:x<l.sum)(i:Nat):(l.take i).sum≤x↔i≤(aB l x).1:=by let⟨a,b,_⟩:=nY h0 h1;constructor;intro h;obtain c|c:=Nat.lt_or_ge (aB l x).1 i;have:=r9 f (oM:(aB l x).1+1≤i);omega;exact c;intro h;have:=r9 f h;omega
def HdR(l:List Int)(bs:List Bool)(s:Int)(j:Nat)(r:Int):Prop:=(r=-1∧∀i:Nat,i<j→bs.getD i false=true→s<(l.take i).sum)∨
 ∃p:Nat,r=p∧p<j∧bs.getD p false=true∧(l.take p).sum≤s∧∀i:Nat,p<i→i<j→bs.getD i false=true→s<(l.take i).sum
theorem Is{L:List (Int×Bool×Bool)}{i:Nat}{r:Int×Bool×Bool}(h:L[i]? =some r):(sy L).getD i false=r.2.2:=by simp[sy,List.getD,h]
theorem HdR.skip{l:List Int}{bs:List Bool}{s r:Int}{j:Nat}(a:HdR l bs s j r)(h:bs.getD j false=true→s<(l.take j).sum):HdR l bs s (j+1) r:=by obtain⟨e,a⟩|⟨p,e,h1,h2,h3,h4⟩:=a;refine .inl ⟨e,fun i hi hb=>?_⟩;obtain c|c:=Nat.lt_or_ge i j;exact a i c hb;grind;refine .inr ⟨p,e,oM,h2,h3,fun i hp hi hb=>?_⟩;obtain c|c:=Nat.lt_or_ge i j;exact h4 i hp c hb;grind
def yL(f t hd:Int)(n:Nat):List Int:=((List.range n).filter fun(i:Nat)=>decide ((f≤(i:Int)∧(i:Int)<t)∨(i:Int)=hd)).map fun(i:Nat)=>(i:Int)
theorem BF(f t hd:Int)(n:Nat):yL f t hd (n+1)=yL f t hd n++if(f≤(n:Int)∧(n:Int)<t)∨(n:Int)=hd then[(n:Int)]else[]:=by unfold yL;rw[List.range_succ,List.filter_append,List.map_append];congr 1;by_cases c:(f≤(n:Int)∧(n:Int)<t)∨(n:Int)=hd;grind;grind
def ic(x:Int):List V:=[.int .i64 x]
theorem Dh(x:Int):(ic x).length=1:=rfl
theorem Gw(A:List Int):A.flatMap ic=A.map (V.int .i64):=by induction A with
 |nil=>rfl
 |cons x A ih=>simp[List.flatMap_cons,ic,ih]
def RwF(h:Heap)(v:V)(L:List (Int×Bool×Bool)):Prop:=(v=.nils∧L=[])∨∃b,(v=.sliceU b 0 L.length 3∨v=.slice b 0 L.length L.length)∧Own h b (L.flatMap rc)∧0<L.length
theorem RwF.rws{h:Heap}{v:V}{L:List (Int×Bool×Bool)}(a:RwF h v L):Rws h v L:=by obtain⟨rfl,rfl⟩|⟨b,rfl|rfl,o,_⟩:=a;exact Recs.nil;exact⟨aC gN L,rfl,rfl,_,o,by rw[aC gN];omega,by rw[List.drop_zero,List.take_of_length_le (by rw[aC gN];omega)]⟩;exact Sl.lit o (aC gN L)
theorem RwF.fr{h h':Heap}{v:V}{L:List (Int×Bool×Bool)}(a:RwF h v L)(f:Fr [] h h'):RwF h' v L:=by obtain x|⟨b,e,o,p⟩:=a;exact .inl x;exact .inr ⟨b,e,f.get o,p⟩
theorem wg{L:List (Int×Bool×Bool)}(p:0<L.length):∀n m ws,ws.length=64→L.flatMap rc≠flc n m ws:=by
 intro n m ws _ e;cases L with
 |nil=>simp at p
 |cons r L=>
  have:V.bool r.2.1∈flc n m ws:=by rw[←e];simp[rc]
  simp[flc,uw]at this
theorem RwF.frF{h h':Heap}{v:V}{L:List (Int×Bool×Bool)}{b:Nat}{c:List V}(a:RwF h v L)(f:FrF b h h')(o:Own h b c)(hc:∀x∈c,∀k n,x≠.int k n):RwF h' v L:=by
 obtain x|⟨q,e,oq,p⟩:=a;exact .inl x;refine .inr ⟨q,e,f.own _ _ ?_ (wg p) oq,p⟩;rintro rfl;cases L with
 |nil=>simp at p
 |cons r L=>exact hc (.int .i64 r.1) (by rw[←oq.uniq o];simp[rc]) _ _ rfl
theorem RwF.frF'{h h':Heap}{v:V}{L:List (Int×Bool×Bool)}{b:Nat}(a:RwF h v L)(f:FrF b h h')(w:WF h)(hb:h.next≤b):RwF h' v L:=by obtain x|⟨q,e,oq,p⟩:=a;exact .inl x;exact .inr ⟨q,e,f.own _ _ (by have:=oq.lt w;omega) (wg p) oq,p⟩
theorem GRecs.rwf{h:Heap}{B:Nat}{v:V}{L:List (Int×Bool×Bool)}(a:GRecs rc 3 h B v L):RwF h v L:=by obtain⟨e,e2⟩|⟨b,n,rfl,hl,hn,_,o⟩:=a;have:=congrArg List.length e2;rw[aC gN,List.length_nil]at this;exact .inl ⟨e,List.length_eq_zero_iff.1 oM⟩;rw[aC gN]at hl;have:n=L.length:=oM;subst this;exact .inr ⟨b,.inl rfl,o,hn⟩
def uc(p:Nat×Nat):List V:=[.int .u8 (p.1:Int),.int .u8 (p.2:Int)]
theorem B6(p:Nat×Nat):(uc p).length=2:=rfl
structure Good(L:List (Int×Bool×Bool)):Prop where
 len:L.length≤1024
 one:∀r∈L,1≤r.1∧r.1≤2305843009213693952
 sum:(sz L).sum≤4611686018427387904
theorem Good.fit{L:List (Int×Bool×Bool)}(g:Good L):Fit (sz L):=by refine⟨fun x hx=>?_,g.sum,by rw[dR];have:=g.len;omega⟩;simp only[sz,List.mem_map]at hx;obtain⟨r,hr,rfl⟩:=hx;have:=g.one r hr;omega
theorem Good.pos{L:List (Int×Bool×Bool)}(g:Good L):∀x∈sz L,1≤x:=by intro x hx;simp only[sz,List.mem_map]at hx;obtain⟨r,hr,rfl⟩:=hx;exact(g.one r hr).1
theorem zq:∀(l:List Int)(t:Int),(∀x∈l,1≤x∧x≤2305843009213693952)→t+l.sum≤4611686018427387904→rH t l=0
 |[],_,_,_=>rfl
 |s::l,t,h,hs=>by
  have h1:=h s iS;have nn:=sum_nn (l:=l) fun x hx=>by have:=h x iX;omega
  simp only[List.sum_cons]at hs;rw[rH,if_neg oM,if_neg oM];exact zq l (t+s) (fun x hx=>h x iX) oM
def bc(x:Bool):List V:=[.bool x]
theorem D1(x:Bool):(bc x).length=1:=rfl
theorem Ha(A:List Bool):A.flatMap bc=A.map V.bool:=by induction A with
 |nil=>rfl
 |cons x A ih=>simp[List.flatMap_cons,bc,ih]
theorem GRecs.keep{α β:Type}{f:α→List V}{g:β→List V}{k k' B B':Nat}{h h':Heap}{v v':V}{L:List α}{M:List β}(a:GRecs f k h B v L)(b:GRecs g k' h B' v' M)(F:Fr (vb v') h h')
 (hd:∀(n:Nat),L.flatMap f=M.flatMap g→(L.flatMap f).length=n*k→¬0<n):GRecs f k h' B v L:=by
 obtain x|⟨q,n,rfl,hl,hn,hB,o⟩:=a;exact .inl x;refine .inr ⟨q,n,rfl,hl,hn,hB,F.own _ _ ?_ o⟩;obtain⟨rfl,_⟩|⟨q',n',rfl,_,_,_,o'⟩:=b;simp[vb];simp only[vb,List.mem_singleton];rintro rfl;exact hd n (o.uniq o') hl hn
theorem H6{A:List Int}{B:List Bool}(h:A.flatMap ic=B.flatMap bc):A=[]:=by
 cases A with
 |nil=>rfl
 |cons x A=>
  cases B with
  |nil=>simp[List.flatMap_cons,ic]at h
  |cons y B=>simp[List.flatMap_cons,ic,bc]at h
theorem Jy{h:Heap}{v:V}{L:List (Int×Bool×Bool)}(w:WF h)(a:RwF h v L)(g:Good L):
 ao go 7 [v] h fun u h'=>∃b,u=.ptr b 0∧h.next≤b∧Lo h' b (sz L) (ky L) (sy L)∧FrF b h h':=by
 have fit:=g.fit;have gl:=g.len;refine ac ?_;simp only[evs];refine aa (HA w) ?_;rintro _ h1 ⟨b,rfl,hb,lo1,ob1,F1⟩;have a1:=(a.fr F1).rws;simp only[evs];refine az (fun k env hh=>∃(j:Nat)(v4 v5:V),Fr [] h1 hh∧env.get 0=some v∧env.get 3=some (.ptr b 0)∧env.get 4=some v4∧env.get 5=some v5∧env.get 6=some (.int .i64 j)∧j≤L.length∧GRecs ic 1 hh h1.next v4 (sz (L.take j))∧GRecs bc 1 hh h1.next v5 (sy (L.take j))∧k=L.length-j) L.length oM ?_ ?_
 ·exact⟨0,.nils,.nils,Fr.refl F1.wf,iS,iS,iS,iS,iS,oM,GRecs.nil,GRecs.nil,rfl⟩
 rintro k env hh ⟨j,v4,v5,F,g0,g3,g4,g5,g6,hj,G4,G5,rfl⟩;have a2:=Recs.fr a1 F;by_cases hlt:(j:Int)<L.length
 ·let⟨bb,o,r,e1,e2,e3,e4,e5,e6⟩:=Rws.ix a2 j hlt;have tk1:sz (L.take (j+1))=sz (L.take j)++[r.1]:=by rw[List.take_add_one,e6];simp[sz]
  have tk2:sy (L.take (j+1))=sy (L.take j)++[r.2.2]:=by rw[List.take_add_one,e6];simp[sy]
  have l1:(sz (L.take j)).length≤1024:=by rw[dR];simp;omega
  have l2:(sy (L.take j)).length≤1024:=by rw[Cg];simp;omega
  obtain⟨h2,e_h2⟩:∃h2,h2=halloc hh (ic r.1):=⟨_,rfl⟩;have F_h2:Fr [] hh h2:=e_h2▸Fr.halloc F.wf _;have o_h2:Own h2 hh.next (ic r.1):=e_h2▸Own.new F.wf _;have e2':halloc hh [.int .i64 r.1]=h2:=e_h2.symm;simp only[evs,seval,g0,g4,g6,a2.len,hlt,e1,e2,e2'];apply GRecs.append (x:=r.1) F_h2.wf (G4.fr F_h2) Dh rfl oM o_h2 (Nat.le_trans F.next F_h2.next) oM;intro v4' h3 G4' F3;have U3:=Gs.up (G4.fr F_h2) F3;have F13:Fr [] h1 h3:=(F.then F_h2).ups F1.wf U3;have G5':GRecs bc 1 h3 h1.next v5 (sy (L.take j)):=GRecs.keep (G5.fr F_h2) (G4.fr F_h2) F3 (fun n e hl=>by
   have:=H6 e.symm;rw[←e.symm,this]at hl;simp at hl;omega)
  let⟨bb',o',r',d1,d2,d3,d4,d5,d6⟩:=Rws.ix (Recs.fr a1 F13) j hlt;rw[e6]at d6;cases d6;obtain⟨h4,e_h4⟩:∃h4,h4=halloc h3 (bc r.2.2):=⟨_,rfl⟩;have F_h4:Fr [] h3 h4:=e_h4▸Fr.halloc F13.wf _;have o_h4:Own h4 h3.next (bc r.2.2):=e_h4▸Own.new F13.wf _;have e4':halloc h3 [.bool r.2.2]=h4:=e_h4.symm;simp only[evs,seval,g0,g5,g6,d1,d4,e4'];apply GRecs.append (x:=r.2.2) F_h4.wf (G5'.fr F_h4) D1 rfl oM o_h4 (Nat.le_trans F13.next F_h4.next) oM;intro v5' h5 G5'' F5;have U5:=Gs.up (G5'.fr F_h4) F5;have G4'':GRecs ic 1 h5 h1.next v4' (sz (L.take j)++[r.1]):=GRecs.keep (G4'.fr F_h4) (G5'.fr F_h4) F5 (fun n e hl=>by
   have:=H6 e;simp at this)
  simp(disch:=omega) only[evs,seval,ab,g6];refine rqn ⟨L.length-(j+1),oM,j+1,v4',v5',(F13.then F_h4).ups F1.wf U5,iX,iX,iS,iS,iS,oM,by rw[tk1];exact G4'',by rw[tk2];exact G5'',rfl⟩
  done
 ·have ej:j=L.length:=oM
  subst ej;rw[List.take_length]at G4 G5;have im:rB hh v4 (sz L):=by have:=G4.recs Dh oM;show Sl _ 1 _ _ _;rw[←Gw];exact this
  have bm:Bools hh v5 (sy L):=by have:=G5.recs D1 oM;show Sl _ 1 _ _ _;rw[←Ha];exact this
  have xz:dD [] 0 (sz L)=0:=by
   unfold dD;have:rH 0 (sz L)=0:=zq _ _ (fun x hx=>by
    simp only[sz,List.mem_map]at hx;obtain⟨r,hr,rfl⟩:=hx;exact g.one r hr) (by have:=g.sum;omega)
   rw[if_pos iS,if_neg (by simp[dR];omega),if_pos this,if_neg (by have:=g.sum;simp;omega)]
  simp only[evs,seval,g0,g3,g4,g5,g6,a2.len,hlt];refine aa (HB F.wf (lo1.fr F) im bm (by rw[dR];omega) (by rw[Cg,dR]) oM oM) ?_;rintro _ h6 ⟨rfl,F6,hlo⟩;rw[xz,if_pos rfl]at hlo;rw[xz];have F06:FrF b h h6:=(frF (F1.then F)).trans F6;have lo6:Lo h6 b (sz L) (List.replicate L.length false) (sy L):=by simpa[dR]using hlo
  have a6:=a.frF' F06 w hb;simp only[evs,seval];refine az (fun k env hh=>∃(j:Nat),FrF b h hh∧env.get 0=some v∧env.get 3=some (.ptr b 0)∧env.get 7=some (.int .i64 j)∧j≤L.length∧Lo hh b (sz L) ((ky L).take j++List.replicate (L.length-j) false) (sy L)∧k=L.length-j) L.length oM ?_ ?_
  ·exact⟨0,F06,iX,iX,iS,oM,by simpa using lo6,rfl⟩
  rintro k env hh ⟨j,FF,g0,g3,g7,hj,lo,rfl⟩;have a7:=(a.frF' FF w hb).rws;by_cases hlt2:(j:Int)<L.length
  ·let⟨bb,o,r,e1,e2,e3,e4,e5,e6⟩:=Rws.ix a7 j hlt2;have rg:=g.one r (List.mem_of_getElem? e6);have kg:(ky L)[j]? =some r.2.1:=by simp[ky,e6]
   have kl:(ky L).length=L.length:=C9 L;cases hk:r.2.1
   ·rw[hk]at e3 kg;simp(disch:=omega) only[evs,seval,ab,g0,g7,a7.len,hlt2,e1,e3];have ee:(ky L).take (j+1)++List.replicate (L.length-(j+1)) false=(ky L).take j++List.replicate (L.length-j) false:=by
     rw[List.take_add_one,kg,(oM:L.length-j=(L.length-(j+1))+1),List.replicate_succ];simp
    refine rqn ⟨L.length-(j+1),oM,j+1,FF,iX,iX,iS,oM,by rw[ee];exact lo,rfl⟩
    done
   ·rw[hk]at e3 kg;have sg:=xM e6;have sgd:(sz L).getD j 0=r.1:=by simp[List.getD,sg]
    have gs:=g.sum;have xs:cS (sz L) j r.1=0:=by
     unfold cS;rw[if_pos ⟨oM,by rw[dR];omega⟩,if_neg oM,Int.toNat_natCast,sgd,if_neg oM]
    simp only[evs,seval,g0,g3,g7,a7.len,hlt2,e1,e3,e2];apply aa (Hz FF.wf lo oM oM oM oM);rintro _ h8 ⟨rfl,lo8,F8⟩;rw[xs,if_pos rfl]at lo8;rw[xs];simp only[Int.toNat_natCast]at lo8;have es:(sz L).set j r.1=sz L:=by
     apply List.ext_getElem?;intro i;rw[List.getElem?_set];by_cases c:j=i
     ·grind
     ·rw[if_neg c]
    have ek:=uC (ky L) j true kg;rw[kl]at ek;rw[es,ek]at lo8;simp(disch:=omega) only[evs,seval,ab,g7];refine rqn ⟨L.length-(j+1),oM,j+1,FF.trans F8,iX,iX,iS,oM,lo8,rfl⟩
    done
  ·have ej:j=L.length:=oM
   subst ej;rw[←C9 L,List.take_length,Nat.sub_self,List.replicate_zero,List.append_nil]at lo;simp only[evs,seval,g0,g3,g7,a7.len,hlt2];exact⟨b,rfl,hb,lo,FF⟩
theorem Cl(a:Int)(b c:Bool):aP (.seq true [0,1,1]) [.agg [.int .i64 a,.bool b,.bool c],.agg [.int .i64 a,.bool b,.bool c]]=some (.bool false):=by
 have h1:ieq a a=true:=by rw[dh];simp
 simp only[aP,fZ,bG,h1,cond_true,Bool.xor_self,cond_false,Option.map_some,Bool.not_true]
theorem Fo{h:Heap}{b:Nat}{v:V}{L:List (Int×Bool×Bool)}(w:WF h)(lo:Lo h b (sz L) (ky L) (sy L))(a:Rws h v L)(g:Good L):ao go 12 [.ptr b 0,v] h fun u h'=>u=.int .i64 1∧Fr [] h h':=by
 have fit:=g.fit;have gl:=g.len;refine ac ?_;simp only[evs,seval];refine aa (gL w lo) ?_;rintro _ h1 ⟨rfl,F1⟩;have a1:=Recs.fr a F1;rw[dR];simp only[evs,seval,a1.len];apply aa (nV F1.wf (lo.fr F1));rintro _ h2 ⟨rfl,F2⟩;have F12:=F1.then F2;simp only[evs,seval];apply aa (A2 (Recs.fr a F12) fit);rintro _ _ ⟨rfl,hh⟩;replace hh:=hh.symm;subst hh;simp only[evs,seval];refine az (fun k env hh=>∃j:Nat,Fr [] h hh∧env.get 0=some (.ptr b 0)∧env.get 1=some v∧env.get 5=some (.int .i64 j)∧j≤L.length∧k=L.length-j) L.length oM ?_ ?_
 ·exact⟨0,F12,iS,iS,iS,oM,rfl⟩
 rintro k env hh ⟨j,F,g0,g1,g5,hj,rfl⟩;have a2:=Recs.fr a F;by_cases hlt:(j:Int)<L.length
 ·let⟨bb,o,r,e1,e2,e3,e4,e5,e6⟩:=Rws.ix a2 j hlt;have sg:(sz L).getD j 0=r.1:=by have:=xM e6;simp[List.getD,this]
  have kg:(ky L).getD j false=r.2.1:=by simp[ky,List.getD,e6]
  have yg:=Is e6;simp only[evs,seval,g0,g1,g5,a2.len,hlt];apply aa (ER F.wf (lo.fr F));rintro _ h3 ⟨rfl,F3⟩;rw[if_pos ⟨oM,by rw[dR];omega⟩,Int.toNat_natCast,sg];have F03:=F.then F3;simp only[evs,seval,g0,g5];apply aa (B0 F3.wf (lo.fr F03));rintro _ h4 ⟨rfl,F4⟩;rw[if_pos ⟨oM,by rw[dR];omega⟩,Int.toNat_natCast,kg];have F04:=F03.then F4;simp only[evs,seval,g0,g5];apply aa (zf F4.wf (lo.fr F04) oM oM);rintro _ h5 ⟨rfl,F5⟩;rw[if_pos ⟨oM,by rw[dR];omega⟩,Int.toNat_natCast,yg];have F05:=F04.then F5;simp only[evs,seval,g0,g5];apply aa (Hy F5.wf (lo.fr F05));rintro _ h6 ⟨rfl,F6⟩;rw[if_pos ⟨oM,by rw[dR];omega⟩,Int.toNat_natCast];have F06:=F05.then F6;have a6:=Recs.fr a F06;simp only[evs,seval,g1,g5];apply aa (zB a6 fit oM);rintro _ _ ⟨rfl,hh⟩;replace hh:=hh.symm;subst hh;let⟨bb',o',r',d1,d2,d3,d4,d5,d6⟩:=Rws.ix a6 j hlt;rw[e6]at d6;cases d6;simp(disch:=omega) only[evs,seval,ab,g1,g5,d1,d5,Cl];refine rqn ⟨L.length-(j+1),oM,j+1,F06,iX,iX,iS,oM,rfl⟩
  done
 ·simp only[evs,seval,g1,g5,a2.len,hlt];exact F
theorem gW{bs:List Bool}{p:Nat}(h:bs.getD p false=true):(bs.take (p+1)).count true=(bs.take p).count true+1:=by
 rw[List.take_add_one];cases hb:bs[p]? with
 |none=>simp[List.getD,hb]at h
 |some x=>simp[List.getD,hb]at h;subst h;simp
theorem qH{bs:List Bool}{p:Nat}(h:bs.getD p false=false):(bs.take (p+1)).count true=(bs.take p).count true:=by
 rw[List.take_add_one];cases hb:bs[p]? with
 |none=>simp
 |some x=>simp[List.getD,hb]at h;subst h;simp
theorem w9(bs:List Bool){p q:Nat}(h:p≤q):(bs.take p).count true≤(bs.take q).count true:=by
 have:bs.take p=(bs.take q).take p:=by grind
 rw[this];exact List.Sublist.count_le _ (List.take_sublist _ _)
theorem Aa{bs:List Bool}{p q:Nat}(h:p≤q)(hz:∀i,p≤i→i<q→bs.getD i false=false):(bs.take q).count true=(bs.take p).count true:=by
 obtain⟨k,rfl⟩:∃k,q=p+k:=⟨q-p,oM⟩;induction k with
 |zero=>rfl
 |succ k ih=>rw[(oM:p+(k+1)=(p+k)+1),qH (hz (p+k) oM oM),ih oM (fun i a b=>hz i a oM)]
theorem Sel.uniq{bs:List Bool}{k p q:Nat}(a:Sel bs k p)(b:Sel bs k q):p=q:=by let⟨_,a2,a3⟩:=a;let⟨_,b2,b3⟩:=b;obtain h|h|h:=Nat.lt_trichotomy p q;have:=w9 bs (oM:p+1≤q);rw[gW a2]at this;omega;exact h;have:=w9 bs (oM:q+1≤p);rw[gW b2]at this;omega
theorem GB{l:List Int}{bs:List Bool}{s hr he hd:Int}(f:Fit l)(hl:bs.length=l.length)(s0:0≤s)(s1:s<l.sum)(hne:l≠[])(a:HeadS l bs s hr he)(b:HdR l bs s l.length hd):
 (hd=-1∧he=11∧hr=0)∨(∃p:Nat,hd=p∧hr=p∧he=0∧p<l.length∧p≤(aB l s).1∧bs.getD p false=true):=by
 have lt:=bF s0 s1;unfold HeadS at a;rw[if_neg iX,if_pos ⟨s0,s1⟩]at a;obtain⟨e,hno⟩|⟨p,e,h1,h2,h3,h4⟩:=b;have z:(bs.take ((aB l s).1+1)).count true=0:=by
  have:=Aa (bs:=bs) (p:=0) (q:=(aB l s).1+1) oM (fun i _ hi=>by
   cases hb:bs.getD i false;rfl;have:=hno i oM hb;have:=(yo f s0 s1 i).2 oM;omega)
  simpa using this
 rw[if_pos z]at a;exact .inl ⟨e,a.2,a.1⟩;have hp:=(yo f s0 s1 p).1 h3;have c:(bs.take ((aB l s).1+1)).count true=(bs.take p).count true+1:=by rw[←gW h2];refine Aa oM fun i a b=>?_;cases hb:bs.getD i false;rfl;have:=h4 i oM oM hb;have:=(yo f s0 s1 i).2 oM;omega
 rw[if_neg oM]at a;let⟨e0,q,e1,sq⟩:=a;have:q=p:=Sel.uniq sq ⟨oM,h2,oM⟩;subst this;exact .inr ⟨q,e,e1,e0,h1,hp,h2⟩
theorem mP(f t hd:Int)(hf:0≤f)(hft:f≤t)(hh:hd<t):∀j:Nat,yL f t hd j=(if 0≤hd∧hd<f∧hd<(j:Int)then[hd]else[])++rng f (min (j:Int) t-f).toNat
 |0=>by rw[if_neg oM,(oM:(min ((0:Nat):Int) t-f).toNat=0)];rfl
 |j+1=>by have q:=BF f t hd j;rw[mP f t hd hf hft hh j]at q;obtain⟨X,hX⟩:∃X,X=(if(f≤(j:Int)∧(j:Int)<t)∨(j:Int)=hd then[(j:Int)]else[]):=⟨_,rfl⟩;rw[q];clear q;rw[←hX];by_cases c1:f≤(j:Int)∧(j:Int)<t;rw[if_pos (.inl c1)]at hX;rw[hX,List.append_assoc];have e1:(min ((j+1:Nat):Int) t-f).toNat=(min (j:Int) t-f).toNat+1:=oM;rw[e1,pX];have e2:f+((min (j:Int) t-f).toNat:Int)=j:=oM;rw[e2];congr 1;by_cases c2:0≤hd∧hd<f∧hd<(j:Int);grind;grind;by_cases c2:(j:Int)=hd;rw[if_pos (.inr c2)]at hX;rw[hX,if_neg oM,if_pos oM,(oM:(min ((j+1:Nat):Int) t-f).toNat=0),(oM:(min (j:Int) t-f).toNat=0),c2];simp[rng];grind
theorem Jg{l:List Int}{bs:List Bool}{view over s hd:Int}{A:List Int}(f:Fit l)(hl:bs.length=l.length)(s0:0≤s)(s1:s<l.sum)(hne:l≠[])(h1:1≤view)(o0:0≤over)(a:JD l bs view over s A)(b:HdR l bs s l.length hd):
 A=yL (dA l view over s).1 (dA l view over s).2 hd l.length:=by
 let⟨hr,he,hs,e⟩:=a;have lt1:=bF s0 s1;have hlen:=List.length_pos_iff.2 hne;have ll:((aB l s).1:Int)≤cW l view s∧cW l view s<l.length:=by unfold cW;split;have:=eN l (x:=s) (y:=s+view-1) oM;have:=bF (l:=l) (x:=s+view-1) oM (by assumption);omega;omega
 obtain⟨fr,hfr⟩:∃fr,fr=(dA l view over s).1:=⟨_,rfl⟩;obtain⟨to',hto⟩:∃t,t=(dA l view over s).2:=⟨_,rfl⟩;rw[←hfr,←hto]at e⊢;have e1:fr=max 0 (((aB l s).1:Int)-over):=hfr;have e2:to'=min (l.length:Int) (cW l view s+1+over):=hto;obtain⟨x1,x2,x3⟩|⟨p,x1,x2,x3,x4,x5,_⟩:=GB f hl s0 s1 hne hs b;rw[mP fr to' hd oM oM oM l.length,if_neg oM,e,if_neg oM,(oM:min (l.length:Int) to'=to')];rw[mP fr to' hd oM oM oM l.length,e,(oM:min (l.length:Int) to'=to')];congr 1;by_cases c:hr<fr;grind;grind
set_option maxRecDepth 4000
structure Hp(h:Heap)(b fb:Nat)(v:V)(L:List (Int×Bool×Bool))(view over:Int):Prop where
 wf:WF h
 glb:Glb h
 lo:Lo h b (sz L) (ky L) (sy L)
 fo:Own h fb [.int .i64 view,.int .i64 over,.bool false]
 rw:Rws h v L
 good:Good L
 v1:1≤view
 v2:view≤300
 o0:0≤over
 o1:over≤16
theorem Hp.fr{h h':Heap}{b fb:Nat}{v:V}{L:List (Int×Bool×Bool)}{view over:Int}(H:Hp h b fb v L view over)(F:Fr [] h h'):Hp h' b fb v L view over:=
 ⟨F.wf,H.glb.fr F,H.lo.fr F,F.get H.fo,Recs.fr H.rw F,H.good,H.v1,H.v2,H.o0,H.o1⟩
theorem C4 {h : Heap} (g : Glb h) : ao go 13 [] h fun u h' => u = .bool true ∧ h' = h :=
 ⟨.bool true, h, Kk FM rfl (by unfold lov; rw [if_pos ⟨rfl, rfl, g⟩]), rfl, rfl⟩
theorem xL : ∀ n m ws, ws.length = 64 → fg ≠ flc n m ws := by intro n m ws hl e;have := congrArg List.length e;simp [flc, hl, fg] at this;exact absurd this (by decide)
theorem Glb.frF {h h' : Heap} {b : Nat} (g : Glb h) (f : FrF b h h') (hb : 0 ≠ b) : Glb h' := f.pl _ _ hb xL g
def mD(n:Nat)(a k:Int):Prop:=a<0∨k<0∨(n:Int)<a∨(n:Int)-a<k
instance(n:Nat)(a k:Int):Decidable (mD n a k):=by unfold mD;infer_instance
def JN(n:Nat)(a k t:Int):Prop:=mD n a k∨t<0∨(n:Int)-k<t
instance(n:Nat)(a k t:Int):Decidable (JN n a k t):=by unfold JN;infer_instance
def jw{α:Type}(l:List α)(a k:Nat):List α:=l.take a++(l.drop a).drop k
theorem pY{α:Type}(l:List α)(a k:Nat):(jw l a k).Sublist l:=by have:(l.take a++(l.drop a).drop k).Sublist (l.take a++l.drop a):=List.Sublist.append (List.Sublist.refl _) (List.drop_sublist _ _);rwa[List.take_append_drop]at this
def rmv(a n:Int)(f:Int→Bool)(x:Int):Bool:=if x<a then f x else f (x+n)
theorem Ct{α:Type}{l:List α}{a k:Nat}(h:a+k≤l.length):(jw l a k).length=l.length-k:=by unfold jw;simp;omega
theorem Cu{α:Type}{l:List α}{a k:Nat}(h:a≤l.length)(i:Nat):(jw l a k)[i]? =if i<a then l[i]? else l[i+k]? :=by unfold jw;by_cases c:i<a;grind;grind
theorem AZ{l:List Bool}{a k:Nat}(h:a≤l.length)(i:Nat):(jw l a k).getD i false=if i<a then l.getD i false else l.getD (i+k) false:=by rw[List.getD_eq_getElem?_getD,Cu h];split<;>simp[List.getD_eq_getElem?_getD]
theorem GZ{n:Nat}{a k:Int}(c:¬mD n a k):0≤a∧0≤k∧a.toNat+k.toNat≤n:=by unfold mD at c;omega
theorem Kn.rem{L L':List (Int×Int)}{ks:List Bool}{a k:Int}(K:Kn L ks)(c:¬mD ks.length a k)(ok:SOK L' (-1))(e:∀x,inS L' x=rmv a k (inS L) x)(le:∀s∈L',s.2≤(ks.length:Int)-k):Kn L' (jw ks a.toNat k.toNat):=by let⟨c0,c1,c2⟩:=GZ c;have hl:=Ct c2;refine⟨ok,fun s hs=>by rw[hl];have:=le s hs;omega,fun i=>?_⟩;rw[e,AZ oM];unfold rmv;by_cases q:(i:Int)<a;rw[if_pos q,if_pos oM,K.eq];rw[if_neg q,if_neg oM,(oM:(i:Int)+k=((i+k.toNat:Nat):Int)),K.eq]
def LoP(h:Heap)(b:Nat)(pm:Option Nat)(l:List Int)(ks bs:List Bool):Prop:=∃p vk,Own h b [pv p,vk,pv pm]∧vk.one=true∧Ix h (.agg [pv p,vk]) l ks∧Mk h pm bs∧bs.length=l.length
theorem LoP.lo{h:Heap}{b:Nat}{pm:Option Nat}{l:List Int}{ks bs:List Bool}(a:LoP h b pm l ks bs):Lo h b l ks bs:=by let⟨p,vk,x⟩:=a;exact⟨p,vk,pm,x⟩
theorem Lo.p{h:Heap}{b:Nat}{l:List Int}{ks bs:List Bool}(a:Lo h b l ks bs):∃pm,LoP h b pm l ks bs:=by let⟨p,vk,pm,x⟩:=a;exact⟨pm,p,vk,x⟩
theorem LoP.fr{h h':Heap}{b:Nat}{pm:Option Nat}{l:List Int}{ks bs:List Bool}(a:LoP h b pm l ks bs)(f:Fr [] h h'):LoP h' b pm l ks bs:=by let⟨p,vk,o,v1,ix,mk,e⟩:=a;exact⟨p,vk,f.get o,v1,ix.fr f,mk.fr f,e⟩
abbrev FrQ(b:Nat)(pm:Option Nat)(h h':Heap):Prop:=Fr (b::pm.toList) h h'
theorem FrQ.b{h h1 h2:Heap}{b:Nat}{pm:Option Nat}(a:FrQ b pm h h1)(f:Fr [b] h1 h2)(w:WF h):FrQ b pm h h2:=Fr.trans a f w (fun x hx=>.inl hx) (fun x hx=>.inl (by simp at hx;simp[hx]))
theorem FrQ.q{h h1 h2:Heap}{b q:Nat}{pm:Option Nat}(a:FrQ b pm h h1)(f:Fr [q] h1 h2)(w:WF h)(hq:pm=some q∨h.next≤q):FrQ b pm h h2:=by refine Fr.trans a f w (fun x hx=>.inl hx) (fun x hx=>?_);simp at hx;subst hx;obtain e|e:=hq;left;simp[e];exact .inr e
theorem FrQ.then{h h1 h2:Heap}{b:Nat}{pm:Option Nat}(a:FrQ b pm h h1)(f:Fr [] h1 h2)(w:WF h):FrQ b pm h h2:=Fr.trans a f w (fun x hx=>.inl hx) iS
theorem LoP.qb{h:Heap}{b q:Nat}{l:List Int}{ks bs:List Bool}(a:LoP h b (some q) l ks bs):b≠q:=by let⟨p,vk,o,v1,ix,mk,e⟩:=a;rintro rfl;let⟨ws,oq,ok,_⟩:=(mk:Fl h b bs);have:=congrArg List.length (oq.uniq o);rw[dt,ok.len]at this;simp at this
def Knd.same(q p:Knd):Prop:=q.k=p.k∧q.tg=p.tg∧q.ky=p.ky∧q.sl=p.sl∧q.tx=p.tx∧q.base=p.base∧q.sticky=p.sticky∧q.pool=p.pool∧PT.same q.sub p.sub
def uA:List Knd→List Knd→Prop
 |[],[]=>True
 |q::l,p::m=>q.same p∧uA l m
 |_,_=>False
theorem _root_.Go.Ev.Fr.old{S:List Nat}{h h':Heap}(w:WF h)(f:Fr S h h'):Fr (S.filter fun x=>decide (x<h.next)) h h':=
 ⟨f.next,f.wf,fun b c hb o=>f.own b c (fun m=>hb (by have:=o.lt w;simp[m,this])) o,fun b c hb o=>f.pl b c (fun m=>hb (by have:=o.own.lt w;simp[m,this])) o,f.lp,f.ro⟩
def Seen(h:Heap)(b:Nat)(ks:List Nat):Prop:=∃es c,h.bl.get b=some (.mp es c)∧es.map (·.1)=ks.map (fun k:Nat=>V.int .u64 (k:Int))∧∀e∈es,e.2.1=.bool true
theorem kZ(k:Nat):∀(es:List (V×V×Nat))(ks:List Nat)(i:Nat),es.map (·.1)=ks.map (fun k:Nat=>V.int .u64 (k:Int))→(∀e∈es,e.2.1=.bool true)→
 (k∈ks→∃j,eM none (.int .u64 (k:Int)) es i=some (some (j,.bool true)))∧(k∉ks→eM none (.int .u64 (k:Int)) es i=some none)
 |[],[],_,_,_=>⟨by simp,fun _=>rfl⟩
 |[],_::_,_,e,_=>by simp at e
 |_::_,[],_,e,_=>by simp at e
 |(k',v,n)::es,q::ks,i,e,t=>by
  simp only[List.map_cons,List.cons.injEq]at e;let⟨e1,e2⟩:=e;have tv:v=.bool true:=t (k',v,n) (by simp);subst e1 tv;have ih:=kZ k es ks (i+1) e2 (fun x hx=>t x (by simp[hx]));have ek:qr none (.int .u64 (k:Int)) (.int .u64 (q:Int))=some (decide (k=q)):=by simp only[qr,bG,cond_true,dh];congr 1;by_cases c:k=q;simp[c];simp[c];omega
  by_cases c:k=q;refine⟨fun _=>⟨i,?_⟩,fun m=>absurd (by simp[c]) m⟩;simp only[eM];rw[ek,decide_eq_true c];refine⟨fun m=>?_,fun m=>?_⟩;let⟨j,hj⟩:=ih.1 (by simpa[c]using m);exact⟨j,by simp only[eM];rw[ek,decide_eq_false c];exact hj⟩;simp only[eM];rw[ek,decide_eq_false c];exact ih.2 (fun m'=>m (by simp[m']))
theorem Seen.lt{h:Heap}{b:Nat}{ks:List Nat}(s:Seen h b ks)(w:WF h):b<h.next:=by let⟨es,c,e,_⟩:=s;obtain q|q:=Nat.lt_or_ge b h.next;exact q;rw[(w b q).1]at e;cases e
theorem JJ{call:aD}{loc:List V}{env:T V}{h:Heap}(K:V→Heap→Prop):OQ (aL call loc env h (.mm [])) K↔K (.map h.next) (lu h):=by show OQ (some (V.map h.next,lu h)) K↔_;exact bY _ _ _
def LkQ(h:Heap)(ks:Option (List Nat))(zero:V)(ok:Bool)(o:Option (List V))(K:V→Heap→Prop):Prop:=∃x k,o=some [x,k]∧VQ (alk h ks zero ok x k) K h
theorem EO{h:Heap}(ks:Option (List Nat))(zero:V)(ok:Bool)(x k:V)(K:V→Heap→Prop):LkQ h ks zero ok (some [x,k]) K↔VQ (alk h ks zero ok x k) K h:=
 ⟨fun⟨_,_,e,q⟩=>by cases e;exact q,fun q=>⟨x,k,rfl,q⟩⟩
theorem JK{call:aD}{loc:List V}{env:T V}{h:Heap}(ks:Option (List Nat))(zero:V)(ok:Bool)(x y:Opd)(K:V→Heap→Prop):OQ (aL call loc env h (.lk ks zero ok [x,y])) K↔LkQ h ks zero ok (du loc env [x,y]) K:=by
 simp only[aL,OQ,LkQ,VQ,fS,di];cases evO loc env x with
 |none=>simp[jK]
 |some a=>
  cases evO loc env y with
  |none=>simp[jK]
  |some b=>
   simp only[jK];cases e:alk h ks zero ok a b with
   |none=>simp[e]
   |some v=>refine⟨fun⟨_,_,q,k⟩=>?_,fun⟨_,_,q,u,q2,k⟩=>?_⟩;grind;grind
def MuQ(h:Heap)(ks:Option (List Nat))(o:Option (List V))(K:V→Heap→Prop):Prop:=∃x k v,o=some [x,k,v]∧OQ (amu h ks x k v) K
theorem EM{h:Heap}(ks:Option (List Nat))(x k v:V)(K:V→Heap→Prop):MuQ h ks (some [x,k,v]) K↔OQ (amu h ks x k v) K:=
 ⟨fun⟨_,_,_,e,q⟩=>by cases e;exact q,fun q=>⟨x,k,v,rfl,q⟩⟩
theorem JI{call:aD}{loc:List V}{env:T V}{h:Heap}(ks:Option (List Nat))(x y z:Opd)(K:V→Heap→Prop):OQ (aL call loc env h (.mu ks [x,y,z])) K↔MuQ h ks (du loc env [x,y,z]) K:=by
 simp only[aL,OQ,MuQ,fS,di];cases evO loc env x with
 |none=>simp[jK]
 |some a=>
  cases evO loc env y with
  |none=>simp[jK]
  |some b=>
   cases evO loc env z with
   |none=>simp[jK]
   |some c=>simp only[jK];exact⟨fun q=>⟨a,b,c,rfl,q⟩,fun⟨_,_,_,e,q⟩=>by cases e;exact q⟩
theorem Ge{h:Heap}{b k:Nat}{ks:List Nat}(s:Seen h b ks):alk h none (.bool false) false (.map b) (.int .u64 (k:Int))=some (.bool (decide (k∈ks))):=by let⟨es,c,e,e1,e2⟩:=s;have m:=kZ k es ks 0 e1 e2;simp only[alk,yz,e,show kM none (.int .u64 (k:Int))=true from rfl,cond_true];by_cases q:k∈ks;grind;rw[m.2 q];simp[q]
theorem Seen.fr{h h':Heap}{b:Nat}{ks:List Nat}(s:Seen h b ks)(f:Fr [] h h'):Seen h' b ks:=by let⟨es,c,e,x⟩:=s;exact⟨es,c,f.lp _ _ rfl e,x⟩
theorem Iob{h:Heap}{b k:Nat}{ks:List Nat}(w:WF h)(s:Seen h b ks)(hk:k∉ks){K:V→Heap→Prop}(q:∀h',Seen h' b (ks++[k])→FrB [] b h h'→h'.next=h.next→K (.tup []) h'):OQ (amu h none (.map b) (.int .u64 (k:Int)) (.bool true)) K:=by let⟨es,c,e,e1,e2⟩:=s;have m:=kZ k es ks 0 e1 e2;refine⟨.tup [],jc h b (es++[(.int .u64 (k:Int),.bool true,c)]) (c+1),?_,q _ ⟨_,_,T.get_set_self _ _ _,by simp[e1],fun x hx=>?_⟩ (FrB.hset w e rfl _) rfl⟩;simp only[amu,e,show kM none (.int .u64 (k:Int))=true from rfl,cond_true,m.2 hk];grind
def RulesAt(h:Heap)(b:Nat)(Ks:List Knd)(cap:Int):Prop:=∃vK c2 c3 c4,Own h b [vK,.int .i64 cap,c2,c3,c4]∧Recs Knd.cells 9 h vK Ks∧∀q∈Ks,KndH h q
theorem RulesAt.fr{h h':Heap}{b:Nat}{Ks:List Knd}{cap:Int}(r:RulesAt h b Ks cap)(f:Fr [] h h'):RulesAt h' b Ks cap:=by let⟨vK,c2,c3,c4,o,r,k⟩:=r;exact⟨vK,c2,c3,c4,f.get o,Recs.fr r f,fun q m=>(k q m).fr f⟩
def dT(Ks:List Knd)(cap:Int)(x:Itm):Int:=match Ks[x.type]? with
 |some q=>eX q.k q.tg q.ky q.sl q.tx q.sub x cap
 |none=>0
def TreeS(N:Nat)(h':Heap)(Ks:List Knd)(x:Itm)(cs:List V):Prop:=∃q s va vc,Ks[x.type]? =some q∧cs=[.int .u8 1,.str q.tg,.str q.ky,va,.str [],vc]∧(∀(X:List Nat)(h2:Heap),(∀y∈X,y<N)→Fr X h' h2→NH h2 (.cons 1 q.tg q.ky (q.sl.map (att x)) [] va vc s .nil))∧
 s.sh=bM x q.sub∧ST.count 1 q.tg q.ky (q.sl.map (att x)) [] (bM x q.sub)≠0
theorem we{k:Nat}{tg ky tx:Str}{sl:List Slo}{sub:PT}{x:Itm}{most:Int}(e:eX k tg ky sl tx sub x most=0):ST.count 1 tg ky (sl.map (att x)) [] (bM x sub)≠0:=by intro z;unfold eX at e;split at e;cases e;omega
open Go.Ev.St
set_option maxRecDepth 4000
theorem iM(x:Itm):x.cells.length=4:=rfl
def Good_s(h:Heap)(B:Nat):Prop:=∃c,Own h B c∧c.length≠6∧∀L:List (Int×Int),0<L.length→c≠L.flatMap sp
theorem Good_s.fr{h h':Heap}{B:Nat}{S:List Nat}(g:Good_s h B)(f:Fr S h h')(hB:B∉S):Good_s h' B:=by let⟨c,o,x⟩:=g;exact⟨c,f.own _ _ hB o,x⟩
theorem Km.good{h:Heap}{b S c:Nat}{m:Nat→Option Nat}(k:Km h b S m c){key x:Nat}(hm:m key=some x):Good_s h S:=by
 obtain⟨_,_,z⟩|⟨v,sl,t,k,_⟩:=k;grind;have n8:=k.n8;have hl:=oG sl;refine⟨_,k.tb.2,oM,?_⟩;intro L p e;cases sl with
 |nil=>simp at n8
 |cons s r=>
  cases L with
  |nil=>simp at p
  |cons q L=>rw[List.flatMap_cons,List.flatMap_cons]at e;simp[sc,sp]at e
abbrev mW:=(Nat→Option Nat)×Nat
def FA(mc:mW)(key i:Nat):mW:=(i9 mc.1 key i,if(mc.1 key).isSome=true then mc.2 else mc.2+1)
def wk(mc:mW):List Itm→Nat→mW
 |[],_=>mc
 |x::r,i=>wk (FA mc x.key i) r (i+1)
set_option maxRecDepth 4000
def aW(Ks:List Knd)(x:Itm):Int:=match Ks[x.type]? with
 |some q=>q.base
 |none=>0
def eW(Ks:List Knd)(x:Itm):Bool:=match Ks[x.type]? with
 |some q=>q.sticky
 |none=>false
theorem eO{call:aD}{env:T V}{late:List Nat}{s:IStep}{l:List IStep}{i:Nat}{loc:List V}{h h':Heap}{v:V}(hi:late.contains i=false)(he:eff s.op=false)(e:aL call loc env h s.op=some (v,h')):
 lay call env late (s::l) i loc h=(lay call env late l (i+1) (v::loc) h).map fun r=>((s,none)::r.1,r.2):=by
 simp only[lay,hi,cond_false,wH,he,e];cases lay call env late l (i+1) (v::loc) h<;>rfl
theorem JU{call:aD}{env:T V}{late:List Nat}{s:IStep}{l:List IStep}{i:Nat}{loc:List V}{h:Heap}(hi:late.contains i=false)(he:eff s.op=true):
 lay call env late (s::l) i loc h=(lay call env late l (i+1) (.tup []::loc) h).map fun r=>((s,none)::r.1,r.2):=by
 simp only[lay,hi,cond_false,wH,he,cond_true];cases lay call env late l (i+1) (V.tup []::loc) h<;>rfl
theorem JT{call:aD}{env:T V}{late:List Nat}{s:IStep}{l:List IStep}{i:Nat}{loc:List V}{h:Heap}{c:List V}{k:Option (Nat×Nat)}(hi:late.contains i=true)(e:kL loc env s.op=some (c,k)):
 lay call env late (s::l) i loc h=(lay call env late l (i+1) (d8 h.next k::loc) (halloc h c)).map fun r=>((s,some (d8 h.next k,c))::r.1,r.2):=by
 simp only[lay,hi,cond_true,e];cases lay call env late l (i+1) (d8 h.next k::loc) (halloc h c)<;>rfl
def Oth(h:Heap)(S:List Nat):Prop:=∀b∈S,∀c,Own h b c→c.length≠6∧∀L:List (Int×Int),0<L.length→c≠L.flatMap sp
theorem At.frS{h h':Heap}{S:List Nat}(f:Fr S h h')(o:Oth h S):∀{t:Tr}{p:Option Nat},At h t p→At h' t p
 |.nil,_,a=>a
 |.node l s r,_,⟨q,pl,pr,e,oq,al,ar⟩=>⟨q,pl,pr,e,f.own _ _ (fun m=>(o q m _ oq).1 rfl) oq,At.frS f o al,At.frS f o ar⟩
theorem LoP.frS{h h':Heap}{b:Nat}{pm:Option Nat}{l:List Int}{ks bs:List Bool}{S:List Nat}(a:LoP h b pm l ks bs)(f:Fr S h h')(o:Oth h S)(hb:b∉S)(hp:∀q,pm=some q→q∉S):LoP h' b pm l ks bs:=by
 let⟨p,vk,ow,v1,⟨p',vk',L,e1,⟨t,p2,e2,at',tl,ft⟩,sL,x⟩,mk,e⟩:=a;refine⟨p,vk,f.own _ _ hb ow,v1,⟨p',vk',L,e1,⟨t,p2,e2,At.frS f o at',tl,ft⟩,?_,x⟩,?_,e⟩;obtain z|⟨q,e3,oq,lq⟩:=sL;exact .inl z;exact .inr ⟨q,e3,f.own _ _ (fun m=>(o q m _ oq).2 L lq rfl) oq,lq⟩;cases pm with
 |none=>exact mk
 |some q=>let⟨ws,oq,y⟩:=mk;exact⟨ws,f.own _ _ (hp q rfl) oq,y⟩
theorem ye{c:List V}(n:NoI c):∀L:List (Int×Int),0<L.length→c≠L.flatMap sp:=by
 intro L p e;cases L with
 |nil=>simp at p
 |cons s L=>exact n (.int .i64 s.1) (by rw[e];simp[sp]) _ rfl
open Go.Ev.St
set_option maxRecDepth 4000
theorem Km.frS{h h':Heap}{b S c:Nat}{m:Nat→Option Nat}{X:List Nat}(k:Km h b S m c)(f:Fr X h h')(hb:b∉X)(hS:S∉X):Km h' b S m c:=by obtain⟨o,x⟩|⟨v,sl,t,k,x⟩:=k;exact .inl ⟨f.own _ _ hb o,x⟩;exact .inr ⟨v,sl,t,{k with ob:=f.own _ _ hb k.ob,tb:=⟨k.tb.1,f.own _ _ hS k.tb.2⟩},x⟩
theorem Km.lt{h:Heap}{b S c:Nat}{m:Nat→Option Nat}(k:Km h b S m c)(w:WF h):b<h.next:=by obtain⟨o,x⟩|⟨v,sl,t,k,x⟩:=k;exact o.lt w;exact k.ob.lt w
theorem uD{c:List V}{n:Nat}(h:c.length=2*n+1):∀L:List (Int×Int),0<L.length→c≠L.flatMap sp:=by rintro L _ rfl;have:=aC dJ L;omega
theorem Oth.app{h:Heap}{A B:List Nat}(a:Oth h A)(b:Oth h B):Oth h (A++B):=fun x m=>(List.mem_append.1 m).elim (a x) (b x)
theorem Oth.own{h:Heap}{b:Nat}{c:List V}(o:Own h b c)(h6:c.length≠6)(hs:∀L:List (Int×Int),0<L.length→c≠L.flatMap sp):Oth h [b]:=by intro x m c' o';simp at m;subst m;rw[o'.uniq o];exact⟨h6,hs⟩
theorem Gp.oth{h:Heap}{b B n:Nat}{l:List V}(w:WF h)(g:Gp h b B n l)(hB:B<h.next→Own h B []∨∀c,Own h B c→c.length%4=0∧NoI c):Oth h [b,B]:=by
 let⟨v,c1,G,c2,a,gg,m,k,_⟩:=g;intro x mx c o;simp at mx;obtain rfl|rfl:=mx;rw[o.uniq k.ob];exact⟨iS,uD (n:=1) rfl⟩;obtain e|e:=hB (o.lt w);rw[o.uniq e];exact⟨iS,fun L p q=>by cases L with|nil=>simp at p|cons s L=>simp[sp]at q⟩
 let⟨e1,e2⟩:=e c o;exact⟨oM,ye e2⟩
theorem Good_s.oth{h:Heap}{B:Nat}(g:Good_s h B):Oth h [B]:=by let⟨c,o,a,b⟩:=g;exact Oth.own o a b
theorem Gp.good{h:Heap}{b B n:Nat}{l:List V}(g:Gp h b B n l)(h0:0<n):Good_s h B:=by obtain⟨v,c1,G,c2,a,gg,m,k,_,rfl⟩:=g;obtain⟨hl,⟨_,z⟩|⟨_,o⟩⟩:=k.tb;omega;exact⟨_,o,oM,ye k.n6⟩
theorem Gp.ob{h:Heap}{b B n:Nat}{l:List V}(g:Gp h b B n l):Good_s h b∧B≠b:=by obtain⟨v,c1,G,c2,a,gg,m,k,_,rfl⟩:=g;exact⟨⟨_,k.ob,iS,uD (n:=1) rfl⟩,k.ne⟩
structure Dis(b bg B bm S bl:Nat)(pm:Option Nat):Prop where
 b1:b≠bg
 b2:b≠B
 b3:b≠bm
 b4:b≠S
 b5:b≠bl
 g1:bg≠bm
 g2:bg≠S
 gLACK3:bg≠bl
 t1:B≠bm
 t2:B≠S
 t3:B≠bl
 m1:bm≠bl
 m2:S≠bl
 p:∀q,pm=some q→q≠b∧q≠bg∧q≠B∧q≠bm∧q≠S∧q≠bl
def Wr(b bg B bm S bl:Nat)(pm:Option Nat):List Nat:=[b,bg,B,bm,S,bl]++pm.toList
abbrev NL:=Nat×Option Nat
def Lx(n:NL)(z:Nat):Prop:=z<n.1∨n.2=some z
theorem Lx.lt{n z:Nat}(h:Lx (n,none) z):z<n:=h.elim id fun e=>by cases e
structure Sto(n0:NL)(h:Heap)(b:Nat)(Ks:List Knd)(cap:Int)(X:List Itm)(l:List Int)(kn st:List Bool)(vK:V)(bg B bm S bl:Nat)(pm:Option Nat)(mc:mW):Prop where
 ob:Own h b [vK,.int .i64 cap,.ptr bg 0,.ptr bm 0,.ptr bl 0]
 g:Gp h bg B X.length (X.flatMap Itm.cells)
 gB:Good_s h B
 k:Km h bm S mc.1 mc.2
 gS:Good_s h S
 lo:LoP h bl pm l kn st
 len:l.length=X.length
 rd:∀(Z:List Nat)(h':Heap),(∀z∈Z,z∈Wr b bg B bm S bl pm∨h.next≤z∨Lx n0 z)→Fr Z h h'→Recs Knd.cells 9 h' vK Ks∧(∀q∈Ks,KndH h' q)∧∀x∈X,ItmH h' x
 d:Dis b bg B bm S bl pm
 Sl':S<h.next
 pl:∀q,pm=some q→q<h.next
 bl':bl<h.next
 n0l:∀z,Lx n0 z→z<h.next
theorem Sl.noint{h:Heap}{e:Nat}{v:V}{n:Nat}{cs:List V}(a:Sl h e v n cs)(k:IntKind)(i:Int):v≠.int k i:=by rintro rfl;exact a.2.elim
theorem A4(x:Itm)(v:V):(x.own v).cells=[.int .u64 (x.key:Int),.int .u8 (x.type:Int),.str x.text,v]:=rfl
theorem Good_s.lt{h:Heap}{b:Nat}(g:Good_s h b)(w:WF h):b<h.next:=by let⟨c,o,_⟩:=g;exact o.lt w
def Cps:List Itm→List Itm→Prop
 |[],[]=>True
 |x::l,y::m=>(∃v,y=x.own v∧nZ v=true)∧Cps l m
 |_,_=>False
theorem Cps.len:∀{a b:List Itm},Cps a b→a.length=b.length
 |[],[],_=>rfl
 |_::_,_::_,h=>by simp[Cps.len h.2]
 |[],_::_,h=>h.elim
 |_::_,[],h=>h.elim
theorem Cps.app:∀{a b c d:List Itm},Cps a b→Cps c d→Cps (a++c) (b++d)
 |[],[],_,_,_,g=>g
 |_::_,_::_,_,_,h,g=>⟨h.1,Cps.app h.2 g⟩
 |[],_::_,_,_,h,_=>h.elim
 |_::_,[],_,_,h,_=>h.elim
theorem Sl.nz{h:Heap}{e:Nat}{v:V}{n:Nat}{cs:List V}(a:Sl h e v n cs):nZ v=true:=by cases v<;>first|rfl|exact a.2.elim
theorem Cps.nz:∀{a b:List Itm},Cps a b→∀y∈b,nZ y.vm=true
 |x::a,z::b,h,y,m=>by obtain rfl|m:=List.mem_cons.1 m;obtain⟨⟨v,rfl,z⟩,_⟩:=h;exact z;exact Cps.nz h.2 y m
 |[],[],_,_,m=>by simp at m
 |[],_::_,h,_,_=>h.elim
theorem Sto.fr{n0:NL}{h h':Heap}{b bg B bm S bl:Nat}{Ks:List Knd}{cap:Int}{X:List Itm}{l:List Int}{kn st:List Bool}{vK:V}{pm:Option Nat}{mc:mW}(w:WF h)(s:Sto n0 h b Ks cap X l kn st vK bg B bm S bl pm mc)(f:Fr [] h h'):
 Sto n0 h' b Ks cap X l kn st vK bg B bm S bl pm mc:=by
 have fn:=f.next;refine⟨f.get s.ob,s.g.fr f iS iS,s.gB.fr f iS,s.k.fr f,s.gS.fr f iS,s.lo.fr f,s.len,?_,s.d,by have:=s.Sl';omega,fun q e=>by have:=s.pl q e;omega,by have:=s.bl';omega,by exact fun z q=>by have:=s.n0l z q;omega⟩;intro Z h2 hZ f2;refine s.rd Z h2 (fun z m=>?_) (Fr.trans f f2 w (fun x m=>by simp at m) (fun x m=>.inl m));obtain q|q|q:=hZ z m;exact .inl q;omega;exact .inr (.inr q)
theorem LoP.ne{h:Heap}{b:Nat}{pm:Option Nat}{l:List Int}{ks bs:List Bool}(a:LoP h b pm l ks bs):∀q,pm=some q→q≠b:=by let⟨p,vk,o,v1,ix,mk,e⟩:=a;rintro q rfl;let⟨ws,oq,x⟩:=mk;refine Own.ne oq o fun e=>?_;unfold flc at e;cases p<;>simp[pv]at e
theorem LoP.oth{h:Heap}{b:Nat}{pm:Option Nat}{l:List Int}{ks bs:List Bool}(a:LoP h b pm l ks bs):Oth h (b::pm.toList):=by
 let⟨p,vk,o,v1,ix,mk,e⟩:=a;apply Oth.app (A:=[b]) (Oth.own o iS (uD (n:=1) rfl));cases pm with
 |none=>exact fun x m=>by simp at m
 |some q=>
  let⟨ws,oq,x,_⟩:=mk;have wl:=x.len;refine Oth.own oq (by simp[flc];omega) ?_;intro L hL e;match ws,wl,L with
  |w1::w2::ws,_,(x1,x2)::(y1,y2)::L=>simp[flc,sp,uw]at e
  |w1::w2::ws,_,[(x1,x2)]=>simp[flc,sp,uw]at e
theorem mQ{z:Str}{i:Nat}(hi:i<z.length)(p:Int→Bool):dP p (z.drop i)=(p ((z[i]).toNat:Int)||dP p (z.drop (i+1))):=by unfold dP;rw[List.drop_eq_getElem_cons hi,List.any_cons]
theorem pA{z:Str}{i:Nat}(hi:z.length≤i)(p:Int→Bool):dP p (z.drop i)=false:=by rw[List.drop_of_length_le hi];rfl
def jx(b:Bool):Int:=if b then 1 else 0
theorem jS{h:Heap}{z:Str}:ao go 77 [.str z] h fun u h'=>u=.int .i64 (jx (okT z))∧h=h':=by
 by_cases c1:(64:Int)<(z.length:Nat);refine ac ?_;simp only[evs,seval,aE,eq_true c1];have:okT z=false:=by unfold okT;rw[decide_eq_false oM];rfl
 rw[this];rfl;refine ac ?_;simp only[evs,seval,aE,eq_false c1];refine az (fun k env hh=>hh=h∧∃(i:Nat),env.get 3=some (.int .i64 i)∧env.get 0=some (.str z)∧i≤z.length∧dP gy (z.drop i)=dP gy z∧k=z.length-i) z.length oM ?_ ?_;exact⟨rfl,0,iS,iS,oM,rfl,rfl⟩;rintro k env hh ⟨rfl,i,g3,g0,hi,e,rfl⟩;by_cases hlt:i<z.length;have hlt':(i:Int)<z.length:=oM;rw[mQ hlt]at e;by_cases c2:((z[i]).toNat:Int)<32;simp only[evs,seval,g3,g0,aE,hlt',bI hlt,eq_true c2];have:okT z=false:=by unfold okT;rw[←e];simp[gy,c2]
 rw[this];rfl;by_cases c3:(126:Int)<((z[i]).toNat:Int);simp only[evs,seval,g3,g0,aE,hlt',bI hlt,eq_false c2,eq_true c3];have:okT z=false:=by unfold okT;rw[←e];simp[gy,c3]
 rw[this];rfl;simp(disch:=omega) only[evs,seval,ab,g3,g0,aE,hlt',bI hlt,eq_false c2,eq_false c3];have b0:gy ((z[i]).toNat:Int)=false:=by simp only[gy,Bool.or_eq_false_iff,decide_eq_false_iff_not];exact⟨c2,c3⟩
 rw[b0,Bool.false_or]at e;refine rqn ⟨z.length-(i+1),oM,rfl,i+1,iS,iX,oM,e,rfl⟩;simp only[evs,seval,g3,g0,aE,(oM:¬(i:Int)<z.length)];rw[pA oM]at e;have:okT z=true:=by unfold okT;rw[←e,decide_eq_true oM];rfl
 rw[this];rfl
theorem jq{h:Heap}{z:Str}:ao go 125 [.str z] h fun u h'=>u=.bool (okT z)∧h=h':=by
 by_cases c1:(64:Int)<(z.length:Nat);refine ac ?_;simp only[evs,seval,aE,eq_true c1];have:okT z=false:=by unfold okT;rw[decide_eq_false oM];rfl
 rw[this];refine ac ?_;simp only[evs,seval,aE,eq_false c1];refine az (fun k env hh=>hh=h∧∃(i:Nat),env.get 3=some (.int .i64 i)∧env.get 0=some (.str z)∧i≤z.length∧dP gy (z.drop i)=dP gy z∧k=z.length-i) z.length oM ?_ ?_;exact⟨rfl,0,iS,iS,oM,rfl,rfl⟩;rintro k env hh ⟨rfl,i,g3,g0,hi,e,rfl⟩;by_cases hlt:i<z.length;have hlt':(i:Int)<z.length:=oM;rw[mQ hlt]at e;by_cases c2:((z[i]).toNat:Int)<32;simp only[evs,seval,g3,g0,aE,hlt',bI hlt,eq_true c2];have:okT z=false:=by unfold okT;rw[←e];simp[gy,c2]
 rw[this];by_cases c3:(126:Int)<((z[i]).toNat:Int);simp only[evs,seval,g3,g0,aE,hlt',bI hlt,eq_false c2,eq_true c3];have:okT z=false:=by unfold okT;rw[←e];simp[gy,c3]
 rw[this];simp(disch:=omega) only[evs,seval,ab,g3,g0,aE,hlt',bI hlt,eq_false c2,eq_false c3];have b0:gy ((z[i]).toNat:Int)=false:=by simp only[gy,Bool.or_eq_false_iff,decide_eq_false_iff_not];exact⟨c2,c3⟩
 rw[b0,Bool.false_or]at e;refine rqn ⟨z.length-(i+1),oM,rfl,i+1,iS,iX,oM,e,rfl⟩;simp only[evs,seval,g3,g0,aE,(oM:¬(i:Int)<z.length)];rw[pA oM]at e;have:okT z=true:=by unfold okT;rw[←e,decide_eq_true oM];rfl
 rw[this]
theorem CT{h:Heap}{z:Str}:ao go 78 [.str z] h fun u h'=>u=.int .i64 (jx (okN z))∧h=h':=by
 by_cases c0:(z.length:Int)<1;refine ac ?_;simp only[evs,seval,aE,eq_true c0];have:okN z=false:=by unfold okN;rw[decide_eq_false oM];rfl
 rw[this];rfl;by_cases c1:(16:Int)<(z.length:Nat);refine ac ?_;simp only[evs,seval,aE,eq_false c0,eq_true c1];have:okN z=false:=by unfold okN;rw[decide_eq_false (oM:¬z.length≤16)];simp
 rw[this];rfl;refine ac ?_;simp only[evs,seval,aE,eq_false c0,eq_false c1];refine az (fun k env hh=>hh=h∧∃(i:Nat),env.get 3=some (.int .i64 i)∧env.get 0=some (.str z)∧i≤z.length∧dP cJ (z.drop i)=dP cJ z∧k=z.length-i) z.length oM ?_ ?_;exact⟨rfl,0,iS,iS,oM,rfl,rfl⟩;rintro k env hh ⟨rfl,i,g3,g0,hi,e,rfl⟩;by_cases hlt:i<z.length;have hlt':(i:Int)<z.length:=oM;rw[mQ hlt]at e;have bad:cJ ((z[i]).toNat:Int)=true→okN z=false:=fun q=>by unfold okN;rw[←e,q];simp
 have good:cJ ((z[i]).toNat:Int)=false→dP cJ (z.drop (i+1))=dP cJ z:=fun q=>by rw[←e,q];rfl
 by_cases c1:(97:Int)≤((z[i]).toNat:Int);by_cases c2:((z[i]).toNat:Int)≤122;simp(disch:=omega) only[evs,seval,ab,g3,g0,aE,hlt',bI hlt,eq_true c1,eq_true c2];refine rqn ⟨z.length-(i+1),oM,rfl,i+1,iS,iX,oM,good (by simp[cJ];omega),rfl⟩;by_cases c3:(48:Int)≤((z[i]).toNat:Int);have c4:¬((z[i]).toNat:Int)≤57:=oM;simp only[evs,seval,g3,g0,aE,hlt',bI hlt,eq_true c1,eq_false c2,eq_true c3,eq_false c4];rw[bad (by simp[cJ];omega)];rfl;omega;by_cases c3:(48:Int)≤((z[i]).toNat:Int);by_cases c4:((z[i]).toNat:Int)≤57;simp(disch:=omega) only[evs,seval,ab,g3,g0,aE,hlt',bI hlt,eq_false c1,eq_true c3,eq_true c4];refine rqn ⟨z.length-(i+1),oM,rfl,i+1,iS,iX,oM,good (by simp[cJ];omega),rfl⟩;simp only[evs,seval,g3,g0,aE,hlt',bI hlt,eq_false c1,eq_true c3,eq_false c4];rw[bad (by simp[cJ];omega)];rfl;simp only[evs,seval,g3,g0,aE,hlt',bI hlt,eq_false c1,eq_false c3];rw[bad (by simp[cJ];omega)];rfl;simp only[evs,seval,g3,g0,aE,(oM:¬(i:Int)<z.length)];rw[pA oM]at e;have:okN z=true:=by unfold okN;rw[←e,decide_eq_true oM,decide_eq_true (oM:z.length≤16)];rfl
 rw[this];rfl
theorem dQ{h:Heap}{z:Str}:ao go 126 [.str z] h fun u h'=>u=.bool (okN z)∧h=h':=by
 refine ac ?_;simp only[evs];refine az (fun k env hh=>hh=h∧∃(i:Nat),env.get 3=some (.int .i64 i)∧env.get 0=some (.str z)∧i≤z.length∧i≤17∧dP cJ (z.drop i)=dP cJ z∧k=17-i) 17 oM ?_ ?_;exact⟨rfl,0,iS,iS,oM,oM,rfl,rfl⟩;rintro k env hh ⟨rfl,i,g3,g0,hi,h17,e,rfl⟩;by_cases hlt:i<z.length;have hlt':(i:Int)<z.length:=oM;by_cases c17:(i:Int)<17;rw[mQ hlt]at e;have bad:cJ ((z[i]).toNat:Int)=true→okN z=false:=fun q=>by unfold okN;rw[←e,q];simp
 have good:cJ ((z[i]).toNat:Int)=false→dP cJ (z.drop (i+1))=dP cJ z:=fun q=>by rw[←e,q];rfl
 by_cases c1:((z[i]).toNat:Int)<97;by_cases c3:((z[i]).toNat:Int)<48;simp only[evs,seval,g3,g0,aE,hlt',bI hlt,eq_true c1,eq_true c3,eq_true c17];rw[bad (by simp[cJ];omega)];by_cases c4:(57:Int)<((z[i]).toNat:Int);simp only[evs,seval,g3,g0,aE,hlt',bI hlt,eq_true c1,eq_false c3,eq_true c4,eq_true c17];rw[bad (by simp[cJ];omega)];simp(disch:=omega) only[evs,seval,ab,g3,g0,aE,hlt',bI hlt,eq_true c1,eq_false c3,eq_false c4,eq_true c17];refine rqn ⟨17-(i+1),oM,rfl,i+1,iS,iX,oM,oM,good (by simp[cJ];omega),rfl⟩;by_cases c2:(122:Int)<((z[i]).toNat:Int);have c3:¬((z[i]).toNat:Int)<48:=oM;have c4:(57:Int)<((z[i]).toNat:Int):=oM;simp only[evs,seval,g3,g0,aE,hlt',bI hlt,eq_false c1,eq_true c2,eq_false c3,eq_true c4,eq_true c17];rw[bad (by simp[cJ];omega)];simp(disch:=omega) only[evs,seval,ab,g3,g0,aE,hlt',bI hlt,eq_false c1,eq_false c2,eq_true c17];refine rqn ⟨17-(i+1),oM,rfl,i+1,iS,iX,oM,oM,good (by simp[cJ];omega),rfl⟩;simp only[evs,seval,g3,g0,aE,hlt',eq_false c17,(oM:(1:Int)≤(z.length:Nat)),(oM:¬((z.length:Nat):Int)≤16)];have:okN z=false:=by unfold okN;rw[decide_eq_false (oM:¬z.length≤16)];simp
 rw[this];rw[pA oM]at e;by_cases c0:(1:Int)≤(z.length:Nat);have e2:okN z=decide (((z.length:Nat):Int)≤16):=by
  unfold okN;rw[←e,decide_eq_true oM];have:decide (z.length≤16)=decide (((z.length:Nat):Int)≤16):=by rw[decide_eq_decide];omega
  rw[this];simp
 by_cases c1:((z.length:Nat):Int)≤16;simp only[evs,seval,g3,g0,aE,(oM:¬(i:Int)<z.length),eq_true c0,eq_true c1];rw[e2,decide_eq_true c1];simp only[evs,seval,g3,g0,aE,(oM:¬(i:Int)<z.length),eq_true c0,eq_false c1];rw[e2,decide_eq_false c1];simp only[evs,seval,g3,g0,aE,(oM:¬(i:Int)<z.length),eq_false c0];have:okN z=false:=by unfold okN;rw[decide_eq_false oM];rfl
 rw[this]
theorem DM:∀d,d<10→aP (.slstr true true) [.str [48,49,50,51,52,53,54,55,56,57],.int .u64 (d:Nat),.int .u64 ((d:Nat)+1)]=some (.str [UInt8.ofNat (48+d)]):=by
 intro d hd;match d,hd with
 |0,_=>rfl
 |1,_=>rfl
 |2,_=>rfl
 |3,_=>rfl
 |4,_=>rfl
 |5,_=>rfl
 |6,_=>rfl
 |7,_=>rfl
 |8,_=>rfl
 |9,_=>rfl
theorem Eg(a b:Str)(h:a.length+b.length<9223372036854775808):aP (.sb .add) [.str a,.str b]=some (.str (a++b)):=by simp only[aP,ng,(Nat.blt_eq ..).mpr h,cond_true]
theorem z8:∀(k n:Nat),n<10^(k+1)→(dec n).length≤k+1
 |k,n,h=>by
  by_cases c:n<10;rw[uU c];simp;match k,h with
  |0,h=>omega
  |k+1,h=>rw[yD c,List.length_append];have:=z8 k (n/10) (by rw[Nat.pow_succ]at h;omega);simp only[List.length_cons,List.length_nil];omega
theorem ti{n:Nat}(h:n<18446744073709551616):(dec n).length≤20:=z8 19 n oM
theorem mC{h:Heap}:∀(k n:Nat),n<k→n<18446744073709551616→ao go 127 [.int .u64 (n:Int)] h fun u h'=>u=.str (dec n)∧h=h'
 |0,_,hk,_=>by omega
 |k+1,n,hk,hn=>by
  by_cases c:n<10;have c':(n:Int)<10:=oM;have f1:bD .u64 ((n:Int)+1)=(n:Int)+1:=bH _ oM oM;refine ac ?_;simp only[evs,seval,eq_true c',f1,DM n c];rw[uU c];have c':¬(n:Int)<10:=oM;have r1:aP (.ib .rem) [.int .u64 (n:Int),.int .u64 10]=some (.int .u64 ((n%10:Nat):Int)):=by rw[iW _ _ _ dI];rfl
  have r2:aP (.ib .quo) [.int .u64 (n:Int),.int .u64 10]=some (.int .u64 ((n/10:Nat):Int)):=by rw[qY _ _ _ dI,(iR:((n:Int)).tdiv 10=((n/10:Nat):Int)),bH _ oM oM]
  refine ac ?_;simp only[evs,seval,eq_false c',r2];apply aa (mC k (n/10) oM oM);rintro _ _ ⟨rfl,rfl⟩;simp only[evs,seval,r1];apply aa (mC k (n%10) oM oM);rintro _ _ ⟨rfl,rfl⟩;have q1:=ti (n:=n/10) oM;have q2:=ti (n:=n%10) oM;simp only[evs,seval,Eg _ _ (oM:(dec (n/10)).length+(dec (n%10)).length<9223372036854775808)];rw[yD c,uU (Nat.mod_lt n dI)]
theorem oS{h:Heap}{x:Itm}(w:WF h)(a:ItmH h x):ao go 80 [.agg x.cells] h fun u h'=>u=.int .i64 (if fQ x then 0 else 6)∧Fr [] h h':=by
 let⟨h1,e_h1,F_h1,o_h1⟩:=aj w x.cells;have l0:ag h1 h.next 0=some (.int .u64 (x.key:Int)):=o_h1.ld1 0;have l2:ag h1 h.next 2=some (.str x.text):=o_h1.ld1 2;have l3:ag h1 h.next 3=some x.vm:=o_h1.ld1 3;have am:=a.m.fr F_h1;by_cases c0:(x.key:Int)=0;refine ac ?_;simp only[evs,seval,←e_h1,l0,eq_true c0];exact⟨by simp[fQ,(oM:x.key=0)],F_h1⟩;refine ac ?_;simp only[evs,seval,←e_h1,l0,eq_false c0,l2];apply aa jq;rintro _ _ ⟨rfl,rfl⟩;cases c2:okT x.text;simp only[evs,seval];exact⟨by simp[fQ,c2],F_h1⟩;by_cases c3:(8:Int)<(x.marks.length:Nat);simp only[evs,seval,l3,am.len,eq_true c3];exact⟨by simp[fQ,okM,(oM:¬x.marks.length≤8)],F_h1⟩;simp only[evs,seval,l3,am.len,eq_false c3];refine az (fun k env hh=>hh=h1∧∃(i:Nat),env.get 3=some (.int .i64 i)∧env.get 1=some (.ptr h.next 0)∧i≤x.marks.length∧(x.marks.drop i).all okN=x.marks.all okN∧k=x.marks.length-i) x.marks.length oM ?_ ?_;exact⟨rfl,0,iS,iS,oM,rfl,rfl⟩;rintro k env hh ⟨rfl,i,g3,g1,hi,e,rfl⟩;by_cases hlt:i<x.marks.length;have hlt':(i:Int)<x.marks.length:=oM;let⟨b,o,s,e1,e2,_,e5⟩:=am.ix fM .i64 i oM hlt';have e4:ag hh b o=some (.str s):=e2 0 oM;rw[Int.toNat_natCast]at e5;rw[aK e5,List.all_cons]at e;simp only[evs,seval,g3,g1,l3,am.len,hlt',e1,e4];apply aa dQ;rintro _ _ ⟨rfl,rfl⟩;cases c:okN s;simp only[evs,seval];rw[c]at e;have e':x.marks.all okN=false:=by rw[←e];rfl
 exact⟨by simp[fQ,okM,e'],F_h1⟩;simp(disch:=omega) only[evs,seval,ab,g3];rw[c]at e;refine rqn ⟨x.marks.length-(i+1),oM,rfl,i+1,iS,iX,oM,by simpa using e,rfl⟩;simp only[evs,seval,g3,g1,l3,am.len,(oM:¬(i:Int)<x.marks.length)];rw[List.drop_of_length_le oM]at e;have e':x.marks.all okN=true:=by rw[←e];rfl
 exact⟨by simp[fQ,okM,e',c2,(oM:x.key≠0),(oM:x.marks.length≤8)],F_h1⟩
theorem Dw{h:Heap}{v:V}{X:List Itm}{key:Nat}(a:Recs Itm.cells 4 h v X)(hn:X.length≤4096):
 ao go 48 [v,.int .u64 (key:Int)] h fun u h'=>h=h'∧∃r:Int,u=.int .i64 r∧(0≤r↔∃x∈X,x.key=key):=by
 refine ac ?_;simp only[evs,seval];refine az (fun k env hh=>hh=h∧∃(i:Nat),env.get 5=some (.int .i64 i)∧env.get 0=some v∧env.get 1=some (.int .u64 (key:Int))∧i≤X.length∧(∀x∈X.take i,x.key≠key)∧k=X.length-i) X.length oM ?_ ?_;exact⟨rfl,0,iS,iS,iS,oM,iS,rfl⟩;rintro k env hh ⟨rfl,i,g5,g0,g1,hi,e,rfl⟩;by_cases hlt:i<X.length;have hlt':(i:Int)<X.length:=oM;let⟨b,o,x,e1,e2,_,e5⟩:=Recs.ix (f:=Itm.cells) (k:=4) (fun _=>rfl) a .i64 i oM hlt';have e4:ag hh b o=some (.int .u64 (x.key:Int)):=e2 0 oM;rw[Int.toNat_natCast]at e5;by_cases c:x.key=key;simp only[evs,seval,g5,g0,g1,a.len,hlt',e1,e4,c];exact⟨(i:Int),rfl,fun _=>⟨x,List.mem_of_getElem? e5,c⟩,fun _=>by omega⟩;have c':¬(x.key:Int)=(key:Int):=oM;simp(disch:=omega) only[evs,seval,ab,g5,g0,g1,a.len,hlt',e1,e4,eq_false c'];refine rqn ⟨X.length-(i+1),oM,rfl,i+1,iS,iX,iX,oM,?_,rfl⟩;rw[List.take_add_one,e5];intro y m;obtain m|m:=List.mem_append.1 m;exact e y m;grind;simp only[evs,seval,g5,g0,a.len,(oM:¬(i:Int)<X.length)];rw[List.take_of_length_le oM]at e;exact⟨-1,rfl,fun q=>by omega,fun⟨x,m,q⟩=>absurd q (e x m)⟩
theorem CL(a b:Bool):jx a*jx b=jx (a&&b):=by cases a<;>cases b<;>rfl
theorem gH{h:Heap}{x:Itm}{env:T V}{b0:Bool}{bb:Nat}{R:V→Heap→Prop}(w:WF h)(o:Own h bb x.cells)(a:ItmH h x)(g2:env.get 2=some (.ptr bb 0))(g5:env.get 5=some (.int .i64 (jx b0)))
 (k:∀h',h=h'→R (.int .i64 (if(b0&&x.marks.all okN)then 0 else 6)) h'):
 W go ckR env h (jg [.t 4] R):=by
 have l3:ag h bb 3=some x.vm:=o.ld1 3;have am:=a.m;have an:=a.n;simp only[evs,ckR];refine az (fun k env hh=>hh=h∧∃(i:Nat)(c:Bool),env.get 6=some (.int .i64 i)∧env.get 2=some (.ptr bb 0)∧env.get 5=some (.int .i64 (jx c))∧i≤x.marks.length∧(c&&(x.marks.drop i).all okN)=(b0&&x.marks.all okN)∧k=x.marks.length-i) x.marks.length oM ?_ ?_;exact⟨rfl,0,b0,iS,iX,iX,oM,rfl,rfl⟩;rintro k' env hh ⟨rfl,i,c,g6,g2,g5,hi,e,rfl⟩;by_cases hlt:i<x.marks.length;have hlt':(i:Int)<x.marks.length:=oM;let⟨b,o,s,e1,e2,_,e5⟩:=am.ix fM .i64 i oM hlt';have e4:ag hh b o=some (.str s):=e2 0 oM;rw[Int.toNat_natCast]at e5;rw[aK e5,List.all_cons]at e;simp only[evs,seval,g6,g2,g5,l3,am.len,hlt',e1,e4];apply aa CT;rintro _ _ ⟨rfl,rfl⟩;have m1:bD .i64 (jx c*jx (okN s))=jx (c&&okN s):=by rw[CL,ab _ (by unfold jx;split<;>omega) (by unfold jx;split<;>omega)]
 simp(disch:=omega) only[evs,seval,ab,g6,m1];refine rqn ⟨x.marks.length-(i+1),oM,rfl,i+1,c&&okN s,iS,iX,iS,oM,by rw[←e,Bool.and_assoc],rfl⟩;rw[List.drop_of_length_le oM]at e;have e':c=(b0&&x.marks.all okN):=by rw[←e];simp
 cases c;simp only[evs,seval,g6,g2,g5,l3,am.len,(oM:¬(i:Int)<x.marks.length),jx];rw[←e']at k;exact k _ rfl;simp only[evs,seval,g6,g2,g5,l3,am.len,(oM:¬(i:Int)<x.marks.length),jx];rw[←e']at k;exact k _ rfl
theorem BA{h:Heap}{x:Itm}{types:Nat}(w:WF h)(a:ItmH h x)(ht:types<256):ao go 49 [.agg x.cells,.int .i64 (types:Int)] h fun u h'=>u=.int .i64 (if okI x types then 0 else 6)∧Fr [] h h':=by
 let⟨h1,e_h1,F_h1,o_h1⟩:=aj w x.cells;have l0:ag h1 h.next 0=some (.int .u64 (x.key:Int)):=o_h1.ld1 0;have l1:ag h1 h.next 1=some (.int .u8 (x.type:Int)):=o_h1.ld1 1;have l2:ag h1 h.next 2=some (.str x.text):=o_h1.ld1 2;have l3:ag h1 h.next 3=some x.vm:=o_h1.ld1 3;have a1:=a.fr F_h1;have at':=a.t;have bad:okI x types=false→∀h',h1=h'→(V.int .i64 (if(false&&x.marks.all okN)then 0 else 6)=V.int .i64 (if okI x types then 0 else 6)∧Fr [] h h'):=by grind
 have cv:bD .i64 (x.type:Int)=(x.type:Int):=ab _ oM oM;by_cases c0:(x.key:Int)=0;refine ac ?_;simp only[evs,seval,←e_h1,l2];refine aa jS ?_;rintro _ _ ⟨rfl,rfl⟩;simp only[evs,seval,l0,eq_true c0];exact gH (b0:=false) F_h1.wf o_h1 a1 iS (by simp[jx]) (bad (by simp[okI,(oM:x.key=0)]));by_cases c1:(types:Int)≤(x.type:Int);refine ac ?_;simp only[evs,seval,←e_h1,l2];refine aa jS ?_;rintro _ _ ⟨rfl,rfl⟩;simp only[evs,seval,l0,l1,eq_false c0,cv,eq_true c1];exact gH (b0:=false) F_h1.wf o_h1 a1 iS (by simp[jx]) (bad (by simp[okI,(oM:¬x.type<types)]));by_cases c2:(8:Int)<(x.marks.length:Nat);refine ac ?_;simp only[evs,seval,←e_h1,l2];refine aa jS ?_;rintro _ _ ⟨rfl,rfl⟩;simp only[evs,seval,l0,l1,l3,a1.m.len,eq_false c0,cv,eq_false c1,eq_true c2];exact gH (b0:=false) F_h1.wf o_h1 a1 iS (by simp[jx]) (bad (by simp[okI,okM,(oM:¬x.marks.length≤8)]));refine ac ?_;simp only[evs,seval,←e_h1,l2];refine aa jS ?_;rintro _ _ ⟨rfl,rfl⟩;simp only[evs,seval,l0,l1,l3,a1.m.len,eq_false c0,cv,eq_false c1,eq_false c2];apply gH (b0:=okT x.text) F_h1.wf o_h1 a1 iS iS;rintro _ rfl;have:(okT x.text&&x.marks.all okN)=okI x types:=by simp[okI,okM,(oM:x.key≠0),(oM:x.type<types),(oM:x.marks.length≤8)]
 rw[this];exact⟨rfl,F_h1⟩
theorem wv:∀(a b:Str),(!Op.bytesLess b a)=leS a b
 |[],[]=>by simp[leS,Op.bytesLess]
 |[],y::b=>by simp[leS,Op.bytesLess]
 |x::a,[]=>by simp[leS,Op.bytesLess]
 |x::a,y::b=>by have ih:=wv a b;simp only[leS,Op.bytesLess]at ih⊢;have d1:decide (x<y)=decide (x.toNat<y.toNat):=rfl;have d2:decide (y<x)=decide (y.toNat<x.toNat):=rfl;rw[d1,d2];have e0:(x::a==y::b)=(x==y&&a==b):=rfl;rw[e0];obtain q|q|q:=Nat.lt_trichotomy x.toNat y.toNat;grind;grind;grind
theorem kj(a b:Str):aP (.sb .geq) [.str a,.str b]=some (.bool (leS b a)):=by rw[←wv];rfl
theorem ni{h:Heap}{v:V}{l:List Slo}(w:WF h)(ra:Recs rI 3 h v l)(na:l.length≤4096):ao go 212 [v] h fun u h'=>u=.bool (bQ l)∧Fr [] h h':=by
 by_cases c8:l.length≤8;refine ac ?_;simp only[evs,seval,ra.len,(oM:¬(8:Int)<(l.length:Nat))];refine az (fun n env hh=>Fr [] h hh∧∃(i:Nat),env.get 3=some (.int .i64 i)∧env.get 0=some v∧
  i≤l.length∧dK (cN l i) (l.drop i)=dK none l∧n=l.length-i) l.length oM ?_ ?_
 exact⟨Fr.refl w,0,iS,iS,oM,rfl,rfl⟩;rintro n env hh ⟨F,i,g3,g0,hi,e,rfl⟩;by_cases hlt:i<l.length;have hlt':(i:Int)<l.length:=oM;let⟨b',o',a,p1,p2,p3,p4⟩:=(ra.fr F).ix eK .i64 (i:Int) oM hlt';rw[Int.toNat_natCast]at p4;rw[aK p4,jr]at e;have en:=qc p4;have bad:∀{h'},Fr [] h h'→gq (cN l i) a=false→V.bool false=.bool (bQ l)∧Fr [] h h':=fun f c=>by rw[c]at e;exact⟨by simp[bQ,←e],f⟩
 have rl:=(ra.fr F).len;let⟨h1,e_h1,F_h1,o_h1⟩:=aj F.wf [.str [],.int .u8 0,.str []];simp only[evs,seval,g3,g0,rl,hlt',p1,p3,←e_h1];refine stu F_h1.wf o_h1 ?_;rintro h2 o2 F2 n2;have F02:Fr [] hh h2:=F_h1.fresh F2 F.wf (Nat.le_refl _);have Fa:=F.then F02;have q0:ag h2 hh.next 0=some (.str a.1):=o2.ld1 0;have q1:ag h2 hh.next 1=some (.int .u8 (a.2.1:Int)):=o2.ld1 1;have q2:ag h2 hh.next 2=some (.str a.2.2):=o2.ld1 2;simp only[evs,seval,eff,q0];refine aa dQ ?_;rintro _ _ ⟨rfl,rfl⟩;cases c1:okN a.1;simp only[evs,seval,DF,eff,q0];exact bad Fa (by simp[gq,c1]);by_cases c2:(3:Int)<(a.2.1:Nat);simp only[evs,seval,DF,eff,q0,q1,eq_true c2];exact bad Fa (by simp[gq];omega);simp only[evs,seval,eff,q1,eq_false c2,q2];refine aa jq ?_;rintro _ _ ⟨rfl,rfl⟩;cases c3:okT a.2.2;simp only[evs,seval,DF,eff,q0,q1,q2];exact bad Fa (by simp[gq,c3]);have fin:(decide (a.2.1=0)||a.2.2==[])=true→bU (cN l i) a.1=true→dK (cN l (i+1)) (l.drop (i+1))=dK none l:=fun x y=>by
  have z:gq (cN l i) a=true:=by unfold gq;rw[c1,c3,x,y,(oO:decide (a.2.1≤3)=true)];rfl
  rw[z,Bool.true_and]at e;rw[en];exact e
 have step:(decide (a.2.1=0)||a.2.2==[])=false→gq (cN l i) a=false:=fun x=>by unfold gq;rw[x];simp
 have go1:(decide ((a.2.1:Int)=0)=true∨(a.2.2==[])=true)→(decide (a.2.1=0)||a.2.2==[])=true:=by grind
 by_cases cf:(a.2.1:Int)=0;by_cases c4:i=0;simp(disch:=omega) only[evs,seval,DF,eff,ab,g3,q0,q1,q2,eq_true cf,(oM:¬(0:Int)<(i:Int))];refine rqn ⟨l.length-(i+1),oM,Fa,i+1,iS,iX,oM,fin (go1 (.inl (decide_eq_true cf))) (by simp[cN,c4,bU]),rfl⟩;let⟨b2,o2',a2,t1,t2,t3,t4⟩:=(ra.fr Fa).ix eK .i64 ((i:Int)-1) oM oM;have t4':l[i-1]? =some a2:=by rw[←t4];congr 1;omega
 have t2':ag h2 b2 o2'=some (.str a2.1):=t2 0 oM;have pe:cN l i=some a2.1:=by simp[cN,c4,t4']
 cases c5:leS a.1 a2.1;simp(disch:=omega) only[evs,seval,DF,eff,ab,g3,g0,q0,q1,q2,eq_true cf,c5,t1,t2',kj,(oM:(0:Int)<(i:Int))];refine rqn ⟨l.length-(i+1),oM,Fa,i+1,iS,iX,oM,fin (go1 (.inl (decide_eq_true cf))) (by rw[pe];simp[bU,c5]),rfl⟩;simp(disch:=omega) only[evs,seval,DF,eff,ab,g3,g0,q0,q1,q2,eq_true cf,c5,t1,t2',kj,(oM:(0:Int)<(i:Int))];exact bad Fa (by simp[gq,pe,bU,c5]);have cf':¬a.2.1=0:=oM;cases cv:a.2.2==[];simp only[evs,seval,DF,eff,q0,q1,q2,eq_false cf,aV,cv];exact bad Fa (step iX);by_cases c4:i=0;simp(disch:=omega) only[evs,seval,DF,eff,ab,g3,q0,q1,q2,eq_false cf,aV,cv,(oM:¬(0:Int)<(i:Int))];refine rqn ⟨l.length-(i+1),oM,Fa,i+1,iS,iX,oM,fin (go1 (.inr cv)) (by simp[cN,c4,bU]),rfl⟩;let⟨b2,o2',a2,t1,t2,t3,t4⟩:=(ra.fr Fa).ix eK .i64 ((i:Int)-1) oM oM;have t4':l[i-1]? =some a2:=by rw[←t4];congr 1;omega
 have t2':ag h2 b2 o2'=some (.str a2.1):=t2 0 oM;have pe:cN l i=some a2.1:=by simp[cN,c4,t4']
 cases c5:leS a.1 a2.1;simp(disch:=omega) only[evs,seval,DF,eff,ab,g3,g0,q0,q1,q2,eq_false cf,aV,cv,c5,t1,t2',kj,(oM:(0:Int)<(i:Int))];refine rqn ⟨l.length-(i+1),oM,Fa,i+1,iS,iX,oM,fin (go1 (.inr cv)) (by rw[pe];simp[bU,c5]),rfl⟩;simp(disch:=omega) only[evs,seval,DF,eff,ab,g3,g0,q0,q1,q2,eq_false cf,aV,cv,c5,t1,t2',kj,(oM:(0:Int)<(i:Int))];exact bad Fa (by simp[gq,pe,bU,c5]);simp only[evs,seval,g3,g0,(ra.fr F).len,(oM:¬(i:Int)<l.length)];rw[List.drop_of_length_le oM]at e;exact⟨by simp[bQ,c8,←e,dK],F⟩;refine ac ?_;simp only[evs,seval,ra.len,(oM:(8:Int)<(l.length:Nat))];exact⟨by simp[bQ,c8],Fr.refl w⟩
theorem C5(n m:Nat):decide ((n:Int)≤(m:Int))=decide (n≤m):=by rw[decide_eq_decide];omega
theorem uT(a b:Nat):decide ((a:Int)+(b:Int)=0)=decide (a+b=0):=by rw[decide_eq_decide];omega
theorem FG{h:Heap}{k:Nat}{tg ky tx:Str}{sl:List Slo}{va vc:V}{sub:PT}(w:WF h)(n:PH h (.cons k tg ky sl tx va vc sub .nil)):
 ao go 191 [.agg [.int .u8 (k:Int),.str tg,.str ky,va,.str tx,vc]] h fun u h'=>u=.bool (dg k tg ky sl tx sub.len)∧Fr [] h h':=by
 let⟨n1,ra,na,rc,nc,n6,_⟩:=n;let⟨h1,e_h1,F_h1,o_h1⟩:=aj w [.int .u8 (k:Int),.str tg,.str ky,va,.str tx,vc];have l0:ag h1 h.next 0=some (.int .u8 (k:Int)):=o_h1.ld1 0;have l1:ag h1 h.next 1=some (.str tg):=o_h1.ld1 1;have l2:ag h1 h.next 2=some (.str ky):=o_h1.ld1 2;have l3:ag h1 h.next 3=some va:=o_h1.ld1 3;have l4:ag h1 h.next 4=some (.str tx):=o_h1.ld1 4;have l5:ag h1 h.next 5=some vc:=o_h1.ld1 5;have la:=(ra.fr F_h1).len;have lc:=(rc.fr F_h1).len;by_cases k1:k=1
 ·have q1:(k:Int)=1:=oM
  have spec:dg k tg ky sl tx sub.len=(okN tg&&((ky==[]||okN ky)&&(bQ sl&&(tx==[]&&decide (sub.len≤16))))):=by
   unfold dg;rw[if_pos k1];cases okN tg<;>cases(ky==[]||okN ky)<;>cases bQ sl<;>cases(tx==[])<;>cases decide (sub.len≤16)<;>rfl
  rw[spec];refine ac ?_;simp only[evs,seval,←e_h1,l0,l1,eq_true q1];refine aa dQ ?_;rintro _ _ ⟨rfl,rfl⟩;cases c1:okN tg
  ·simp only[evs,seval];exact⟨rfl,F_h1⟩
  cases c2:ky==[]
  ·simp only[evs,seval,l2,aJ,c2];apply aa dQ;rintro _ _ ⟨rfl,rfl⟩;cases c3:okN ky
   ·simp only[evs,seval];exact⟨rfl,F_h1⟩
   simp only[evs,seval,l3];refine aa (ni F_h1.wf (ra.fr F_h1) na) ?_;rintro _ h2 ⟨rfl,F2⟩;have m4:ag h2 h.next 4=some (.str tx):=(F2.get o_h1).ld1 4;have m5:ag h2 h.next 5=some vc:=(F2.get o_h1).ld1 5;have lc2:=(rc.fr (F_h1.then F2)).len;cases c4:bQ sl
   ·simp only[evs,seval];exact⟨rfl,F_h1.then F2⟩
   cases c5:tx==[]
   ·simp only[evs,seval,m4,aJ,c5];exact⟨rfl,F_h1.then F2⟩
   simp only[evs,seval,m4,m5,aJ,c5,lc2];exact⟨by simp[(iR:((16:Nat):Int)=16),←C5],F_h1.then F2⟩
  ·simp only[evs,seval,l2,l3,aJ,c2];refine aa (ni F_h1.wf (ra.fr F_h1) na) ?_;rintro _ h2 ⟨rfl,F2⟩;have m4:ag h2 h.next 4=some (.str tx):=(F2.get o_h1).ld1 4;have m5:ag h2 h.next 5=some vc:=(F2.get o_h1).ld1 5;have lc2:=(rc.fr (F_h1.then F2)).len;cases c4:bQ sl
   ·simp only[evs,seval];exact⟨rfl,F_h1.then F2⟩
   cases c5:tx==[]
   ·simp only[evs,seval,m4,aJ,c5];exact⟨rfl,F_h1.then F2⟩
   simp only[evs,seval,m4,m5,aJ,c5,lc2];exact⟨by simp[(iR:((16:Nat):Int)=16),←C5],F_h1.then F2⟩
 have q1:¬(k:Int)=1:=oM
 by_cases k2:k=2
 ·have q2:(k:Int)=2:=oM
  have spec:dg k tg ky sl tx sub.len=(okT tx&&(tg==[]&&(ky==[]&&decide (sl.length+sub.len=0)))):=by
   unfold dg;rw[if_neg k1,if_neg oM,if_pos k2];have:decide (sl.length+sub.len=0)=(decide (sl.length=0)&&decide (sub.len=0)):=by rw[←Bool.decide_and,decide_eq_decide];omega
   rw[this]
  rw[spec];refine ac ?_;simp only[evs,seval,←e_h1,l0,eq_false q1,eq_true q2,l4];refine aa jq ?_;rintro _ _ ⟨rfl,rfl⟩;cases c1:okT tx
  ·simp only[evs,seval];exact⟨rfl,F_h1⟩
  cases c2:tg==[]
  ·simp only[evs,seval,l1,aJ,c2];exact⟨rfl,F_h1⟩
  cases c3:ky==[]
  ·simp only[evs,seval,l1,l2,aJ,c2,c3];exact⟨rfl,F_h1⟩
  simp(disch:=omega) only[evs,seval,ab,l1,l2,l3,l5,aJ,c2,c3,la,lc];exact⟨by rw[uT];rfl,F_h1⟩
 have q2:¬(k:Int)=2:=oM
 by_cases k34:k=3∨k=4
 ·have spec:dg k tg ky sl tx sub.len=(tx==[]&&(tg==[]&&(ky==[]&&decide (sl.length+sub.len=0)))):=by
   unfold dg;rw[if_neg k1,if_neg oM,if_neg k2,if_pos k34];have:decide (sl.length+sub.len=0)=(decide (sl.length=0)&&decide (sub.len=0)):=by rw[←Bool.decide_and,decide_eq_decide];omega
   rw[this];cases(tg==[])<;>cases(ky==[])<;>cases(tx==[])<;>rfl
  rw[spec];by_cases q:(k:Int)=3
  ·cases c1:tx==[]<;>cases c2:tg==[]<;>cases c3:ky==[];all_goals
    refine ac ?_;simp(disch:=omega) only[evs,seval,ab,←e_h1,l0,l1,l2,l3,l4,l5,eq_false q1,eq_false q2,eq_true q,aJ,c1,c2,c3,la,lc];exact⟨by first|rfl|(rw[uT];rfl),F_h1⟩
  ·have q':(k:Int)=4:=oM
   cases c1:tx==[]<;>cases c2:tg==[]<;>cases c3:ky==[];all_goals
    refine ac ?_;simp(disch:=omega) only[evs,seval,ab,←e_h1,l0,l1,l2,l3,l4,l5,eq_false q1,eq_false q2,eq_false q,eq_true q',aJ,c1,c2,c3,la,lc];exact⟨by first|rfl|(rw[uT];rfl),F_h1⟩
 have q3:¬(k:Int)=3:=oM
 have q4:¬(k:Int)=4:=oM
 by_cases k5:k=5
 ·have q5:(k:Int)=5:=oM
  have spec:dg k tg ky sl tx sub.len=(okN tg&&(bQ sl&&(ky==[]&&(tx==[]&&decide (sub.len=0))))):=by
   unfold dg;rw[if_neg k1,if_pos k5]
  rw[spec];refine ac ?_;simp only[evs,seval,←e_h1,l0,l1,eq_false q1,eq_false q2,eq_false q3,eq_false q4,eq_true q5];refine aa dQ ?_;rintro _ _ ⟨rfl,rfl⟩;cases c1:okN tg
  ·simp only[evs,seval];exact⟨rfl,F_h1⟩
  simp only[evs,seval,l3];apply aa (ni F_h1.wf (ra.fr F_h1) na);rintro _ h2 ⟨rfl,F2⟩;have m2:ag h2 h.next 2=some (.str ky):=(F2.get o_h1).ld1 2;have m4:ag h2 h.next 4=some (.str tx):=(F2.get o_h1).ld1 4;have m5:ag h2 h.next 5=some vc:=(F2.get o_h1).ld1 5;have lc2:=(rc.fr (F_h1.then F2)).len;cases c4:bQ sl
  ·simp only[evs,seval];exact⟨rfl,F_h1.then F2⟩
  cases c3:ky==[]
  ·simp only[evs,seval,m2,aJ,c3];exact⟨rfl,F_h1.then F2⟩
  cases c5:tx==[]
  ·simp only[evs,seval,m2,m4,aJ,c3,c5];exact⟨rfl,F_h1.then F2⟩
  simp only[evs,seval,m2,m4,m5,aJ,c3,c5,lc2];exact⟨iS,F_h1.then F2⟩
 ·have q5:¬(k:Int)=5:=oM
  have spec:dg k tg ky sl tx sub.len=false:=by
   unfold dg;rw[if_neg k1,if_neg k5,if_neg k2,if_neg k34]
  rw[spec];refine ac ?_;simp only[evs,seval,←e_h1,l0,eq_false q1,eq_false q2,eq_false q3,eq_false q4,eq_false q5];exact F_h1
end Go.Ev.Lay
