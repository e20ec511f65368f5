/- An evaluator of the program, and contracts over it: StaB to StaN. -/
import Derived.Test.YtknldhlnhobdhaaGreatDoorP07
import Derived.Test.YtknldhlnhobdhaaGreatDoorP08
set_option linter.unusedSimpArgs false
set_option linter.unusedVariables false
set_option linter.constructorNameAsVariable false
set_option linter.unnecessarySimpa false
namespace Go.Ev.Lay
set_option maxRecDepth 4000
def xx(x:Itm)(s:Slo):Str:=if s.2.1=0 then s.2.2 else if s.2.1=1 then x.text else if s.2.1=2 then dec x.key else dec x.marks.length
def att(x:Itm)(s:Slo):Str×Str:=(s.1,xx x s)
theorem lQ{h:Heap}{z:Str}(w:WF h):aj go 218 [.str z] h fun u h'=>u=.agg [.int .u8 2,.str [],.str [],.nils,.str z,.nils]∧Fr [] h h':=by let⟨h1,e_h1,F_h1,o_h1⟩:=ao w [.int .u8 0,.str [],.str [],.nils,.str [],.nils];refine ab ?_;simp only[evs,seval,←e_h1];refine stu F_h1.wf o_h1 ?_;rintro h2 o2 F2 n2;have l:=o2.at6.2.2.2.2.2.2;simp only[evs,seval,l];exact F_h1.fresh F2 w (Nat.le_refl _)
theorem EH{h:Heap}{x:Itm}{v:V}{l:List Slo}(w:WF h)(a:ItmH h x)(r:Recs pO 3 h v l)(nl:l.length≤4096)(h3:∀s∈l,s.2.1≤3):
 aj go 262 [.agg x.cells,v] h fun u h'=>∃b,h.next≤b∧TbC 2 h' u b ((l.map (att x)).flatMap fg) l.length∧Fr [] h h':=by
 have kx:=a.k;have nx:=a.n;let⟨h1,e_h1,F_h1,o_h1⟩:=ao w x.cells;have n1:=hnx e_h1;refine ab ?_;simp only[evs,seval,←e_h1,r.len];refine(gz _ _ _ _ _ _ _ _ oM oM oM oM).2 ?_;simp only[Int.toNat_natCast];obtain⟨h2,e_h2⟩:∃h2,h2=halloc h1 (ce [.str [],.str []] l.length):=⟨_,rfl⟩;have F_h2:Fr [] h1 h2:=e_h2▸Fr.halloc F_h1.wf _;have o_h2:Own h2 h1.next (ce [.str [],.str []] l.length):=e_h2▸Own.new F_h1.wf _;have ln:(ce [V.str [],V.str []] l.length).length=l.length*2:=fU _ _;rw[←e_h2];clear e_h2;generalize ce [V.str [],V.str []] l.length=Z at ln o_h2;simp only[evs,seval,r.len];refine aA (fun n env hh=>Fr [] h hh∧Fr [] h1 hh∧∃(i:Nat)(C:List V),env.get 13=some (.int .i64 i)∧env.get 12=some (.int .i64 l.length)∧env.get 11=some v∧env.get 5=some (.slice h1.next 0 l.length l.length)∧env.get 2=some (.ptr h.next 0)∧
  i≤l.length∧Own hh h1.next C∧C.length=l.length*2∧C.take (i*2)=((l.take i).map (att x)).flatMap fg∧n=l.length-i) l.length oM ?_ ?_
 ·exact⟨F_h1.then F_h2,F_h2,0,Z,iS,iS,iS,iS,iS,oM,o_h2,ln,iS,rfl⟩
 ·rintro n env hh ⟨F,F1,i,C,g13,g12,g11,g5,g2,hi,oC,lC,eC,rfl⟩;by_cases hlt:i<l.length
  ·have hlt':(i:Int)<l.length:=oM
   let⟨b',o',s,p1,p2,p3,p4⟩:=(r.fr F).ix eW .i64 (i:Int) oM hlt';rw[Int.toNat_natCast]at p4;have s3:=h3 s (List.mem_of_getElem? p4);let⟨h3,e_h3,F_h3,o_h3⟩:=ao F.wf [.str [],.int .u8 0,.str []];simp only[evs,seval,g13,g12,g11,hlt',p1,p3,←e_h3];apply stu F_h3.wf o_h3;rintro h4 o4 F4 n4;have F04:Fr [] hh h4:=F_h3.fresh F4 F.wf (Nat.le_refl _);have ox:=F04.get (F1.get o_h1);have u0:ag h4 hh.next 0=some (.str s.1):=o4.ld1 0;have u1:ag h4 hh.next 1=some (.int .u8 (s.2.1:Int)):=o4.ld1 1;have u2:ag h4 hh.next 2=some (.str s.2.2):=o4.ld1 2;have x0:ag h4 h.next 0=some (.int .u64 (x.key:Int)):=ox.ld1 0;have x2:ag h4 h.next 2=some (.str x.text):=ox.ld1 2;have x3:ag h4 h.next 3=some x.vm:=ox.ld1 3;simp only[evs,seval,eff,g5,g2,u0,u2,x2,x0];apply aa (lJ F04.wf kx);rintro _ h5 ⟨rfl,F5⟩;have v0:ag h5 hh.next 0=some (.str s.1):=(F5.get o4).ld1 0;have v1:ag h5 hh.next 1=some (.int .u8 (s.2.1:Int)):=(F5.get o4).ld1 1;have v2:ag h5 hh.next 2=some (.str s.2.2):=(F5.get o4).ld1 2;have y2:ag h5 h.next 2=some (.str x.text):=(F5.get ox).ld1 2;have y3:ag h5 h.next 3=some x.vm:=(F5.get ox).ld1 3;have cv:bE .u64 (x.marks.length:Int)=(x.marks.length:Int):=bV _ oM oM;simp only[evs,seval,eff,g2,y3,a.m.len,cv];apply aa (lJ F5.wf oM);rintro _ h6 ⟨rfl,F6⟩;have F06:=(F04.then F5).then F6;have w0:ag h6 hh.next 0=some (.str s.1):=(F6.get (F5.get o4)).ld1 0;have w1:ag h6 hh.next 1=some (.int .u8 (s.2.1:Int)):=(F6.get (F5.get o4)).ld1 1;have w2:ag h6 hh.next 2=some (.str s.2.2):=(F6.get (F5.get o4)).ld1 2;have z2:ag h6 h.next 2=some (.str x.text):=(F6.get (F5.get ox)).ld1 2;have z3:ag h6 h.next 3=some x.vm:=(F6.get (F5.get ox)).ld1 3;have pk:aP (.ixarr 4 1 false) [.agg [.str s.2.2,.str x.text,.str (dec x.key),.str (dec x.marks.length)],.int .u8 (s.2.1:Int)]=some (.str (xx x s)):=by
    rw[xI _ _ _ _ oM];have:s.2.1=0∨s.2.1=1∨s.2.1=2∨s.2.1=3:=oM
    obtain e|e|e|e:=this<;>(rw[e];simp only[xx,e];rfl)
   have ix:=jV 2 h1.next 0 l.length l.length .i64 (i:Int) oM hlt';simp only[Int.toNat_natCast,Nat.zero_add]at ix;simp only[evs,seval,eff,w1,pk,ix];refine ai (c':=C.take (i*2)++fg (att x s)++C.drop (i*2+2)) F6.wf (F06.get oC) rfl rfl (cD C (i*2) (fg (att x s)) (by show i*2+2≤C.length;omega)) ?_;rintro h7 o7 F7 n7;have F17:Fr [] h h7:=(F.then F06).fresh F7 w oM;have F27:Fr [] h1 h7:=(F1.then F06).fresh F7 F_h1.wf (Nat.le_refl _);have fin:(C.take (i*2)++fg (att x s)++C.drop (i*2+2)).take ((i+1) *2)=((l.take (i+1)).map (att x)).flatMap fg:=by
    have:(C.take (i*2)++fg (att x s)).length=(i+1) *2:=by rw[List.length_append,dK,List.length_take];omega
    rw[←this,List.take_left,eC,List.take_add_one,p4];simp
   simp(disch:=omega) only[evs,seval,DF,ah,g13,u0,u1,u2,x0,x2,x3,v0,v1,v2,y2,y3,w0,w1,w2,z2];refine rqn ⟨l.length-(i+1),oM,F17,F27,i+1,_,iS,iX,iX,iX,iX,oM,o7,by simp[fg];omega,fin,rfl⟩
   done
  ·simp only[evs,seval,g13,g12,g5,(oM:¬(i:Int)<l.length)];rw[List.take_of_length_le oM,List.take_of_length_le oM]at eC;subst eC;exact⟨h1.next,oM,⟨by rw[lC],.inr ⟨rfl,oC⟩⟩,F⟩
theorem xn{e:Nat}{h:Heap}{v:V}{n:Nat}{cs:List V}(he:0<e)(a:Sl h e v n cs)(hv:v≠.sliceE):
 ∃u,aP (.sl none e false true true) [v,.int .i64 (n:Int),.int .i64 (n:Int)]=some u∧Sl h e u n cs∧u≠.sliceE:=by
 let⟨hl,a⟩:=a;have q:∀y,n≤y→aQ n y false true true [.int .i64 (n:Int),.int .i64 (n:Int)]=some (0,n,some n):=fun y hy=>by simp only[aQ,bD .i64 (n:Int) y oM oM,bD .i64 (n:Int) n oM oM,Option.bind_some,Option.map_some,Int.toNat_natCast]
 cases v with
 |nils=>have a:n=0:=a;subst a;exact⟨.nils,by simp only[aP,dD,q 0 (Nat.le_refl _),Option.map_some],⟨hl,rfl⟩,iS⟩
 |slice b o len cap=>obtain⟨rfl,h2,c,hc,h3,e3⟩:=a;refine⟨.slice b (bif Nat.beq len 0 then o else o+0*e) (len-0) (len-0),by simp only[aP,dD,q cap h2,Option.map_some,Option.getD_some],⟨hl,rfl,Nat.le_refl _,c,hc,?_⟩,iS⟩;by_cases c0:len=0;grind;grind
 |sliceU b o len e'=>obtain⟨rfl,rfl,c,hc,h3,e3⟩:=a;refine⟨.slice b (bif Nat.beq len 0 then o else o+0*e') (len-0) (len-0),by simp only[aP,dD,lM (rfl:e'=e'),(Nat.blt_eq ..).mpr he,Bool.and_self,cond_true,q len (Nat.le_refl _),Option.bind_some],⟨hl,rfl,Nat.le_refl _,c,hc,?_⟩,iS⟩;by_cases c0:len=0;grind;grind
 |sliceE=>exact absurd rfl hv
 |_=>exact a.elim
theorem Ey{h:Heap}{v:V}{n:Nat}{cs:List V}(a:Sl h 6 v n cs)(hv:v≠.sliceE):aj go 263 [v] h fun u h'=>(∀h2,Sl h2 6 v n cs→Sl h2 6 u n cs)∧u≠.sliceE∧h=h':=by let⟨u,e,s,ne⟩:=xn oM a hv;refine ab ?_;simp only[evs,seval,a.len,e];refine⟨fun h2 a2=>?_,ne⟩;let⟨u2,e2,s2,_⟩:=xn oM a2 hv;rw[e]at e2;cases e2;exact s2
theorem qA{h:Heap}{x:Itm}{v:V}{k:Nat}{tg ky tx key:Str}{l:List Slo}{vs vp:V}{n:Nat}{cs:List V}(w:WF h)(a:ItmH h x)(r:Recs pO 3 h vs l)(nl:l.length≤4096)(h3:∀s∈l,s.2.1≤3)
 (vp1:vp.one=true) (c:Sl h 6 v n cs) (hv:v≠.sliceE):
 aj go 217 [.agg x.cells,.agg [.int .u8 (k:Int),.str tg,.str ky,vs,.str tx,vp],.str key,v] h fun u h'=>∃va vc ba,u=.agg [.int .u8 1,.str tg,.str key,va,.str [],vc]∧h.next≤ba∧TbC 2 h' va ba ((l.map (att x)).flatMap fg) l.length∧(∀h2,Sl h2 6 v n cs→Sl h2 6 vc n cs)∧vc.one=true∧Fr [] h h':=by
 let⟨h1,e_h1,F_h1,o_h1⟩:=ao w x.cells;let⟨h2,e_h2,F_h2,o_h2⟩:=ao F_h1.wf [.int .u8 (k:Int),.str tg,.str ky,vs,.str tx,vp];let⟨h3',e_h3',F_h3',o_h3'⟩:=ao F_h2.wf [.int .u8 0,.str [],.str [],.nils,.str [],.nils];have n1:=hnx e_h1;have n2:=hnx e_h2;have F03:=(F_h1.then F_h2).then F_h3';have ox:=F_h3'.get (F_h2.get o_h1);have op:=F_h3'.get o_h2;have t1:ag h3' h1.next 1=some (.str tg):=op.ld1 1;have t3:ag h3' h1.next 3=some vs:=op.ld1 3;have x4:ak h3' h.next 0 4=some x.cells:=by rw[ox.ld];rfl
 refine ab ?_;simp only[evs,seval,eff,←e_h1,←e_h2,←e_h3',t1,t3,x4];refine aa (EH F_h3'.wf (a.fr F03) (r.fr F03) nl h3) ?_;rintro va h4 ⟨ba,hba,ta,F4⟩;have t1':ag h4 h1.next 1=some (.str tg):=(F4.get op).ld1 1;simp only[evs,seval,eff];apply aa (Ey (c.fr (F03.then F4)) hv);rintro vc _ ⟨scA,_,rfl⟩;have sc:=scA _ (c.fr (F03.then F4));simp only[evs,seval,eff,az ta.one,az sc.one];refine ai (c':=[.int .u8 1,.str tg,.str key,va,.str [],vc]) F4.wf (F4.get o_h3') rfl (by simp only[V.cells,aB,aF,ta.one,sc.one];rfl) rfl ?_;rintro h5 o5 F5 n5;have l6:=o5.at6.2.2.2.2.2.2;have F05:Fr [] h h5:=(F03.then F4).fresh F5 w oM;simp only[evs,seval,DF,t1,t1',t3,x4,l6];have n3:=hnx e_h3';exact⟨va,vc,ba,rfl,oM,ta.fr F5 oO,scA,sc.one,F05⟩
theorem _root_.Go.Ev.Gs.append1{h:Heap}{B esz bytes:Nat}{v x:V}{cs xs:List V}{n:Nat}(w:WF h)(a:Gs h B esz v cs)(s:Sl h esz x n xs)(he:0<esz)(hn:n≠0)(ho:av xs=true)(hB:B≤h.next)
 (hsz:(2*(cs.length+n)+1024) *bytes≤281474976710656) {K:V→Heap→Prop} (k:∀v' h',Gs h' B esz v' (cs++xs)→vb v'=[h.next]→Fr (vb v) h h'→K v' h'):OQ (jq h esz bytes v x) K:=by
 unfold jq;rw[s.srcLen];simp only[];rw[eR hn,cond_false,s.srcCells];simp only[];obtain⟨rfl,rfl⟩|⟨b,m,rfl,hm,hm0,hb,o⟩:=a;simp only[qT];have:Nat.ble ((2*n+1024) *bytes) 281474976710656=true:=by rw[Nat.ble_eq];simpa using hsz
 rw[this,cond_true];refine(bZ _ _ _).2 (k _ _ (.inr ⟨h.next,n,rfl,by simpa using s.1,oM,hB,by simpa using Own.new w xs⟩) rfl (Fr.halloc w xs));have hle:(2*(m+n)+1024) *bytes≤(2*(cs.length+n)+1024) *bytes:=by
  apply Nat.mul_le_mul_right _;have:m≤cs.length:=by rw[hm];exact Nat.le_mul_of_pos_right m he
  omega
 have h1:(Nat.beq esz esz&&Nat.ble ((2*(m+n)+1024) *bytes) 281474976710656)=true:=by simp only[Nat.beq_refl,Bool.true_and,Nat.ble_eq];omega
 simp only[h1,cond_true,o.cells];have hmn:(m+n) *esz=m*esz+n*esz:=Nat.add_mul _ _ _;have hpos:0<n*esz:=Nat.mul_pos oM he;rw[yY (oM:¬0+(m+n) *esz≤cs.length),cond_false];have h2:(Nat.ble (0+m*esz) cs.length&&av xs)=true:=by simp only[ho,Bool.and_true,Nat.ble_eq];omega
 simp only[h2,cond_true,eP,aZ cs (m*esz) oM];let⟨h',e,o',f⟩:=sE (pos:=0+m*esz) (c':=cs.take (m*esz)++xs) w o;rw[e];simp only[Option.map_some];refine(bZ _ _ _).2 (k _ _ (.inr ⟨h.next,m+n,rfl,by simp[s.1];omega,oM,hB,?_⟩) rfl f);rwa[List.take_of_length_le oM]at o'
inductive ST where
 |nil
 |cons (kind:Nat) (tag key:Str) (attrs:List (Str×Str)) (text:Str) (sub next:ST)
namespace ST
def app:ST→ST→ST
 |nil,t=>t
 |cons k tg ky a tx sub nx,t=>cons k tg ky a tx sub (nx.app t)
theorem app_nil:∀t:ST,t.app nil=t
 |nil=>rfl
 |cons _ _ _ _ _ _ nx=>by simp only[app,app_nil nx]
theorem app_assoc:∀a b c:ST,(a.app b).app c=a.app (b.app c)
 |nil,_,_=>rfl
 |cons _ _ _ _ _ _ nx,b,c=>by simp only[app,app_assoc nx b c]
def len:ST→Nat
 |nil=>0
 |cons _ _ _ _ _ _ nx=>nx.len+1
def keys:ST→List Str
 |nil=>[]
 |cons _ _ ky _ _ _ nx=>ky::nx.keys
def alone(k:Nat)(tg ky:Str)(at':List (Str×Str))(tx:Str)(sub:ST):Bool:=
 if k=2 then okT tx&&(tg==[]&&(ky==[]&&(decide (at'.length=0)&&decide (sub.len=0))))
 else decide (k=1)&&(okN tg&&((ky==[]||okN ky)&&(tx==[]&&(decide (at'.length≤8)&&(decide (sub.len≤16)&&(db none at'&&fA [] sub.keys))))))
def node(k:Nat)(tg ky:Str)(at':List (Str×Str))(tx:Str)(sub:ST)(w:Nat→Nat→Nat×Bool)(l c:Nat):Nat×Bool:=
 if 6<l∨64<c+1∨alone k tg ky at' tx sub=false then(c+1,false)else w (l+1) (c+1)
def walk:ST→Nat→Nat→Nat×Bool
 |nil,_,c=>(c,true)
 |cons k tg ky at' tx sub nx,l,c=>let r:=node k tg ky at' tx sub sub.walk l c;if r.2=true then nx.walk l r.1 else r
def count(k:Nat)(tg ky:Str)(at':List (Str×Str))(tx:Str)(sub:ST):Nat:=
 if(node k tg ky at' tx sub sub.walk 1 0).2=true then(node k tg ky at' tx sub sub.walk 1 0).1 else 0
end ST
namespace NT
def sh:NT→ST
 |nil=>.nil
 |cons k tg ky a tx _ _ sub nx=>.cons k tg ky a tx sub.sh nx.sh
def app:NT→NT→NT
 |nil,t=>t
 |cons k tg ky a tx va vc sub nx,t=>cons k tg ky a tx va vc sub (nx.app t)
theorem app_sh:∀a b:NT,(a.app b).sh=a.sh.app b.sh
 |nil,_=>rfl
 |cons _ _ _ _ _ _ _ _ nx,b=>by simp only[app,sh,ST.app,app_sh nx b]
theorem app_len:∀a b:NT,(a.app b).len=a.len+b.len
 |nil,b=>by simp[app,len]
 |cons _ _ _ _ _ _ _ _ nx,b=>by simp only[app,len,app_len nx b];omega
theorem app_cells:∀a b:NT,(a.app b).cells=a.cells++b.cells
 |nil,_=>rfl
 |cons _ _ _ _ _ _ _ _ nx,b=>by simp only[app,cells,app_cells nx b,List.append_assoc]
theorem sh_len:∀t:NT,t.sh.len=t.len
 |nil=>rfl
 |cons _ _ _ _ _ _ _ _ nx=>by simp only[sh,len,ST.len,sh_len nx]
theorem sh_keys:∀t:NT,t.sh.keys=t.keys
 |nil=>rfl
 |cons _ _ _ _ _ _ _ _ nx=>by simp only[sh,keys,ST.keys,sh_keys nx]
theorem vU(k:Nat)(tg ky:Str)(at':List (Str×Str))(tx:Str)(sub:NT):ST.alone k tg ky at' tx sub.sh=gA k tg ky at' tx sub:=by simp only[ST.alone,gA,sh_len,sh_keys]
theorem uy:∀(t:NT)(l c:Nat),t.sh.walk l c=t.walk l c
 |nil,_,_=>rfl
 |cons k tg ky at' tx _ _ sub nx,l,c=>by
  have e1:ST.node k tg ky at' tx sub.sh sub.sh.walk l c=node k tg ky at' tx sub sub.walk l c:=by unfold ST.node node;rw[vU,uy sub]
  show(let r:=ST.node k tg ky at' tx sub.sh sub.sh.walk l c;if r.2=true then nx.sh.walk l r.1 else r)=_;rw[e1];simp only[walk,uy nx]
theorem sh_count(k:Nat)(tg ky:Str)(at':List (Str×Str))(tx:Str)(sub:NT):ST.count k tg ky at' tx sub.sh=count k tg ky at' tx sub:=by
 have e1:ST.node k tg ky at' tx sub.sh sub.sh.walk 1 0=node k tg ky at' tx sub sub.walk 1 0:=by unfold ST.node node;rw[vU,uy sub]
 unfold ST.count count;rw[e1]
end NT
theorem NH.app{h:Heap}:∀{a b:NT},NH h a→NH h b→NH h (a.app b)
 |.nil,_,_,q=>q
 |.cons _ _ _ _ _ _ _ _ _,_,⟨x1,x2,x3,x4,x5,x6,x7⟩,q=>⟨x1,x2,x3,x4,x5,x6,NH.app x7 q⟩
def fR(z:Str):ST:=.cons 2 [] [] [] z .nil .nil
def jo(tg:Str)(a:List (Str×Str)):List Str→ST
 |[]=>.nil
 |m::ms=>.cons 1 tg m a [] (fR m) (jo tg a ms)
def k9(x:Itm)(k:Nat)(tg ky:Str)(sl:List Slo)(tx:Str)(sub:ST):ST:=
 if k=1 then .cons 1 tg ky (sl.map (att x)) [] sub .nil
 else if k=2 then fR tx
 else if k=3 then fR x.text
 else if k=4 then fR (dec x.key)
 else if k=5 then jo tg (sl.map (att x)) x.marks
 else .nil
def bI(x:Itm):PT→ST
 |.nil=>.nil
 |.cons k tg ky sl tx _ _ sub nx=>(k9 x k tg ky sl tx (bI x sub)).app (bI x nx)
def TG:PT→Prop
 |.nil=>True
 |.cons _ _ _ sl _ _ _ sub nx=>(∀s∈sl,s.2.1≤3)∧sub.len≤16∧TG sub∧TG nx
theorem TG.at':∀{t:PT}(i:Nat),TG t→TG (t.at' i)
 |.nil,0,_=>trivial
 |.nil,_+1,_=>trivial
 |.cons _ _ _ _ _ _ _ _ _,0,a=>a
 |.cons _ _ _ _ _ _ _ _ _,i+1,⟨_,_,_,g⟩=>TG.at' i g
theorem wY(tg:Str)(a:List (Str×Str)):∀ms:List Str,(jo tg a ms).len=ms.length
 |[]=>rfl
 |m::ms=>by simp[jo,ST.len,wY tg a ms]
theorem GJ(x:Itm)(k:Nat)(tg ky:Str)(sl:List Slo)(tx:Str)(sub:ST)(hm:x.marks.length≤8):(k9 x k tg ky sl tx sub).len≤8:=by unfold k9;split;simp[ST.len];split;simp[fR,ST.len];split;simp[fR,ST.len];split;simp[fR,ST.len];split;rw[wY];exact hm;simp[ST.len]
def Inv(v:V)(n0:Nat)(h:Heap)(s:NT):Prop:=∀(X:List Nat)(h':Heap),(∀x∈X,x<n0∨x∈vb v)→Fr X h h'→NH h' s
theorem Inv.fr{v:V}{n0:Nat}{h h':Heap}{s:NT}(I:Inv v n0 h s)(w:WF h)(f:Fr [] h h'):Inv v n0 h' s:=fun X h2 hx f2=>
 I X h2 hx (Fr.trans f f2 w iS (fun x hx=>.inl hx))
theorem Inv.nh{v:V}{n0:Nat}{h:Heap}{s:NT}(I:Inv v n0 h s)(w:WF h):NH h s:=I [] h iS (Fr.refl w)
theorem j4{h:Heap}{n0 B k:Nat}{vo:V}{s sub:NT}{tg ky tx:Str}{at':List (Str×Str)}{va vc:V}{K:V→Heap→Prop}(w:WF h)(g:Gs h B 6 vo s.cells)(hB:B≤h.next)(h0:n0≤h.next)(I:Inv vo n0 h s)
 (N:∀(X:List Nat)(h':Heap),(∀x∈X,x<n0∨x∈vb vo)→Fr X h h'→NH h' (.cons k tg ky at' tx va vc sub .nil)) (hl:s.len≤1000)
 (hk:∀v' h',Gs h' B 6 v' (s.app (.cons k tg ky at' tx va vc sub .nil)).cells→Inv v' n0 h' (s.app (.cons k tg ky at' tx va vc sub .nil))→Fr (vb vo) h h'→(∀y∈vb v',h.next≤y)→K v' h'):
 OQ (jq (halloc h [.int .u8 (k:Int),.str tg,.str ky,va,.str tx,vc]) 6 104 vo (.slice h.next 0 1 1)) K:=by
 have n1:=N [] h iS (Fr.refl w);have on:=NH.ones n1;have F1:=Fr.halloc w [.int .u8 (k:Int),.str tg,.str ky,va,.str tx,vc];have o1:=Own.new w [.int .u8 (k:Int),.str tg,.str ky,va,.str tx,vc];have cl:=s.cells_len;have vlt:∀x∈vb vo,x<h.next:=by obtain⟨rfl,_⟩|⟨b,n,rfl,_,_,_,o⟩:=g;simp[vb];have:=o.lt w;simp only[vb,List.mem_singleton];rintro x rfl;exact this
 refine Gs.append1 (n:=1) F1.wf (g.fr F1) (Sl.lit o1 rfl) oM oM on (Nat.le_trans hB F1.next) (by rw[cl];omega) ?_;intro v' h' g' e' F';have F:Fr (vb vo) h h':=Fr.trans F1 F' w iS (fun x hx=>.inl hx);refine hk v' h' ?_ ?_ F (by rw[e'];simp only[List.mem_singleton];rintro y rfl;exact F1.next);rw[NT.app_cells];exact g';intro X h2 hX f2;have f3:Fr (vb vo++X.filter (fun x=>decide (x<n0))) h h2:=by refine Fr.trans F f2 w (fun x hx=>.inl iX) (fun x hx=>?_);obtain q|q:=hX x hx;grind;rw[e']at q;simp at q;exact .inr (by subst q;exact F1.next)
 have hX':∀x∈vb vo++X.filter (fun x=>decide (x<n0)),x<n0∨x∈vb vo:=by grind
 exact NH.app (I _ h2 hX' f3) (N _ h2 hX' f3)
def MK(t:PT):Prop:=∀(x:Itm)(h:Heap)(v:V),WF h→ItmH h x→x.marks.length≤8→PH h t→TG t→t.len≤16→Sl h 6 v t.len t.cells→
 aj go 161 [.agg x.cells,v] h fun u h'=>∃s:NT,s.sh=bI x t∧Fr [] h h'∧u≠.sliceE∧s.len≤128∧∀(X:List Nat)(h2:Heap),(∀y∈X,y<h.next)→Fr X h' h2→NH h2 s∧Sl h2 6 u s.len s.cells
def MKs:PT→Prop
 |.nil=>True
 |.cons _ _ _ _ _ _ _ sub nx=>MK sub∧MKs nx
theorem MKs.at':∀{t:PT}(i:Nat),MKs t→MKs (t.at' i)
 |.nil,0,_=>trivial
 |.nil,_+1,_=>trivial
 |.cons _ _ _ _ _ _ _ _ _,0,a=>a
 |.cons _ _ _ _ _ _ _ _ _,i+1,⟨_,g⟩=>MKs.at' i g
theorem Gs.nE{h:Heap}{B e:Nat}{v:V}{cs:List V}(g:Gs h B e v cs):v≠.sliceE:=by obtain⟨rfl,_⟩|⟨b,n,rfl,_⟩:=g<;>simp
theorem Gs.frX{h h':Heap}{B e:Nat}{v:V}{cs:List V}{X:List Nat}(g:Gs h B e v cs)(f:Fr X h h')(hx:∀x∈X,x<B):Gs h' B e v cs:=by obtain⟨rfl,rfl⟩|⟨b,n,rfl,h1,h2,h3,o⟩:=g;exact .inl ⟨rfl,rfl⟩;exact .inr ⟨b,n,rfl,h1,h2,h3,f.own _ _ (fun m=>by have:=hx _ m;omega) o⟩
theorem xT{n0:Nat}{v:V}{h:Heap}(z:Str):∀(X:List Nat)(h':Heap),(∀x∈X,x<n0∨x∈vb v)→Fr X h h'→NH h' (.cons 2 [] [] [] z .nils .nils .nil .nil):=fun _ _ _ _=>j7 2 oM [] z
theorem Ah{t:PT}(M:MKs t):MK t:=by
 intro x h v w a hm pt tg hl sl;let⟨h1,e_h1,F_h1,o_h1⟩:=ao w x.cells;have n1:=hnx e_h1;refine ab ?_;simp only[evs,seval,←e_h1,sl.len];refine aA (fun n env hh=>Fr [] h hh∧Fr [] h1 hh∧∃(i:Nat)(s:NT)(vo:V),env.get 12=some (.int .i64 i)∧env.get 11=some (.int .i64 t.len)∧env.get 10=some v∧env.get 5=some vo∧env.get 2=some (.ptr h.next 0)∧
  i≤t.len∧Inv vo h.next hh s∧Gs hh h1.next 6 vo s.cells∧s.sh.app (bI x (t.at' i))=bI x t∧s.len≤8*i∧n=t.len-i) t.len oM ?_ ?_
 ·exact⟨F_h1,Fr.refl F_h1.wf,0,.nil,.nils,iS,iS,iS,iS,iS,oM,fun _ _ _ _=>trivial,.inl ⟨rfl,rfl⟩,by cases t<;>rfl,by simp[NT.len],rfl⟩
 ·rintro n env hh ⟨F,F1,i,s,vo,g12,g11,g10,g5,g2,hi,I,G,e,sn,rfl⟩;by_cases hlt:i<t.len
  ·have hlt':(i:Int)<t.len:=oM
   let⟨k,tgn,ky,sl',tx,vs,vp,sub,nx,e1,e2,e3,e4,e5,e6⟩:=t.split i hlt;have pti:=pt.at' i;have tgi:=tg.at' i;have Mi:=M.at' i;rw[e1]at pti tgi Mi e;let⟨pk,pr,pl,ps,pn,psub,_⟩:=pti;let⟨t3,tl,tsub,_⟩:=tgi;let⟨b',o',p1,p2⟩:=(sl.fr F).ix6 hlt e2;have on:av [.int .u8 (k:Int),.str tgn,.str ky,vs,.str tx,vp]=true:=by
    simp only[aB,aF,Sl.one pr,Sl.one ps];rfl
   have vlt:∀y∈vb vo,y<hh.next:=by
    obtain⟨rfl,_⟩|⟨b,n,rfl,_,_,_,o⟩:=G
    ·simp[vb]
    ·have:=o.lt F.wf;simp only[vb,List.mem_singleton];rintro y rfl;exact this
   let⟨h3,e_h3,F_h3,o_h3⟩:=ao F.wf [.int .u8 0,.str [],.str [],.nils,.str [],.nils];simp only[evs,seval,g12,g11,g10,hlt',p1,p2.2.2.2.2.2.2,←e_h3];refine ai (c':=[.int .u8 (k:Int),.str tgn,.str ky,vs,.str tx,vp]) F_h3.wf o_h3 rfl on rfl ?_;rintro h4 o4 F4 n4;have F04:Fr [] hh h4:=F_h3.fresh F4 F.wf (Nat.le_refl _);have q4:=o4.at6;have ox:=F04.get (F1.get o_h1);have x4:ak h4 h.next 0 4=some x.cells:=by rw[ox.ld];rfl
   have hn4:hh.next≤h4.next:=F04.next;have h1n:=F1.next;simp only[bI]at e;have fin:∀{env2:T V}{s2:NT}{v2:V}{h5:Heap},Fr [] h h5→Fr [] h1 h5→env2.get 12=some (.int .i64 ((i:Int)+1))→env2.get 11=some (.int .i64 t.len)→env2.get 10=some v→env2.get 5=some v2→env2.get 2=some (.ptr h.next 0)→
    Inv v2 h.next h5 s2→Gs h5 h1.next 6 v2 s2.cells→s2.sh=s.sh.app (k9 x k tgn ky sl' tx (bI x sub))→
    ∃k',k'<t.len-i∧Fr [] h h5∧Fr [] h1 h5∧∃(i:Nat)(s:NT)(vo:V),env2.get 12=some (.int .i64 i)∧env2.get 11=some (.int .i64 t.len)∧env2.get 10=some v∧env2.get 5=some vo∧env2.get 2=some (.ptr h.next 0)∧
     i≤t.len∧Inv vo h.next h5 s∧Gs h5 h1.next 6 vo s.cells∧s.sh.app (bI x (t.at' i))=bI x t∧s.len≤8*i∧k'=t.len-i:=by
    intro env2 s2 v2 h5 f f1 a1 a2 a3 a4 a5 I2 G2 es;have ol:=GJ x k tgn ky sl' tx (bI x sub) hm;refine⟨t.len-(i+1),oM,f,f1,i+1,s2,v2,a1,a2,a3,a4,a5,oM,I2,G2,?_,?_,rfl⟩
    ·rw[es,e3,ST.app_assoc];exact e
    ·rw[←NT.sh_len,es];have:∀a b:ST,(a.app b).len=a.len+b.len:=by
      intro a b;induction a with
      |nil=>simp[ST.app,ST.len]
      |cons _ _ _ _ _ _ nx _ ih=>simp only[ST.app,ST.len,ih];omega
     rw[this,NT.sh_len];omega
   have l0:ag h4 hh.next 0=some (.int .u8 (k:Int)):=q4.1;have vge:∀y∈vb vo,h1.next≤y:=by
    obtain⟨rfl,_⟩|⟨b,n,rfl,_,_,hb,o⟩:=G
    ·simp[vb]
    ·simp only[vb,List.mem_singleton];rintro y rfl;exact hb
   have F0:Fr [] h h4:=F.then F04;have F10:Fr [] h1 h4:=F1.then F04;have att_h:=a.fr F0;by_cases k1:k=1
   ·have ek:k9 x k tgn ky sl' tx (bI x sub)=.cons 1 tgn ky (sl'.map (att x)) [] (bI x sub) .nil:=by subst k1;rfl
    have l2:ag h4 hh.next 2=some (.str ky):=q4.2.2.1;have l5:ag h4 hh.next 5=some vp:=q4.2.2.2.2.2.1;have l6:=q4.2.2.2.2.2.2;simp only[evs,seval,eff,g5,g2,l0,eq_true (oM:(k:Int)=1),x4,l6,l2,l5];refine aa (Mi.1 x h4 vp F04.wf att_h hm (psub.fr F0) tsub tl (ps.fr F0)) ?_;rintro u h5 ⟨s5,es5,F5,uE,s5l,st5⟩;have st0:=st5 [] h5 iS (Fr.refl F5.wf);have x5:ak h5 h.next 0 4=some x.cells:=by rw[(F5.get ox).ld];rfl
    have r5:=(F5.get o4).at6;have m2:ag h5 hh.next 2=some (.str ky):=r5.2.2.1;have m6:=r5.2.2.2.2.2.2;simp only[evs,eff];refine aa (qA F5.wf (att_h.fr F5) (Recs.fr pr (F0.then F5)) pl t3 (Sl.one ps) st0.2 uE) ?_;rintro _ h6 ⟨va,vc,ba,rfl,hba,ta,scA,vc1,F6⟩;simp only[evs,seval,eff];have hn5:=F5.next;refine j4 (k:=1) (sub:=s5) (at':=sl'.map (att x)) F6.wf (G.fr ((F04.then F5).then F6)) (by have:=F6.next;omega) (by have:=F6.next;omega) (I.fr F.wf ((F04.then F5).then F6)) ?_ oM ?_
    ·intro X h' hX f;have hX':∀y∈X,y<h4.next:=fun y hy=>by grind
     let⟨z1,z2⟩:=st5 X h' hX' (Fr.trans F6 f F5.wf iS (fun y hy=>.inl hy));refine⟨oM,?_,by simpa using pl,scA _ z2,oM,z1,trivial⟩;have:=(ta.fr f (fun m=>by have:=hX' _ m;omega)).sl;show Sl h' 2 va (sl'.map (att x)).length _;rw[List.length_map];exact this
    intro v' h' G' I' F' V';simp(disch:=omega) only[evs,seval,DF,eff,ah,g12,g2,x4,l6,l2,l5,x5,m6,m2];refine rqn ?_;exact fin (Fr.new w ((F0.then F5).then F6) F' (fun y hy=>by have:=vge y hy;omega)) (Fr.new F_h1.wf ((F10.then F5).then F6) F' vge) iS iX iX iS iX I' G' (by rw[ek,←es5];exact NT.app_sh _ _)
    done
   by_cases k2:k=2
   ·have ek:k9 x k tgn ky sl' tx (bI x sub)=fR tx:=by subst k2;rfl
    simp only[evs,seval,g5,l0,(oM:¬(k:Int)=1),eq_true (oM:(k:Int)=2),q4.2.2.2.2.1];refine aa (lQ F04.wf) ?_;rintro _ h5 ⟨rfl,F5⟩;simp only[evs,seval];refine j4 (k:=2) F5.wf (G.fr (F04.then F5)) (by have:=F5.next;omega) (by have:=F5.next;omega) (I.fr F.wf (F04.then F5)) (xT _) oM ?_;intro v' h' G' I' F' V';simp(disch:=omega) only[evs,seval,ah,g12];refine rqn ?_;exact fin (Fr.new w (F0.then F5) F' (fun y hy=>by have:=vge y hy;omega)) (Fr.new F_h1.wf (F10.then F5) F' vge) iS iX iX iS iX I' G' (by rw[ek];exact NT.app_sh _ _)
    done
   by_cases k3:k=3
   ·have ek:k9 x k tgn ky sl' tx (bI x sub)=fR x.text:=by subst k3;rfl
    simp only[evs,seval,g5,g2,l0,(oM:¬(k:Int)=1),(oM:¬(k:Int)=2),eq_true (oM:(k:Int)=3),show ag h4 h.next 2=some (.str x.text)from ox.ld1 2];refine aa (lQ F04.wf) ?_;rintro _ h5 ⟨rfl,F5⟩;simp only[evs,seval];refine j4 (k:=2) F5.wf (G.fr (F04.then F5)) (by have:=F5.next;omega) (by have:=F5.next;omega) (I.fr F.wf (F04.then F5)) (xT _) oM ?_;intro v' h' G' I' F' V';simp(disch:=omega) only[evs,seval,ah,g12];refine rqn ?_;exact fin (Fr.new w (F0.then F5) F' (fun y hy=>by have:=vge y hy;omega)) (Fr.new F_h1.wf (F10.then F5) F' vge) iS iX iX iS iX I' G' (by rw[ek];exact NT.app_sh _ _)
    done
   by_cases k4:k=4
   ·have ek:k9 x k tgn ky sl' tx (bI x sub)=fR (dec x.key):=by subst k4;rfl
    simp only[evs,seval,g5,g2,l0,(oM:¬(k:Int)=1),(oM:¬(k:Int)=2),(oM:¬(k:Int)=3),eq_true (oM:(k:Int)=4),show ag h4 h.next 0=some (.int .u64 (x.key:Int))from ox.ld1 0];refine aa (lJ F04.wf a.k) ?_;rintro _ h4' ⟨rfl,F4'⟩;simp only[evs];refine aa (lQ F4'.wf) ?_;rintro _ h5 ⟨rfl,F5'⟩;have F5:=F4'.then F5';simp only[evs,seval];refine j4 (k:=2) F5.wf (G.fr (F04.then F5)) (by have:=F5.next;omega) (by have:=F5.next;omega) (I.fr F.wf (F04.then F5)) (xT _) oM ?_;intro v' h' G' I' F' V';simp(disch:=omega) only[evs,seval,ah,g12];refine rqn ?_;exact fin (Fr.new w (F0.then F5) F' (fun y hy=>by have:=vge y hy;omega)) (Fr.new F_h1.wf (F10.then F5) F' vge) iS iX iX iS iX I' G' (by rw[ek];exact NT.app_sh _ _)
    done
   by_cases k5:k=5
   ·have ek:k9 x k tgn ky sl' tx (bI x sub)=jo tgn (sl'.map (att x)) x.marks:=by subst k5;rfl
    have l3:ag h4 h.next 3=some x.vm:=ox.ld1 3;simp only[evs,seval,g2,l0,(oM:¬(k:Int)=1),(oM:¬(k:Int)=2),(oM:¬(k:Int)=3),(oM:¬(k:Int)=4),eq_true (oM:(k:Int)=5),l3,a.m.len];refine aA (fun n env' hh'=>Fr [] h hh'∧Fr [] h1 hh'∧Own hh' hh.next [.int .u8 (k:Int),.str tgn,.str ky,vs,.str tx,vp]∧h4.next≤hh'.next∧∃(j:Nat)(s':NT)(v2:V),env'.get 65=some (.int .i64 j)∧env'.get 64=some (.int .i64 x.marks.length)∧env'.get 63=some x.vm∧env'.get 7=some (.ptr hh.next 0)∧
     env'.get 12=some (.int .i64 i)∧env'.get 11=some (.int .i64 t.len)∧env'.get 10=some v∧env'.get 5=some v2∧env'.get 2=some (.ptr h.next 0)∧j≤x.marks.length∧hh.next∉vb v2∧Inv v2 h.next hh' s'∧Gs hh' h1.next 6 v2 s'.cells∧
     s'.sh.app (jo tgn (sl'.map (att x)) (x.marks.drop j))=s.sh.app (jo tgn (sl'.map (att x)) x.marks)∧s'.len≤8*i+j∧n=x.marks.length-j) x.marks.length oM ?_ ?_
    ·exact⟨F0,F10,o4,Nat.le_refl _,0,s,vo,iS,iS,iS,iS,iX,iX,iX,iX,iX,oM,fun m=>by(have:=vlt _ m;omega),I.fr F.wf F04,G.fr F04,rfl,oM,rfl⟩
    ·rintro n' env' hh' ⟨F0j,F1j,oj,hnj,j,s',v2,g65,g64,g63,g7,g12,g11,g10,g5,g2,hj,hnv,I2,G2,ej,sl2,rfl⟩;have oxj:=F1j.get o_h1;by_cases hjl:j<x.marks.length
     ·have hjl':(j:Int)<x.marks.length:=oM
      let⟨b3,o3',mk,r1,r2,_,r4⟩:=(a.m.fr F0j).ix fT .i64 (j:Int) oM hjl';have r2':ag hh' b3 o3'=some (.str mk):=r2 0 oM;rw[Int.toNat_natCast]at r4;rw[aG r4]at ej;have v2ge:∀y∈vb v2,h1.next≤y:=by
       obtain⟨rfl,_⟩|⟨b,n,rfl,_,_,hb,o⟩:=G2
       ·simp[vb]
       ·simp only[vb,List.mem_singleton];rintro y rfl;exact hb
      have v2lt:∀y∈vb v2,y<hh'.next:=by
       obtain⟨rfl,_⟩|⟨b,n,rfl,_,_,_,o⟩:=G2
       ·simp[vb]
       ·have:=o.lt F0j.wf;simp only[vb,List.mem_singleton];rintro y rfl;exact this
      have ja:ak hh' h.next 0 4=some x.cells:=by rw[oxj.ld];rfl
      have jp:=oj.at6.2.2.2.2.2.2;simp only[evs,seval,eff,g65,g64,g63,g7,g5,g2,hjl',r1,r2',ja,jp];refine aa (lQ F0j.wf) ?_;rintro _ h5 ⟨rfl,F5⟩;let⟨h6,e_h6,F_h6,o_h6⟩:=ao F5.wf [.int .u8 2,.str [],.str [],.nils,.str mk,.nils];have n6:=hnx e_h6;have ja5:ak h5 h.next 0 4=some x.cells:=by rw[(F5.get oxj).ld];rfl
      have jp5:=(F5.get oj).at6.2.2.2.2.2.2;have ja6:ak h6 h.next 0 4=some x.cells:=by rw[(F_h6.get (F5.get oxj)).ld];rfl
      have jp6:=(F_h6.get (F5.get oj)).at6.2.2.2.2.2.2;simp only[evs,seval,eff,←e_h6];have F06:=(F0j.then F5).then F_h6;have kid:Sl h6 6 (.slice h5.next 0 1 1) 1 (NT.cons 2 [] [] [] mk .nils .nils .nil .nil).cells:=Sl.lit o_h6 rfl;refine aa (qA F_h6.wf (a.fr F06) (Recs.fr pr F06) pl t3 (Sl.one ps) kid iS) ?_;rintro _ h7 ⟨va,vc,ba,rfl,hba,ta,scA,vc1,F7⟩;simp only[evs,seval,eff];have hn5:=F5.next;have hn7:=F7.next;have Fj7:=(F5.then F_h6).then F7;refine j4 (k:=1) (sub:=.cons 2 [] [] [] mk .nils .nils .nil .nil) (at':=sl'.map (att x)) F7.wf (G2.fr Fj7) oM oM (I2.fr F0j.wf Fj7) ?_ oM ?_
      ·intro X h' hX f;have hX':∀y∈X,y<hh'.next:=fun y hy=>by grind
       have f2:Fr X h6 h':=Fr.trans F7 f F_h6.wf iS (fun y hy=>.inl hy);have o':=f2.own _ _ (fun m=>by have:=hX' _ m;omega) o_h6;refine⟨oM,?_,by simpa using pl,scA _ (Sl.lit o' rfl),by simp[NT.len],j7 2 oM [] mk,trivial⟩;have:=(ta.fr f (fun m=>by have:=hX' _ m;omega)).sl;show Sl h' 2 va (sl'.map (att x)).length _;rw[List.length_map];exact this
      intro v' h' G' I' F' V';simp(disch:=omega) only[evs,seval,DF,eff,ah,g65,g7,g2,ja,jp,ja5,jp5,ja6,jp6];refine rqn ⟨x.marks.length-(j+1),oM,Fr.new w (F0j.then Fj7) F' (fun y hy=>by have:=v2ge y hy;omega),Fr.new F_h1.wf (F1j.then Fj7) F' v2ge,F'.own _ _ hnv (Fj7.get oj),by have:=F'.next;omega,j+1,_,v',iS,iX,iX,iX,iX,iX,iX,iS,iX,oM,fun m=>by(have:=V' _ m;omega),I',G',?_,?_,rfl⟩
      ·rw[NT.app_sh,ST.app_assoc];exact ej
      ·rw[NT.app_len];simp only[NT.len];omega
     ·simp(disch:=omega) only[evs,seval,ah,g65,g64,g12,(oM:¬(j:Int)<x.marks.length)];rw[List.drop_of_length_le oM]at ej;simp only[jo,ST.app_nil]at ej;refine rqn ?_;exact fin F0j F1j iS iX iX iX iX I2 G2 (by rw[ek];exact ej)
      done
   have ek:k9 x k tgn ky sl' tx (bI x sub)=.nil:=by unfold k9;simp[k1,k2,k3,k4,k5]
   simp(disch:=omega) only[evs,seval,ah,g12,l0,(oM:¬(k:Int)=1),(oM:¬(k:Int)=2),(oM:¬(k:Int)=3),(oM:¬(k:Int)=4),(oM:¬(k:Int)=5)];refine rqn ?_;exact fin F0 F10 iS iX iX iX iX (I.fr F.wf F04) (G.fr F04) (by rw[ek,ST.app_nil])
   done
  ·simp only[evs,seval,g12,g11,g5,(oM:¬(i:Int)<t.len)];rw[PT.at_end _ _ oM]at e;simp only[bI,ST.app_nil]at e;refine⟨s,e,F,Gs.nE G,oM,fun X h2 hX f2=>⟨I X h2 (fun y hy=>.inl (hX y hy)) f2,(Gs.frX G f2 (fun y hy=>by have:=hX y hy;omega)).sl s.cells_len oM⟩⟩
theorem mks:∀t:PT,MKs t
 |.nil=>trivial
 |.cons _ _ _ _ _ _ _ sub nx=>⟨Ah (mks sub),mks nx⟩
theorem ut:∀(p:Option Str)(l:List Slo),dP p l=true→∀s∈l,s.2.1≤3
 |_,[],_,s,m=>by simp at m
 |p,a::l,e,s,m=>by rw[jz,Bool.and_eq_true]at e;obtain rfl|m:=List.mem_cons.1 m;have:=e.1;simp only[gF,Bool.and_eq_true,decide_eq_true_eq]at this;exact this.2.1;exact ut _ l e.2 s m
theorem pZ{k:Nat}{tg ky tx:Str}{sl:List Slo}{n:Nat}(h:dk k tg ky sl tx n=true):(∀s∈sl,s.2.1≤3)∧n≤16:=by unfold dk at h;by_cases k1:k=1;rw[if_pos k1]at h;simp only[Bool.and_eq_true,decide_eq_true_eq,bP]at h;exact⟨ut _ _ h.2.2.2.1.2,h.2.1⟩;rw[if_neg k1]at h;by_cases k5:k=5;rw[if_pos k5]at h;simp only[Bool.and_eq_true,decide_eq_true_eq,bP]at h;exact⟨ut _ _ h.2.1.2,oM⟩;rw[if_neg k5]at h;by_cases k2:k=2;grind;rw[if_neg k2]at h;by_cases k34:k=3∨k=4;grind;grind
theorem uk:∀(t:PT)(l c:Nat),(t.walk l c).2=true→TG t
 |.nil,_,_,_=>trivial
 |.cons k tg ky sl tx _ _ sub nx,l,c,h=>by
  simp only[PT.walk]at h;by_cases q:(PT.node k tg ky sl tx sub sub.walk l c).2=true;rw[if_pos q]at h;have g:=uk nx _ _ h;unfold PT.node at q;by_cases x:6<l∨64<c+1∨dk k tg ky sl tx sub.len=false;grind;rw[if_neg x]at q;have pb:dk k tg ky sl tx sub.len=true:=by grind
  exact⟨(pZ pb).1,(pZ pb).2,uk sub _ _ q,g⟩;grind
theorem Et{k:Nat}{tg ky tx:Str}{sl:List Slo}{sub:PT}(va vc:V)(h:PT.count k tg ky sl tx sub≠0):k=1∧TG (.cons k tg ky sl tx va vc sub .nil):=by unfold PT.count at h;split at h;rename_i q;refine⟨q.1,uk (.cons k tg ky sl tx va vc sub .nil) 1 0 ?_⟩;simp only[PT.walk];rw[if_pos q.2];exact absurd rfl h
theorem NT.sh_one{s:NT}{k:Nat}{tg ky tx:Str}{a:List (Str×Str)}{sub:ST}(e:s.sh=.cons k tg ky a tx sub .nil):∃va vc s',s=.cons k tg ky a tx va vc s' .nil∧s'.sh=sub:=by
 cases s with
 |nil=>cases e
 |cons k' tg' ky' a' tx' va vc s' nx=>
  simp only[NT.sh]at e;cases nx with
  |nil=>cases e;exact⟨va,vc,s',rfl,rfl⟩
  |cons _ _ _ _ _ _ _ _ _=>cases e
def dZ(k:Nat)(tg ky:Str)(sl:List Slo)(tx:Str)(sub:PT)(x:Itm)(most:Int):Int:=
 if most<1∨64<most then 1
 else if PT.count k tg ky sl tx sub=0 then 14
 else if fX x=false then 6
 else if ST.count 1 tg ky (sl.map (att x)) [] (bI x sub)=0∨most<(ST.count 1 tg ky (sl.map (att x)) [] (bI x sub):Nat)then 14
 else 0
abbrev Z6:List V:=[.int .u8 0,.str [],.str [],.nils,.str [],.nils]
theorem sw{h:Heap}{k:Nat}{tg ky tx:Str}{sl:List Slo}{vs vp:V}{sub:PT}{x:Itm}{most:Int}(w:WF h)(n:PH h (.cons k tg ky sl tx vs vp sub .nil))(a:ItmH h x):
 aj go 105 [.agg [.int .u8 (k:Int),.str tg,.str ky,vs,.str tx,vp],.agg x.cells,.int .i64 most] h fun u h'=>∃cs,u=.tup [.agg cs,.int .i64 (dZ k tg ky sl tx sub x most)]∧Fr [] h h'∧
  (dZ k tg ky sl tx sub x most≠0→cs=Z6)∧(dZ k tg ky sl tx sub x most=0→∃(s:NT)(va vc:V),cs=[.int .u8 1,.str tg,.str ky,va,.str [],vc]∧(∀(X:List Nat)(h2:Heap),(∀y∈X,y<h.next)→Fr X h' h2→NH h2 (.cons 1 tg ky (sl.map (att x)) [] va vc s .nil))∧s.sh=bI x sub):=by
 let⟨h1,e_h1,F_h1,o_h1⟩:=ao w [.int .u8 (k:Int),.str tg,.str ky,vs,.str tx,vp];let⟨h2,e_h2,F_h2,o_h2⟩:=ao F_h1.wf x.cells;let⟨h3,e_h3,F_h3,o_h3⟩:=ao F_h2.wf [.int .u8 0,.str [],.str [],.nils,.str [],.nils];have n1:=hnx e_h1;have n2:=hnx e_h2;have F03:=(F_h1.then F_h2).then F_h3;have op:=F_h3.get (F_h2.get o_h1);have ox:=F_h3.get o_h2;have p6:=op.at6.2.2.2.2.2.2;have x4:ak h3 h1.next 0 4=some x.cells:=by rw[ox.ld];rfl
 have bad:∀{h4 h5:Heap}{e:Int}{c0:List V},dZ k tg ky sl tx sub x most=e→e≠0→Fr [] h h4→Own h4 h2.next c0→Fr [h2.next] h4 h5→∃cs,V.tup [.agg Z6,.int .i64 e]=.tup [.agg cs,.int .i64 (dZ k tg ky sl tx sub x most)]∧Fr [] h h5∧
  (dZ k tg ky sl tx sub x most≠0→cs=Z6)∧(dZ k tg ky sl tx sub x most=0→∃(s:NT)(va vc:V),cs=[.int .u8 1,.str tg,.str ky,va,.str [],vc]∧(∀(X:List Nat)(h2:Heap),(∀y∈X,y<h.next)→Fr X h5 h2→NH h2 (.cons 1 tg ky (sl.map (att x)) [] va vc s .nil))∧s.sh=bI x sub):=by
  intro h4 h5 e c0 q ne f _ f2;subst q;exact⟨Z6,rfl,f.fresh f2 w oM,fun _=>rfl,fun q=>absurd q ne⟩
 by_cases m1:most<1;refine ab ?_;simp only[evs,seval,←e_h1,←e_h2,←e_h3,m1];refine stu F_h3.wf o_h3 ?_;rintro h4 o4 F4 n4;simp only[evs,seval,o4.at6.2.2.2.2.2.2];exact bad (if_pos (.inl m1)) oM F03 o_h3 F4;by_cases m2:(64:Int)<most;refine ab ?_;simp only[evs,seval,←e_h1,←e_h2,←e_h3,m1,m2];refine stu F_h3.wf o_h3 ?_;rintro h4 o4 F4 n4;simp only[evs,seval,o4.at6.2.2.2.2.2.2];exact bad (if_pos (.inr m2)) oM F03 o_h3 F4;have r1:dZ k tg ky sl tx sub x most=if PT.count k tg ky sl tx sub=0 then 14 else if fX x=false then 6 else if ST.count 1 tg ky (sl.map (att x)) [] (bI x sub)=0∨most<(ST.count 1 tg ky (sl.map (att x)) [] (bI x sub):Nat)then 14 else 0:=if_neg oM;refine ab ?_;simp only[evs,seval,←e_h1,←e_h2,←e_h3,m1,m2,p6];refine aa (rR F_h3.wf (n.fr F03)) ?_;rintro _ h4 ⟨rfl,F4⟩;have F04:=F03.then F4;have oz4:=F4.get o_h3;have x4':ak h4 h1.next 0 4=some x.cells:=by rw[(F4.get ox).ld];rfl
 have p6':=(F4.get op).at6.2.2.2.2.2.2;by_cases c0:PT.count k tg ky sl tx sub=0;rw[if_pos c0];simp only[evs,seval];apply stu F4.wf oz4;rintro h5 o5 F5 n5;simp only[evs,seval,o5.at6.2.2.2.2.2.2];exact bad (r1.trans (if_pos c0)) oM F04 oz4 F5;rw[if_neg c0];rw[if_neg c0]at r1;simp only[evs,seval,x4'];apply aa (ve F4.wf (a.fr F04));rintro _ h5 ⟨rfl,F5⟩;have F05:=F04.then F5;have oz5:=F5.get oz4;have x5:ak h5 h1.next 0 4=some x.cells:=by rw[(F5.get (F4.get ox)).ld];rfl
 have p5:=(F5.get (F4.get op)).at6.2.2.2.2.2.2;cases c1:fX x;rw[c1]at r1;simp only[evs,seval];apply stu F5.wf oz5;rintro h6 o6 F6 n6;simp only[evs,seval,o6.at6.2.2.2.2.2.2];exact bad r1 oM F05 oz5 F6;rw[c1,if_neg iS]at r1;let⟨k1,tgd⟩:=Et vs vp c0;have hm:x.marks.length≤8:=by simp only[fX,okM,Bool.and_eq_true,decide_eq_true_eq]at c1;exact c1.2.2.1
 have em:bI x (.cons k tg ky sl tx vs vp sub .nil)=.cons 1 tg ky (sl.map (att x)) [] (bI x sub) .nil:=by subst k1;rfl
 have bld:aP (.build [.int .u64 0,.int .u8 0,.str [],.nils] [(0,4)]) [.agg x.cells]=some (.agg x.cells):=rfl;have n5:=n.fr F05;let⟨h6,e_h6,F_h6,o_h6⟩:=ao F5.wf [.int .u8 (k:Int),.str tg,.str ky,vs,.str tx,vp];have n6:=hnx e_h6;simp only[evs,seval,x5,p5,bld,←e_h6];have F06:=F05.then F_h6;apply aa (Ah (mks _) x h6 _ F_h6.wf (a.fr F06) hm (n.fr F06) tgd (by simp[PT.len]) (Sl.lit o_h6 rfl));rintro u h7 ⟨s,es,F7,uE,_,st⟩;rw[em]at es;obtain⟨va,vc,s',rfl,es'⟩:=NT.sh_one es;have st0:=st [] h7 iS (Fr.refl F7.wf);have F07:=F06.then F7;let⟨b,o,i1,i2⟩:=st0.2.ix6 (i:=0) (by simp[NT.len]) (x0:=.int .u8 ((1:Nat):Int)) (x1:=.str tg) (x2:=.str ky) (x3:=va) (x4:=.str []) (x5:=vc) (r:=[]) rfl;have i1':aP (.ixs 6) [u,.int .i64 0]=some (.ptr b o):=i1;have on:=NH.ones st0.1;have oz7:=F7.get (F_h6.get oz5);let⟨h8,e_h8,F_h8,o_h8⟩:=ao F7.wf [.int .u8 0,.str [],.str [],.nils,.str [],.nils];simp only[evs,seval,i1',i2.2.2.2.2.2.2,←e_h8];apply ai (c':=[.int .u8 ((1:Nat):Int),.str tg,.str ky,va,.str [],vc]) F_h8.wf o_h8 rfl (by exact on) rfl;rintro h9 o9 F9 n9;have F79:Fr [] h7 h9:=F_h8.fresh F9 F7.wf (Nat.le_refl _);have N9:=NH.fr F79 st0.1;simp only[evs,seval,o9.at6.2.2.2.2.2.2];apply aa (nu F9.wf N9);rintro _ h10 ⟨rfl,F10⟩;have oz10:=F10.get (F79.get oz7);have F010:=(F07.then F79).then F10;have ec:ST.count 1 tg ky (sl.map (att x)) [] (bI x sub)=NT.count 1 tg ky (sl.map (att x)) [] s':=by rw[←es',NT.sh_count]
 rw[ec]at r1;by_cases z:NT.count 1 tg ky (sl.map (att x)) [] s'=0;simp only[evs,seval,(oM:((NT.count 1 tg ky (sl.map (att x)) [] s':Nat):Int)=0)];apply stu F10.wf oz10;rintro h11 o11 F11 n11;simp only[evs,seval,o11.at6.2.2.2.2.2.2];exact bad (r1.trans (if_pos (.inl z))) oM F010 oz10 F11;by_cases z2:most<((NT.count 1 tg ky (sl.map (att x)) [] s':Nat):Int);simp only[evs,seval,eq_false (oM:¬((NT.count 1 tg ky (sl.map (att x)) [] s':Nat):Int)=0),z2];apply stu F10.wf oz10;rintro h11 o11 F11 n11;simp only[evs,seval,o11.at6.2.2.2.2.2.2];exact bad (r1.trans (if_pos (.inr z2))) oM F010 oz10 F11;have r2:=r1.trans (if_neg oM);have l10:=(F10.get o9).at6.2.2.2.2.2.2;simp only[evs,seval,eq_false (oM:¬((NT.count 1 tg ky (sl.map (att x)) [] s':Nat):Int)=0),z2,l10];apply ai (c':=[.int .u8 ((1:Nat):Int),.str tg,.str ky,va,.str [],vc]) F10.wf oz10 rfl (by exact on) rfl;rintro h11 o11 F11 n11;simp only[evs,seval,o11.at6.2.2.2.2.2.2];rw[r2];refine⟨_,rfl,F010.fresh F11 w oM,fun q=>absurd rfl q,fun _=>⟨s',va,vc,rfl,fun X hh hX f=>?_,es'⟩⟩;have h7n:=F7.next;refine(st ([h2.next]++X) hh (fun y m=>?_) (Fr.trans (Fr.trans (T:=[h2.next]) (F79.then F10) F11 F7.wf iS (fun y hy=>.inl hy)) f F7.wf (fun y m=>.inl (List.mem_append.2 (.inl m))) (fun y m=>.inl (List.mem_append.2 (.inr m))))).1;have:=F5.next;have:=F4.next;have:=F_h3.next;have:=(show h3.next=h2.next+1 by rw[e_h3];rfl);obtain m|m:=List.mem_append.1 m;simp at m;omega;grind
def Gn(e:Nat)(h:Heap)(B:Nat)(v:V)(n:Nat)(cs:List V):Prop:=cs.length=n*e∧((n=0∧(v=.nils∨∃b,B≤b∧v=.slice b 0 0 0∧Own h b []))∨∃b,B≤b∧v=.sliceU b 0 n e∧Own h b cs)
theorem Gn.sl{e:Nat}{h:Heap}{B n:Nat}{v:V}{cs:List V}(g:Gn e h B v n cs):Sl h e v n cs:=by obtain⟨hl,⟨rfl,rfl|⟨b,_,rfl,o⟩⟩|⟨b,_,rfl,o⟩⟩:=g;exact⟨hl,rfl⟩;have:cs=[]:=List.length_eq_zero_iff.1 oM;subst this;exact⟨hl,rfl,Nat.le_refl _,[],o,iS,iS⟩;exact⟨hl,rfl,rfl,cs,o,oM,by rw[List.drop_zero,List.take_of_length_le oM]⟩
theorem Gn.fr{e:Nat}{h h':Heap}{B n:Nat}{v:V}{cs:List V}{X:List Nat}(g:Gn e h B v n cs)(f:Fr X h h')(hx:∀x∈X,x<B):Gn e h' B v n cs:=by obtain⟨hl,⟨rfl,rfl|⟨b,hb,rfl,o⟩⟩|⟨b,hb,rfl,o⟩⟩:=g;exact⟨hl,.inl ⟨rfl,.inl rfl⟩⟩;exact⟨hl,.inl ⟨rfl,.inr ⟨b,hb,rfl,f.own _ _ (fun m=>by have:=hx _ m;omega) o⟩⟩⟩;exact⟨hl,.inr ⟨b,hb,rfl,f.own _ _ (fun m=>by have:=hx _ m;omega) o⟩⟩
theorem Gn.one{e:Nat}{h:Heap}{B n:Nat}{v:V}{cs:List V}(g:Gn e h B v n cs):v.one=true:=g.sl.one
theorem Gn.nE{e:Nat}{h:Heap}{B n:Nat}{v:V}{cs:List V}(g:Gn e h B v n cs):v≠.sliceE:=by obtain⟨_,⟨_,rfl|⟨b,_,rfl,_⟩⟩|⟨b,_,rfl,_⟩⟩:=g<;>simp
def nZ:V→Bool:=fun _=>true
theorem _root_.Go.Ev.ASl.src{h:Heap}{e:Nat}{v:V}{n:Nat}{cs:List V}(a:ASl h e v n cs)(z:nZ v=true):srcLen v=some n∧srcCells h e v n=some cs∧(v≠.nils→aP (.nil 1 false) [v,.nils]=some (.bool false)):=by
 let⟨hl,a⟩:=a;cases v with
 |slice b o len cap=>obtain⟨rfl,_,c,hc,h2,q⟩:=a;exact⟨rfl,by simp only[Ev.srcCells,hc.ld,bq,aZ _ _ (oO:len*e≤(c.drop o).length),q],fun _=>rfl⟩
 |sliceU b o len e'=>obtain⟨rfl,rfl,c,hc,h2,q⟩:=a;exact⟨rfl,by simp only[Ev.srcCells,hc.ld,bq,aZ _ _ (oO:len*e'≤(c.drop o).length),q],fun _=>rfl⟩
 |nils=>have a:n=0:=a;subst a;simp at hl;subst hl;exact⟨rfl,rfl,fun q=>absurd rfl q⟩
 |sliceE=>have a:n=0:=a;subst a;simp at hl;subst hl;exact⟨rfl,rfl,fun _=>rfl⟩
 |sliceZ _ _=>have a:n=0:=a;subst a;simp at hl;subst hl;exact⟨rfl,rfl,fun _=>rfl⟩
 |_=>exact a.elim
theorem iW{h:Heap}{e bytes n:Nat}{x:V}{xs:List V}(w:WF h)(a:ASl h e x n xs)(z:nZ x=true)(he:0<e)(hsz:(2*n+1024) *bytes≤281474976710656){K:V→Heap→Prop}
 (k:∀v' h',Gn e h' h.next v' n xs→Fr [] h h'→K v' h'):OQ (jq (halloc h []) e bytes (.slice h.next 0 0 0) x) K:=by
 have F1:=Fr.halloc w ([]:List V);have o1:=Own.new w ([]:List V);let⟨s1,s2,_⟩:=(a.fr F1).src z;have hl:=a.1;unfold jq;rw[s1];simp only[];by_cases c:n=0;subst c;rw[lM rfl,cond_true];exact(bZ _ _ _).2 (k _ _ ⟨hl,.inl ⟨rfl,.inr ⟨h.next,Nat.le_refl _,rfl,o1⟩⟩⟩ F1);rw[eR c,cond_false,s2];simp only[];rw[yY oM,cond_false,Nat.zero_mul,o1.ld];have:cT 0 (eY ([]:List V) 0)=some []:=rfl;rw[this];simp only[qT,Nat.zero_add,List.nil_append];rw[(Nat.ble_eq ..).mpr hsz,cond_true];refine(bZ _ _ _).2 (k _ _ ⟨hl,.inr ⟨(halloc h []).next,F1.next,rfl,Own.new F1.wf xs⟩⟩ (F1.then (Fr.halloc F1.wf xs)))
theorem B6{h:Heap}{n:Nat}{x:V}{xs:List V}(w:WF h)(a:ASl h 1 x n xs)(z:nZ x=true)(hn:n≤100000):aj go 104 [x] h fun u h'=>Gn 1 h' h.next u n xs∧Fr [] h h':=by by_cases c:x=.nils;subst c;have:n=0:=a.2;subst this;have q:aP (.nil 1 false) [.nils,.nils]=some (.bool true):=rfl;refine ab ?_;simp only[evs,seval,q];exact⟨⟨a.1,.inl ⟨rfl,.inl rfl⟩⟩,Fr.refl w⟩;refine ab ?_;simp only[evs,seval,(a.src z).2.2 c];apply iW (bytes:=16) w a z oM oM;intro v' h' g f;simp only[evs,seval];exact⟨g,f⟩
theorem xj{h:Heap}{n:Nat}{x:V}{xs:List V}(w:WF h)(a:ASl h 3 x n xs)(z:nZ x=true)(hn:n≤100000):aj go 101 [x] h fun u h'=>Gn 3 h' h.next u n xs∧Fr [] h h':=by by_cases c:x=.nils;subst c;have:n=0:=a.2;subst this;have q:aP (.nil 1 false) [.nils,.nils]=some (.bool true):=rfl;refine ab ?_;simp only[evs,seval,q];exact⟨⟨a.1,.inl ⟨rfl,.inl rfl⟩⟩,Fr.refl w⟩;refine ab ?_;simp only[evs,seval,(a.src z).2.2 c];apply iW (bytes:=40) w a z oM oM;intro v' h' g f;simp only[evs,seval];exact⟨g,f⟩
theorem uW{h:Heap}{n:Nat}{x:V}{xs:List V}(w:WF h)(a:ASl h 6 x n xs)(z:nZ x=true)(hn:n≤100000):aj go 102 [x] h fun u h'=>Gn 6 h' h.next u n xs∧Fr [] h h':=by by_cases c:x=.nils;subst c;have:n=0:=a.2;subst this;have q:aP (.nil 1 false) [.nils,.nils]=some (.bool true):=rfl;refine ab ?_;simp only[evs,seval,q];exact⟨⟨a.1,.inl ⟨rfl,.inl rfl⟩⟩,Fr.refl w⟩;refine ab ?_;simp only[evs,seval,(a.src z).2.2 c];apply iW (bytes:=104) w a z oM oM;intro v' h' g f;simp only[evs,seval];exact⟨g,f⟩
theorem uX{h:Heap}{n:Nat}{x:V}{xs:List V}(w:WF h)(a:ASl h 9 x n xs)(z:nZ x=true)(hn:n≤100000):aj go 47 [x] h fun u h'=>Gn 9 h' h.next u n xs∧Fr [] h h':=by by_cases c:x=.nils;subst c;have:n=0:=a.2;subst this;have q:aP (.nil 1 false) [.nils,.nils]=some (.bool true):=rfl;refine ab ?_;simp only[evs,seval,q];exact⟨⟨a.1,.inl ⟨rfl,.inl rfl⟩⟩,Fr.refl w⟩;refine ab ?_;simp only[evs,seval,(a.src z).2.2 c];apply iW (bytes:=128) w a z oM oM;intro v' h' g f;simp only[evs,seval];exact⟨g,f⟩
def Itm.own(x:Itm)(v:V):Itm:=⟨x.key,x.type,x.text,x.marks,v⟩
def CpO(N:Nat)(h:Heap)(v:V)(L:List (List UInt8)):Prop:=(L=[]∧(v=.nils∨∃b,v=.slice b 0 0 0∧N≤b∧Own h b []))∨∃b,v=.slice b 0 L.length L.length∧N≤b∧Own h b (L.flatMap sS)
theorem CpO.fr{N:Nat}{h h':Heap}{v:V}{L:List (List UInt8)}{X:List Nat}(a:CpO N h v L)(f:Fr X h h')(l:∀y∈X,y<N):CpO N h' v L:=by obtain⟨e,rfl|⟨b,rfl,hb,o⟩⟩|⟨b,e,hb,o⟩:=a;exact .inl ⟨e,.inl rfl⟩;exact .inl ⟨e,.inr ⟨b,rfl,hb,f.own _ _ (fun m=>by have:=l b m;omega) o⟩⟩;exact .inr ⟨b,e,hb,f.own _ _ (fun m=>by have:=l b m;omega) o⟩
theorem CpO.rs{N:Nat}{h:Heap}{v:V}{L:List (List UInt8)}(a:CpO N h v L):Recs sS 1 h v L:=by have hl:(L.flatMap sS).length=L.length*1:=aE fT L;obtain⟨rfl,rfl|⟨b,rfl,_,o⟩⟩|⟨b,rfl,_,o⟩:=a;exact Recs.nil;exact Sl.lit o rfl;exact Sl.lit o hl
theorem CpO.one{N:Nat}{h:Heap}{v:V}{L:List (List UInt8)}(a:CpO N h v L):v.one=true:=Sl.one a.rs
theorem CpO.nE{N:Nat}{h:Heap}{v:V}{L:List (List UInt8)}(a:CpO N h v L):v≠.sliceE:=by obtain⟨_,rfl|⟨b,rfl,_,o⟩⟩|⟨b,rfl,_,o⟩:=a<;>simp
theorem Ew{N:Nat}{h:Heap}{v:V}{L:List (List UInt8)}(g:Gn 1 h N v L.length (L.flatMap sS)):aj go 103 [v] h fun u h'=>CpO N h u L∧h=h':=by
 have q:∀y n,n≤y→aQ n y false true true [.int .i64 (n:Int),.int .i64 (n:Int)]=some (0,n,some n):=fun y n hy=>by simp only[aQ,bD .i64 (n:Int) y oM oM,bD .i64 (n:Int) n oM oM,Option.bind_some,Option.map_some,Int.toNat_natCast]
 obtain⟨hl,⟨e,rfl|⟨b,hb,rfl,o⟩⟩|⟨b,hb,rfl,o⟩⟩:=g;have x:aP (.sl none 1 false true true) [.nils,.int .i64 0,.int .i64 0]=some .nils:=rfl;refine ab ?_;simp only[evs,↓reduceIte,Nat.reduceEqDiff,x];exact .inl ⟨List.length_eq_zero_iff.1 e,.inl rfl⟩;have x:aP (.sl none 1 false true true) [.slice b 0 0 0,.int .i64 ((0:Nat):Int),.int .i64 ((0:Nat):Int)]=some (.slice b 0 0 0):=by simp only[aP,dD,q 0 0 (Nat.le_refl _),Option.map_some,Option.getD_some];rfl
 refine ab ?_;simp only[evs,↓reduceIte,Nat.reduceEqDiff,x];exact .inl ⟨List.length_eq_zero_iff.1 e,.inr ⟨b,rfl,hb,o⟩⟩;have x:aP (.sl none 1 false true true) [.sliceU b 0 L.length 1,.int .i64 ((L.length:Nat):Int),.int .i64 ((L.length:Nat):Int)]=some (.slice b 0 L.length L.length):=by simp only[aP,dD,lM (rfl:1=1),(Nat.blt_eq ..).mpr (oM:0<1),Bool.and_self,cond_true,q L.length L.length (Nat.le_refl _),Option.bind_some];cases Nat.beq L.length 0<;>simp
 refine ab ?_;simp only[evs,↓reduceIte,Nat.reduceEqDiff,x];exact .inr ⟨b,rfl,hb,o⟩
theorem yT{h:Heap}{x:Itm}(w:WF h)(a:ItmH h x)(z:nZ x.vm=true):aj go 51 [.agg x.cells] h fun u h'=>∃v,u=.agg (x.own v).cells∧Fr [] h h'∧CpO h.next h' v x.marks:=by
 let⟨h1,e_h1,F_h1,o_h1⟩:=ao w x.cells;let⟨h2,e_h2,F_h2,o_h2⟩:=ao F_h1.wf [.int .u64 0,.int .u8 0,.str [],.nils];have n1:=hnx e_h1;have F02:=F_h1.then F_h2;have ob:=F_h2.get o_h1;have l3:ag h2 h.next 3=some x.vm:=ob.ld1 3;have n2:=hnx e_h2;refine ab ?_;simp only[evs,seval,←e_h1,←e_h2,l3];refine aa (B6 F_h2.wf (a.m.fr F02) z (by have:=a.n;omega)) ?_;rintro v1 h3 ⟨g,F3⟩;simp only[evs];apply aa (Ew g);rintro v2 _ ⟨cl,rfl⟩;have v21:=cl.one;simp only[evs,seval];refine ai (c':=(x.own v2).cells) F3.wf (F3.get ob) (by simp[az v21]) (by rw[az v21];simp only[aB,aF,v21];rfl) (by rw[az v21];rfl) ?_;rintro h4 o4 F4 n4;have l4:ak h4 h.next 0 4=some (x.own v2).cells:=by rw[o4.ld];rfl
 have oz4:=F4.own _ _ oO (F3.get o_h2);simp only[evs,seval,l4];refine ai (c':=(x.own v2).cells) F4.wf oz4 rfl (by show av [.int .u64 (x.key:Int),.int .u8 (x.type:Int),.str x.text,v2]=true;simp only[aB,aF,v21];rfl) rfl ?_;rintro h5 o5 F5 n5;have l5:ak h5 h1.next 0 4=some (x.own v2).cells:=by rw[o5.ld];rfl
 simp only[evs,seval,l5];have F04:Fr [] h h4:=(F02.then F3).fresh F4 w (Nat.le_refl _);have c5:=(cl.fr F4 oO).fr F5 oO;refine⟨v2,rfl,F04.fresh F5 w oM,?_⟩;obtain⟨e,e2|⟨b,e2,hb,o⟩⟩|⟨b,e2,hb,o⟩:=c5;exact .inl ⟨e,.inl e2⟩;exact .inl ⟨e,.inr ⟨b,e2,oM,o⟩⟩;exact .inr ⟨b,e2,oM,o⟩
theorem B5{h:Heap}{x:Itm}(w:WF h)(a:ItmH h x)(z:nZ x.vm=true):aj go 51 [.agg x.cells] h fun u h'=>∃v,u=.agg (x.own v).cells∧Fr [] h h'∧v≠.sliceE∧v.one=true∧
 ∀(X:List Nat)(h2:Heap),(∀y∈X,y<h.next)→Fr X h' h2→Recs sS 1 h2 v x.marks:=by
 apply OQ.mono (yT w a z);rintro _ h' ⟨v,e,f,c⟩;exact⟨v,e,f,c.nE,c.one,fun X h2 hX f2=>(c.fr f2 hX).rs⟩
structure Knd where
 k:Nat
 tg:Str
 ky:Str
 sl:List Slo
 tx:Str
 vs:V
 vp:V
 sub:PT
 base:Int
 sticky:Bool
 pool:Int
def Knd.part(q:Knd):List V:=[.int .u8 (q.k:Int),.str q.tg,.str q.ky,q.vs,.str q.tx,q.vp]
def Knd.cells(q:Knd):List V:=q.part++[.int .i64 q.base,.bool q.sticky,.int .i64 q.pool]
theorem dy(q:Knd):q.cells.length=9:=rfl
def KndH(h:Heap)(q:Knd):Prop:=PH h (.cons q.k q.tg q.ky q.sl q.tx q.vs q.vp q.sub .nil)
theorem KndH.fr{h h':Heap}{q:Knd}(a:KndH h q)(f:Fr [] h h'):KndH h' q:=PH.fr f a
theorem KndH.ones{h:Heap}{q:Knd}(a:KndH h q):av q.part=true:=PH.ones a
theorem KndH.ones9{h:Heap}{q:Knd}(a:KndH h q):av q.cells=true:=by show av (q.part++_)=true;rw[aN,a.ones];rfl
def okB(b:Int):Bool:=decide (1≤b)&&decide (b≤2305843009213693952)
def okK(q:Knd):Bool:=okB q.base&&decide (PT.count q.k q.tg q.ky q.sl q.tx q.sub≠0)
theorem sU{h:Heap}(n:Int):aj go 93 [.int .i64 n] h fun u h'=>u=.bool (okB n)∧h=h':=by by_cases c:1≤n;refine ab ?_;simp only[evs,seval,c];simp[okB,c];refine ab ?_;simp only[evs,seval,c];simp[okB,c]
theorem HP{h:Heap}{q:Knd}(w:WF h)(a:KndH h q):aj go 97 [.agg q.cells] h fun u h'=>u=.bool (!okK q)∧Fr [] h h':=by
 let⟨h1,e_h1,F_h1,o_h1⟩:=ao w q.cells;have l6:ag h1 h.next 6=some (.int .i64 q.base):=o_h1.ld1 6;have l0:ak h1 h.next 0 6=some q.part:=by rw[o_h1.ld];rfl
 refine ab ?_;simp only[evs,seval,←e_h1,l6];refine aa (sU _) ?_;rintro _ _ ⟨rfl,rfl⟩;cases c:okB q.base;simp only[evs,seval];exact⟨by simp[okK,c],F_h1⟩;simp only[evs,seval,l0];apply aa (rR (va:=q.vs) (vc:=q.vp) F_h1.wf (a.fr F_h1));rintro _ h2 ⟨rfl,F2⟩;by_cases z:PT.count q.k q.tg q.ky q.sl q.tx q.sub=0;rw[if_pos z];simp only[evs,seval];exact⟨by simp[okK,z],F_h1.then F2⟩;rw[if_neg z];simp only[evs,seval];exact⟨by simp[okK,c,z],F_h1.then F2⟩
theorem yH{h:Heap}{v:V}{L:List Knd}(w:WF h)(a:Recs Knd.cells 9 h v L)(hL:∀q∈L,KndH h q)(hn:L.length≤4096):
 aj go 157 [v,.func (.func 97) [] []] h fun u h'=>∃r:Int,u=.int .i64 r∧(decide (0≤r)= !L.all okK)∧Fr [] h h':=by
 refine ab ?_;simp only[evs,seval,Recs.len a];refine aA (fun k env hh=>Fr [] h hh∧∃(i:Nat),env.get 8=some (.int .i64 i)∧env.get 7=some (.int .i64 L.length)∧env.get 0=some v∧env.get 1=some (.func (.func 97) [] [])∧
  i≤L.length∧(L.drop i).all okK=L.all okK∧k=L.length-i) L.length oM ?_ ?_
 ·exact⟨Fr.refl w,0,iS,iS,iS,iS,oM,rfl,rfl⟩
 ·rintro k env hh ⟨F,i,g8,g7,g0,g1,hi,e,rfl⟩;by_cases hlt:i<L.length
  ·have hlt':(i:Int)<L.length:=oM
   let⟨b,o,s,e1,_,e3,e5⟩:=(Recs.fr a F).ix dy .i64 i oM hlt';rw[Int.toNat_natCast]at e5;rw[aG e5,List.all_cons]at e;have hs:=hL s (List.mem_of_getElem? e5);simp only[evs,seval,g8,g7,g0,g1,hlt',e1,e3];refine aa (HP F.wf (hs.fr F)) ?_;rintro _ h1 ⟨rfl,F1⟩;cases c:okK s
   ·simp only[evs,seval];rw[c]at e;exact⟨i,rfl,by rw[←e];simp,F.then F1⟩
   ·simp(disch:=omega) only[evs,seval,ah,g8];rw[c]at e;refine rqn ⟨L.length-(i+1),oM,F.then F1,i+1,iS,iX,iX,iX,oM,by simpa using e,rfl⟩
    done
  ·simp only[evs,seval,g8,g7,(oM:¬(i:Int)<L.length)];rw[List.drop_of_length_le oM]at e;exact⟨-1,rfl,by rw[←e];rfl,F⟩
def okR(L:List Knd)(cap:Int):Bool:=decide (1≤L.length)&&(decide (L.length≤8)&&(decide (1≤cap)&&(decide (cap≤64)&&L.all okK)))
theorem iI{h:Heap}{v:V}{L:List Knd}{cap:Int}(w:WF h)(a:Recs Knd.cells 9 h v L)(hL:∀q∈L,KndH h q)(hn:L.length≤4096):
 aj go 45 [.agg [v,.int .i64 cap]] h fun u h'=>u=.int .i64 (if okR L cap then 0 else 7)∧Fr [] h h':=by
 let⟨h1,e_h1,F_h1,o_h1⟩:=ao w [v,.int .i64 cap];have l0:ag h1 h.next 0=some v:=o_h1.ld1 0;have l1:ag h1 h.next 1=some (.int .i64 cap):=o_h1.ld1 1;have len:=Recs.len a;by_cases c0:L.length<1;refine ab ?_;simp only[evs,seval,←e_h1,l0,len,(oM:(L.length:Int)<1)];exact⟨by simp[okR];omega,F_h1⟩;by_cases c1:8<L.length;refine ab ?_;simp only[evs,seval,←e_h1,l0,len,(oM:¬(L.length:Int)<1),(oM:(8:Int)<L.length)];exact⟨by simp[okR];omega,F_h1⟩;by_cases c2:cap<1;refine ab ?_;simp only[evs,seval,←e_h1,l0,l1,len,(oM:¬(L.length:Int)<1),(oM:¬(8:Int)<L.length),c2];exact⟨by simp[okR];omega,F_h1⟩;by_cases c3:64<cap;refine ab ?_;simp only[evs,seval,←e_h1,l0,l1,len,(oM:¬(L.length:Int)<1),(oM:¬(8:Int)<L.length),c2,c3];exact⟨by simp[okR];omega,F_h1⟩;refine ab ?_;simp only[evs,seval,←e_h1,l0,l1,len,(oM:¬(L.length:Int)<1),(oM:¬(8:Int)<L.length),c2,c3];refine aa (?_:aj go 99 _ _ (fun u h'=>u=.bool (!L.all okK)∧Fr [] h1 h')) ?_;refine ab ?_;simp only[evs,seval];refine aa (yH F_h1.wf (Recs.fr a F_h1) (fun q m=>(hL q m).fr F_h1) hn) ?_;rintro _ h2 ⟨r,rfl,e,F2⟩;simp only[evs,seval];exact⟨by rw[e],F2⟩;rintro _ h2 ⟨rfl,F2⟩;have e:okR L cap=L.all okK:=by simp[okR,(oM:1≤L.length),(oM:L.length≤8),(oM:1≤cap),(oM:cap≤64)]
 rw[e];cases c4:L.all okK;simp only[evs,seval];exact F_h1.then F2;simp only[evs,seval];exact F_h1.then F2
set_option maxRecDepth 4000
namespace PT
def same:PT→PT→Prop
 |nil,nil=>True
 |cons k tg ky sl tx _ _ s n,cons k' tg' ky' sl' tx' _ _ s' n'=>k=k'∧tg=tg'∧ky=ky'∧sl=sl'∧tx=tx'∧same s s'∧same n n'
 |_,_=>False
theorem pS:∀{a b:PT},same a b→a.len=b.len
 |nil,nil,_=>rfl
 |cons _ _ _ _ _ _ _ _ _,cons _ _ _ _ _ _ _ _ _,h=>by simp only[len,pS h.2.2.2.2.2.2]
 |nil,cons _ _ _ _ _ _ _ _ _,h=>h.elim
 |cons _ _ _ _ _ _ _ _ _,nil,h=>h.elim
theorem np:∀{a b:PT},same a b→∀l c,a.walk l c=b.walk l c
 |nil,nil,_,_,_=>rfl
 |cons k tg ky sl tx _ _ s n,cons _ _ _ _ _ _ _ s' n',⟨h1,h2,h3,h4,h5,h6,h7⟩,l,c=>by
  subst h1 h2 h3 h4 h5;have e1:node k tg ky sl tx s s.walk l c=node k tg ky sl tx s' s'.walk l c:=by unfold node;rw[pS h6,np h6]
  simp only[walk,e1,np h7]
 |nil,cons _ _ _ _ _ _ _ _ _,h,_,_=>h.elim
 |cons _ _ _ _ _ _ _ _ _,nil,h,_,_=>h.elim
theorem same_count(k:Nat)(tg ky:Str)(sl:List Slo)(tx:Str){s s':PT}(h:same s s'):count k tg ky sl tx s=count k tg ky sl tx s':=by
 have e1:node k tg ky sl tx s s.walk 1 0=node k tg ky sl tx s' s'.walk 1 0:=by unfold node;rw[pS h,np h]
 unfold count;rw[e1]
def app:PT→PT→PT
 |nil,t=>t
 |cons k tg ky a tx va vc sub nx,t=>cons k tg ky a tx va vc sub (nx.app t)
theorem app_cells:∀a b:PT,(a.app b).cells=a.cells++b.cells
 |nil,_=>rfl
 |cons _ _ _ _ _ _ _ _ nx,b=>by simp only[app,cells,app_cells nx b,List.append_assoc]
theorem app_len:∀a b:PT,(a.app b).len=a.len+b.len
 |nil,b=>by simp[app,len]
 |cons _ _ _ _ _ _ _ _ nx,b=>by simp only[app,len,app_len nx b];omega
theorem same_app:∀{a b c d:PT},same a b→same c d→same (a.app c) (b.app d)
 |nil,nil,_,_,_,h=>h
 |cons _ _ _ _ _ _ _ _ _,cons _ _ _ _ _ _ _ _ _,_,_,h,g=>⟨h.1,h.2.1,h.2.2.1,h.2.2.2.1,h.2.2.2.2.1,h.2.2.2.2.2.1,same_app h.2.2.2.2.2.2 g⟩
 |nil,cons _ _ _ _ _ _ _ _ _,_,_,h,_=>h.elim
 |cons _ _ _ _ _ _ _ _ _,nil,_,_,h,_=>h.elim
def take':PT→Nat→PT
 |_,0=>nil
 |nil,_+1=>nil
 |cons k tg ky a tx va vc sub nx,i+1=>cons k tg ky a tx va vc sub (nx.take' i)
theorem take_app:∀(t:PT)(i:Nat),(t.take' i).app (t.at' i)=t
 |nil,0=>rfl
 |nil,_+1=>rfl
 |cons _ _ _ _ _ _ _ _ _,0=>rfl
 |cons _ _ _ _ _ _ _ _ nx,i+1=>by simp only[take',at',app,take_app nx i]
theorem take_succ{t:PT}{i k:Nat}{tg ky tx:Str}{sl:List Slo}{va vc:V}{sub nx:PT}(h:t.at' i=cons k tg ky sl tx va vc sub nx):t.take' (i+1)=(t.take' i).app (cons k tg ky sl tx va vc sub nil):=by
 induction i generalizing t with
 |zero=>
  cases t with
  |nil=>cases h
  |cons _ _ _ _ _ _ _ _ nx'=>cases h;cases nx<;>rfl
 |succ i ih=>
  cases t with
  |nil=>cases h
  |cons _ _ _ _ _ _ _ _ nx'=>simp only[take',app];rw[ih h]
end PT
theorem PH.app{h:Heap}:∀{a b:PT},PH h a→PH h b→PH h (a.app b)
 |.nil,_,_,q=>q
 |.cons _ _ _ _ _ _ _ _ _,_,⟨x1,x2,x3,x4,x5,x6,x7⟩,q=>⟨x1,x2,x3,x4,x5,x6,PH.app x7 q⟩
def PCp(k:Nat)(tg ky:Str)(sl:List Slo)(tx:Str)(vs vp:V)(sub:PT):Prop:=∀(h:Heap),WF h→PH h (.cons k tg ky sl tx vs vp sub .nil)→
 aj go 48 [.agg [.int .u8 (k:Int),.str tg,.str ky,vs,.str tx,vp]] h fun u h'=>∃vs' vp' sub',u=.agg [.int .u8 (k:Int),.str tg,.str ky,vs',.str tx,vp']∧PT.same sub sub'∧Fr [] h h'∧
  ∀(X:List Nat)(h2:Heap),(∀y∈X,y<h.next)→Fr X h' h2→PH h2 (.cons k tg ky sl tx vs' vp' sub' .nil)
def PCs:PT→Prop
 |.nil=>True
 |.cons k tg ky sl tx vs vp sub nx=>PCp k tg ky sl tx vs vp sub∧PCs nx
theorem PCs.at':∀{t:PT}(i:Nat),PCs t→PCs (t.at' i)
 |.nil,0,_=>trivial
 |.nil,_+1,_=>trivial
 |.cons _ _ _ _ _ _ _ _ _,0,a=>a
 |.cons _ _ _ _ _ _ _ _ _,i+1,⟨_,g⟩=>PCs.at' i g
theorem Gn.frH{e:Nat}{h h':Heap}{B n:Nat}{v:V}{cs:List V}{X:List Nat}(w:WF h)(g:Gn e h B v n cs)(f:Fr X h h')(hx:∀x∈X,x<B∨h.next≤x):Gn e h' B v n cs:=by obtain⟨hl,⟨rfl,rfl|⟨b,hb,rfl,o⟩⟩|⟨b,hb,rfl,o⟩⟩:=g;exact⟨hl,.inl ⟨rfl,.inl rfl⟩⟩;exact⟨hl,.inl ⟨rfl,.inr ⟨b,hb,rfl,f.own _ _ (fun m=>by have:=hx _ m;have:=o.lt w;omega) o⟩⟩⟩;exact⟨hl,.inr ⟨b,hb,rfl,f.own _ _ (fun m=>by have:=hx _ m;have:=o.lt w;omega) o⟩⟩
theorem vM{k:Nat}{tg ky:Str}{sl:List Slo}{tx:Str}{vs vp:V}{sub:PT}(P:PCs sub):PCp k tg ky sl tx vs vp sub:=by
 intro h w ⟨hk,rs,ls,sp,lp,ph,_⟩;have zs:nZ vs=true:=by cases vs<;>first|rfl|exact rs.2.elim
 have zp:nZ vp=true:=by cases vp<;>first|rfl|exact sp.2.elim
 let⟨h1,e_h1,F_h1,o_h1⟩:=ao w [.int .u8 (k:Int),.str tg,.str ky,vs,.str tx,vp];let⟨h2,e_h2,F_h2,o_h2⟩:=ao F_h1.wf [.int .u8 0,.str [],.str [],.nils,.str [],.nils];have n1:=hnx e_h1;have n2:=hnx e_h2;have F02:=F_h1.then F_h2;have ob:=F_h2.get o_h1;have l3:ag h2 h.next 3=some vs:=ob.ld1 3;have l5:ag h2 h.next 5=some vp:=ob.ld1 5;refine ab ?_;simp only[evs,seval,←e_h1,←e_h2,l3];refine aa (xj F_h2.wf (Sl.a (Recs.fr rs F02)) zs oM) ?_;rintro vs' h3 ⟨gs,F3⟩;simp only[evs,seval];refine ai (c':=[.int .u8 (k:Int),.str tg,.str ky,vs',.str tx,vp]) F3.wf (F3.get ob) (by simp[az gs.one]) (by rw[az gs.one];simp only[aB,aF,gs.one];rfl) (by rw[az gs.one];rfl) ?_;rintro h4 o4 F4 n4;have F04:Fr [] h h4:=(F02.then F3).fresh F4 w (Nat.le_refl _);have l5':ag h4 h.next 5=some vp:=o4.ld1 5;simp only[evs,seval,l5'];apply aa (uW F4.wf (Sl.a (sp.fr F04)) zp oM);rintro vp' h5 ⟨gp,F5⟩;simp only[evs,seval];refine ai (c':=[.int .u8 (k:Int),.str tg,.str ky,vs',.str tx,vp']) F5.wf (F5.get o4) (by simp[az gp.one]) (by rw[az gp.one];simp only[aB,aF,gp.one];rfl) (by rw[az gp.one];rfl) ?_;rintro h6 o6 F6 n6;have l56:ag h6 h.next 5=some vp':=o6.ld1 5;have hn3:=F3.next;have gp6:=gp.fr F6 oO;simp only[evs,seval,l56,gp6.sl.len];have F06:Fr [] h h6:=(F04.then F5).fresh F6 w (Nat.le_refl _);have oz6:Own h6 h1.next [.int .u8 0,.str [],.str [],.nils,.str [],.nils]:=F6.own _ _ oO (F5.get (F4.own _ _ oO (F3.get o_h2)));have F26:Fr [h.next] h3 h6:=Fr.trans (Fr.trans (T:=[h.next]) F4 F5 F3.wf iS iS) F6 F3.wf iS iS;have gs6:Gn 3 h6 h2.next vs' sl.length (sl.flatMap pO):=gs.fr F26 oO;have vpl:∀y∈vb vp',h4.next≤y∧y<h6.next:=by obtain⟨_,⟨_,rfl|⟨b,_,rfl,_⟩⟩|⟨b,hb,rfl,o⟩⟩:=gp6;simp[vb];simp[vb];have:=o.lt F6.wf;simp only[vb,List.mem_singleton];rintro y rfl;exact⟨hb,this⟩
 refine aA (fun n env hh=>Fr [] h hh∧h6.next≤hh.next∧Own hh h.next [.int .u8 (k:Int),.str tg,.str ky,vs',.str tx,vp']∧Own hh h1.next [.int .u8 0,.str [],.str [],.nils,.str [],.nils]∧(∃X3:List Nat,(∀y∈X3,y<h2.next∨h3.next≤y)∧Fr X3 h3 hh)∧
  ∃(i:Nat)(d:PT),env.get 15=some (.int .i64 i)∧env.get 14=some (.int .i64 sub.len)∧env.get 1=some (.ptr h.next 0)∧env.get 2=some (.ptr h1.next 0)∧i≤sub.len∧d.len=i∧PT.same (sub.take' i) d∧
  Gn 6 hh h4.next vp' sub.len (d.cells++sub.cells.drop (i*6))∧(∀(X:List Nat)(h2:Heap),(∀y∈X,y<h.next∨y=h.next∨y=h1.next∨y∈vb vp')→Fr X hh h2→PH h2 d)∧n=sub.len-i) sub.len oM ?_ ?_
 exact⟨F06,Nat.le_refl _,o6,oz6,⟨_,by simp;omega,F26⟩,0,.nil,iS,iS,iS,iS,oM,rfl,by cases sub<;>trivial,by simpa[PT.cells]using gp6,fun _ _ _ _=>trivial,rfl⟩;rintro n env hh ⟨F,hn,ox,oz,⟨X3,hX3,fX3⟩,i,d,g15,g14,g1,g2,hi,dl,ds,gph,dst,rfl⟩;have lx:ag hh h.next 5=some vp':=ox.ld1 5;by_cases hlt:i<sub.len;have hlt':(i:Int)<sub.len:=oM;let⟨kc,tgc,kyc,slc,txc,vsc,vpc,sb,nx,e1,e2,e3,e4,e5,e6⟩:=sub.split i hlt;have Pi:=P.at' i;have phi:=ph.at' i;rw[e1]at Pi phi;obtain⟨_,⟨z,_⟩|⟨bp,hbp,rfl,obp⟩⟩:=gph;omega;have dc:=d.cells_len;rw[dl]at dc;have q0:∀Y:List V,(d.cells++Y).drop (i*6)=Y:=fun Y=>by rw[←dc,List.drop_left]
 have q1:∀Y:List V,(d.cells++Y).take (i*6)=d.cells:=fun Y=>by rw[←dc,List.take_left]
 have q2:∀Y:List V,(d.cells++Y).drop (i*6+6)=Y.drop 6:=fun Y=>by rw[←dc,List.drop_length_add_append]
 have ix:=lP 6 bp 0 sub.len 6 .i64 (i:Int) oM hlt';simp only[Int.toNat_natCast,Nat.zero_add]at ix;have lc:ak hh bp (i*6) 6=some [.int .u8 (kc:Int),.str tgc,.str kyc,vsc,.str txc,vpc]:=by rw[obp.ld,bq,q0,e2];rfl
 have hb:=vpl bp (by simp[vb]);simp only[evs,seval,eff,g15,g14,g1,hlt',lx,ix,lc];apply aa (Pi.1 hh F.wf (PH.fr F ⟨phi.1,phi.2.1,phi.2.2.1,phi.2.2.2.1,phi.2.2.2.2.1,phi.2.2.2.2.2.1,trivial⟩));rintro _ h7 ⟨vs2,vp2,sb2,rfl,sm,F7,st2⟩;have lx7:ag h7 h.next 5=some (.sliceU bp 0 sub.len 6):=(F7.get ox).ld1 5;have on:av [.int .u8 (kc:Int),.str tgc,.str kyc,vs2,.str txc,vp2]=true:=PH.ones (st2 [] h7 iS (Fr.refl F7.wf));simp only[evs,eff,ix];have eC:bC (d.cells++sub.cells.drop (i*6)) (i*6) [.int .u8 (kc:Int),.str tgc,.str kyc,vs2,.str txc,vp2]=some ((d.app (.cons kc tgc kyc slc txc vs2 vp2 sb2 .nil)).cells++sub.cells.drop ((i+1) *6)):=by rw[cD _ _ _ (by rw[List.length_append,dc,e2];simp),PT.app_cells];congr 1;show _++_++(d.cells++sub.cells.drop (i*6)).drop (i*6+6)=_;rw[q1,q2,List.drop_drop,(oM:i*6+6=(i+1) *6)];simp[PT.cells]
 refine ai F7.wf (F7.get obp) rfl on eC ?_;rintro h8 o8 F8 n8;have hn7:=F7.next;have F08:Fr [] h h8:=(F.then F7).fresh F8 w oM;simp(disch:=omega) only[evs,seval,DF,ah,g15,lx,lx7,lc];refine rqn ⟨sub.len-(i+1),oM,F08,oM,F8.own _ _ oO (F7.get ox),F8.own _ _ oO (F7.get oz),⟨X3++[bp],?_,Fr.trans (Fr.trans fX3 F7 F3.wf (fun y hy=>.inl iX) iS) F8 F3.wf (fun y hy=>.inl hy) (fun y hy=>.inl (by simp at hy;simp[hy]))⟩,i+1,_,iS,iX,iX,iX,oM,?_,?_,⟨?_,.inr ⟨bp,hbp,rfl,o8⟩⟩,?_,rfl⟩;intro y hy;simp at hy;obtain hy|rfl:=hy;exact hX3 y hy;exact .inr oM;rw[PT.app_len,dl];rfl;rw[PT.take_succ e1];exact PT.same_app ds ⟨rfl,rfl,rfl,rfl,rfl,sm,trivial⟩;rw[List.length_append,PT.app_cells,List.length_append,dc,List.length_drop,PT.cells_len,PT.cells_len];simp only[PT.len];omega;intro X h9 hX f9;have f79:Fr ([bp]++X) h7 h9:=Fr.trans F8 f9 F7.wf (fun y hy=>.inl (by simp at hy;simp[hy])) (fun y hy=>.inl iX);have fh9:Fr ([bp]++X) hh h9:=Fr.trans F7 f79 F.wf iS (fun y hy=>.inl hy);refine PH.app (dst _ h9 ?_ fh9) (st2 _ h9 ?_ f79);intro y hy;simp at hy;obtain rfl|hy:=hy;exact .inr (.inr (.inr (by simp[vb])));exact hX y hy;intro y hy;simp at hy;obtain rfl|hy:=hy;omega;obtain q|q|q|q:=hX y hy;omega;omega;omega;simp[vb]at q;omega;have hi':i=sub.len:=oM;have gsh:=gs.frH F3.wf fX3 hX3;have l6:=ox.at6.2.2.2.2.2.2;have vp1:=gph.one;have vs1:=gsh.one;simp only[evs,seval,g15,g14,g1,g2,(oM:¬(i:Int)<sub.len),l6];refine ai (c':=[.int .u8 (k:Int),.str tg,.str ky,vs',.str tx,vp']) F.wf oz rfl (by simp only[V.cells,aB,aF,vs1,vp1];rfl) rfl ?_;rintro h7 o7 F7 n7;simp only[evs,seval,g2,o7.at6.2.2.2.2.2.2];subst hi';rw[List.drop_of_length_le (by rw[PT.cells_len];omega),List.append_nil]at gph;have te:sub.take' sub.len=sub:=by
  have:=PT.take_app sub sub.len;rw[PT.at_end _ _ (Nat.le_refl _)]at this;have an:∀t:PT,t.app .nil=t:=by
   intro t;induction t with
   |nil=>rfl
   |cons _ _ _ _ _ _ _ _ nx _ ih=>simp only[PT.app,ih]
  rw[an]at this;exact this
 rw[te]at ds;refine⟨vs',vp',d,rfl,ds,F.fresh F7 w oM,fun X h8 hX f8=>?_⟩;have f:Fr ([h1.next]++X) hh h8:=Fr.trans F7 f8 F.wf (fun y hy=>.inl (by simp at hy;simp[hy])) (fun y hy=>.inl iX);have a1:=gsh.fr f (by
  intro y hy;simp at hy;obtain rfl|hy:=hy;omega;have:=hX y hy;omega)
 have a2:=gph.fr f (by
  intro y hy;simp at hy;obtain rfl|hy:=hy;omega;have:=hX y hy;omega)
 refine⟨hk,a1.sl,ls,by rw[dl];exact a2.sl,oM,dst _ h8 ?_ f,trivial⟩;intro y hy;simp at hy;obtain rfl|hy:=hy;exact .inr (.inr (.inl rfl));exact .inl (hX y hy)
theorem pcs:∀t:PT,PCs t
 |.nil=>trivial
 |.cons _ _ _ _ _ _ _ sub nx=>⟨vM (pcs sub),pcs nx⟩
set_option maxRecDepth 4000
def rc(r:Int×Bool×Bool):List V:=[.int .i64 r.1,.bool r.2.1,.bool r.2.2]
theorem I4(r:Int×Bool×Bool):(rc r).length=3:=rfl
abbrev Rws(h:Heap)(v:V)(L:List (Int×Bool×Bool)):Prop:=Recs rc 3 h v L
def sz(L:List (Int×Bool×Bool)):List Int:=L.map fun r=>r.1
def ky(L:List (Int×Bool×Bool)):List Bool:=L.map fun r=>r.2.1
def sy(L:List (Int×Bool×Bool)):List Bool:=L.map fun r=>r.2.2
theorem IY(L:List (Int×Bool×Bool)):(sz L).length=L.length:=by simp[sz]
theorem Rws.ix{h:Heap}{v:V}{L:List (Int×Bool×Bool)}(a:Rws h v L)(i:Nat)(h1:(i:Int)<L.length):
 ∃b o r,aP (.ixs 3) [v,.int .i64 i]=some (.ptr b o)∧ag h b o=some (.int .i64 r.1)∧ag h b (o+1)=some (.bool r.2.1)∧ag h b (o+2)=some (.bool r.2.2)∧ak h b o 3=some [.int .i64 r.1,.bool r.2.1,.bool r.2.2]∧L[i]? =some r:=by
 let⟨b,o,s,e,g,g2,e3⟩:=Recs.ix I4 a .i64 i oM h1;exact⟨b,o,s,e,by simpa[rc]using g 0 oM,by simpa[rc]using g 1 oM,by simpa[rc]using g 2 oM,g2,by simpa using e3⟩
theorem Gq{l:List Int}(f:Fit l)(i:Nat):0≤(l.take i).sum∧(l.take i).sum≤l.sum:=by have h1:=(f.sub (List.take_sublist i l)).nn;have h2:=List.sum_append (l₁:=l.take i) (l₂:=l.drop i);rw[List.take_append_drop]at h2;have:=(f.sub (List.drop_sublist i l)).nn;omega
theorem rT{l:List Int}(f:Fit l){i j:Nat}(h:i≤j):(l.take i).sum≤(l.take j).sum:=by have:=Gq (f.sub (List.take_sublist j l)) i;rw[List.take_take,Nat.min_eq_left h]at this;exact this.2
theorem oI:∀{l:List Int}{x:Int},0≤x→x<l.sum→(l.take (aM l x).1).sum≤x∧x<(l.take ((aM l x).1+1)).sum∧(aM l x).2=x-(l.take (aM l x).1).sum
 |[],x,h0,h1=>by simp at h1;omega
 |s::l,x,h0,h1=>by simp only[aM];by_cases c:x<s;grind;simp only[if_neg c];have:=oI (l:=l) (x:=x-s) oM (by simp at h1;omega);simp only[List.take_succ_cons,List.sum_cons];omega
theorem yC{l:List Int}(f:Fit l){x:Int}(h0:0≤x)(h1:x<l.sum)(i:Nat):(l.take i).sum≤x↔i≤(aM l x).1:=by let⟨a,b,_⟩:=oI h0 h1;constructor;intro h;obtain c|c:=Nat.lt_or_ge (aM l x).1 i;have:=rT f (oM:(aM l x).1+1≤i);omega;exact c;intro h;have:=rT f h;omega
def HdR(l:List Int)(bs:List Bool)(s:Int)(j:Nat)(r:Int):Prop:=(r=-1∧∀i:Nat,i<j→bs.getD i false=true→s<(l.take i).sum)∨
 ∃p:Nat,r=p∧p<j∧bs.getD p false=true∧(l.take p).sum≤s∧∀i:Nat,p<i→i<j→bs.getD i false=true→s<(l.take i).sum
theorem HdR.skip{l:List Int}{bs:List Bool}{s r:Int}{j:Nat}(a:HdR l bs s j r)(h:bs.getD j false=true→s<(l.take j).sum):HdR l bs s (j+1) r:=by obtain⟨e,a⟩|⟨p,e,h1,h2,h3,h4⟩:=a;refine .inl ⟨e,fun i hi hb=>?_⟩;obtain c|c:=Nat.lt_or_ge i j;exact a i c hb;grind;refine .inr ⟨p,e,oM,h2,h3,fun i hp hi hb=>?_⟩;obtain c|c:=Nat.lt_or_ge i j;exact h4 i hp c hb;grind
def Cf(f t hd:Int)(n:Nat):List Int:=((List.range n).filter fun(i:Nat)=>decide ((f≤(i:Int)∧(i:Int)<t)∨(i:Int)=hd)).map fun(i:Nat)=>(i:Int)
theorem Ce(f t hd:Int)(n:Nat):Cf f t hd (n+1)=Cf f t hd n++if(f≤(n:Int)∧(n:Int)<t)∨(n:Int)=hd then[(n:Int)]else[]:=by unfold Cf;rw[List.range_succ,List.filter_append,List.map_append];congr 1;by_cases c:(f≤(n:Int)∧(n:Int)<t)∨(n:Int)=hd;grind;grind
def ic(x:Int):List V:=[.int .i64 x]
def RwF(h:Heap)(v:V)(L:List (Int×Bool×Bool)):Prop:=(v=.nils∧L=[])∨∃b,(v=.sliceU b 0 L.length 3∨v=.slice b 0 L.length L.length)∧Own h b (L.flatMap rc)∧0<L.length
theorem RwF.fr{h h':Heap}{v:V}{L:List (Int×Bool×Bool)}(a:RwF h v L)(f:Fr [] h h'):RwF h' v L:=by obtain x|⟨b,e,o,p⟩:=a;exact .inl x;exact .inr ⟨b,e,f.get o,p⟩
theorem Da{L:List (Int×Bool×Bool)}(p:0<L.length):∀n m ws,ws.length=64→L.flatMap rc≠flc n m ws:=by
 intro n m ws _ e;cases L with
 |nil=>simp at p
 |cons r L=>
  have:V.bool r.2.1∈flc n m ws:=by rw[←e];simp[rc]
  simp[flc,uw]at this
theorem RwF.frF{h h':Heap}{v:V}{L:List (Int×Bool×Bool)}{b:Nat}{c:List V}(a:RwF h v L)(f:FrF b h h')(o:Own h b c)(hc:∀x∈c,∀k n,x≠.int k n):RwF h' v L:=by
 obtain x|⟨q,e,oq,p⟩:=a;exact .inl x;refine .inr ⟨q,e,f.own _ _ ?_ (Da p) oq,p⟩;rintro rfl;cases L with
 |nil=>simp at p
 |cons r L=>exact hc (.int .i64 r.1) (by rw[←oq.uniq o];simp[rc]) _ _ rfl
def uc(p:Nat×Nat):List V:=[.int .u8 (p.1:Int),.int .u8 (p.2:Int)]
structure Good(L:List (Int×Bool×Bool)):Prop where
 len:L.length≤1024
 one:∀r∈L,1≤r.1∧r.1≤2305843009213693952
 sum:(sz L).sum≤4611686018427387904
theorem Good.fit{L:List (Int×Bool×Bool)}(g:Good L):Fit (sz L):=by refine⟨fun x hx=>?_,g.sum,by rw[IY];have:=g.len;omega⟩;simp only[sz,List.mem_map]at hx;obtain⟨r,hr,rfl⟩:=hx;have:=g.one r hr;omega
theorem Good.pos{L:List (Int×Bool×Bool)}(g:Good L):∀x∈sz L,1≤x:=by intro x hx;simp only[sz,List.mem_map]at hx;obtain⟨r,hr,rfl⟩:=hx;exact(g.one r hr).1
def bc(x:Bool):List V:=[.bool x]
theorem GRecs.keep{α β:Type}{f:α→List V}{g:β→List V}{k k' B B':Nat}{h h':Heap}{v v':V}{L:List α}{M:List β}(a:GRecs f k h B v L)(b:GRecs g k' h B' v' M)(F:Fr (vb v') h h')
 (hd:∀(n:Nat),L.flatMap f=M.flatMap g→(L.flatMap f).length=n*k→¬0<n):GRecs f k h' B v L:=by
 obtain x|⟨q,n,rfl,hl,hn,hB,o⟩:=a;exact .inl x;refine .inr ⟨q,n,rfl,hl,hn,hB,F.own _ _ ?_ o⟩;obtain⟨rfl,_⟩|⟨q',n',rfl,_,_,_,o'⟩:=b;simp[vb];simp only[vb,List.mem_singleton];rintro rfl;exact hd n (o.uniq o') hl hn
theorem gZ{bs:List Bool}{p:Nat}(h:bs.getD p false=true):(bs.take (p+1)).count true=(bs.take p).count true+1:=by
 rw[List.take_add_one];cases hb:bs[p]? with
 |none=>simp[List.getD,hb]at h
 |some x=>simp[List.getD,hb]at h;subst h;simp
theorem qC{bs:List Bool}{p:Nat}(h:bs.getD p false=false):(bs.take (p+1)).count true=(bs.take p).count true:=by
 rw[List.take_add_one];cases hb:bs[p]? with
 |none=>simp
 |some x=>simp[List.getD,hb]at h;subst h;simp
theorem xd(bs:List Bool){p q:Nat}(h:p≤q):(bs.take p).count true≤(bs.take q).count true:=by
 have:bs.take p=(bs.take q).take p:=by grind
 rw[this];exact List.Sublist.count_le _ (List.take_sublist _ _)
theorem AA{bs:List Bool}{p q:Nat}(h:p≤q)(hz:∀i,p≤i→i<q→bs.getD i false=false):(bs.take q).count true=(bs.take p).count true:=by
 obtain⟨k,rfl⟩:∃k,q=p+k:=⟨q-p,oM⟩;induction k with
 |zero=>rfl
 |succ k ih=>rw[(oM:p+(k+1)=(p+k)+1),qC (hz (p+k) oM oM),ih oM (fun i a b=>hz i a oM)]
theorem Sel.uniq{bs:List Bool}{k p q:Nat}(a:Sel bs k p)(b:Sel bs k q):p=q:=by let⟨_,a2,a3⟩:=a;let⟨_,b2,b3⟩:=b;obtain h|h|h:=Nat.lt_trichotomy p q;have:=xd bs (oM:p+1≤q);rw[gZ a2]at this;omega;exact h;have:=xd bs (oM:q+1≤p);rw[gZ b2]at this;omega
theorem Ho{l:List Int}{bs:List Bool}{s hr he hd:Int}(f:Fit l)(hl:bs.length=l.length)(s0:0≤s)(s1:s<l.sum)(hne:l≠[])(a:HeadS l bs s hr he)(b:HdR l bs s l.length hd):
 (hd=-1∧he=11∧hr=0)∨(∃p:Nat,hd=p∧hr=p∧he=0∧p<l.length∧p≤(aM l s).1∧bs.getD p false=true):=by
 have lt:=du s0 s1;unfold HeadS at a;rw[if_neg iX,if_pos ⟨s0,s1⟩]at a;obtain⟨e,hno⟩|⟨p,e,h1,h2,h3,h4⟩:=b;have z:(bs.take ((aM l s).1+1)).count true=0:=by
  have:=AA (bs:=bs) (p:=0) (q:=(aM l s).1+1) oM (fun i _ hi=>by
   cases hb:bs.getD i false;rfl;have:=hno i oM hb;have:=(yC f s0 s1 i).2 oM;omega)
  simpa using this
 rw[if_pos z]at a;exact .inl ⟨e,a.2,a.1⟩;have hp:=(yC f s0 s1 p).1 h3;have c:(bs.take ((aM l s).1+1)).count true=(bs.take p).count true+1:=by rw[←gZ h2];refine AA oM fun i a b=>?_;cases hb:bs.getD i false;rfl;have:=h4 i oM oM hb;have:=(yC f s0 s1 i).2 oM;omega
 rw[if_neg oM]at a;let⟨e0,q,e1,sq⟩:=a;have:q=p:=Sel.uniq sq ⟨oM,h2,oM⟩;subst this;exact .inr ⟨q,e,e1,e0,h1,hp,h2⟩
theorem qR(f t hd:Int)(hf:0≤f)(hft:f≤t)(hh:hd<t):∀j:Nat,Cf f t hd j=(if 0≤hd∧hd<f∧hd<(j:Int)then[hd]else[])++rng f (min (j:Int) t-f).toNat
 |0=>by rw[if_neg oM,(oM:(min ((0:Nat):Int) t-f).toNat=0)];rfl
 |j+1=>by have q:=Ce f t hd j;rw[qR f t hd hf hft hh j]at q;obtain⟨X,hX⟩:∃X,X=(if(f≤(j:Int)∧(j:Int)<t)∨(j:Int)=hd then[(j:Int)]else[]):=⟨_,rfl⟩;rw[q];clear q;rw[←hX];by_cases c1:f≤(j:Int)∧(j:Int)<t;rw[if_pos (.inl c1)]at hX;rw[hX,List.append_assoc];have e1:(min ((j+1:Nat):Int) t-f).toNat=(min (j:Int) t-f).toNat+1:=oM;rw[e1,wc];have e2:f+((min (j:Int) t-f).toNat:Int)=j:=oM;rw[e2];congr 1;by_cases c2:0≤hd∧hd<f∧hd<(j:Int);grind;grind;by_cases c2:(j:Int)=hd;rw[if_pos (.inr c2)]at hX;rw[hX,if_neg oM,if_pos oM,(oM:(min ((j+1:Nat):Int) t-f).toNat=0),(oM:(min (j:Int) t-f).toNat=0),c2];simp[rng];grind
theorem JI{l:List Int}{bs:List Bool}{view over s hd:Int}{A:List Int}(f:Fit l)(hl:bs.length=l.length)(s0:0≤s)(s1:s<l.sum)(hne:l≠[])(h1:1≤view)(o0:0≤over)(a:J6 l bs view over s A)(b:HdR l bs s l.length hd):
 A=Cf (fS l view over s).1 (fS l view over s).2 hd l.length:=by
 let⟨hr,he,hs,e⟩:=a;have lt1:=du s0 s1;have hlen:=List.length_pos_iff.2 hne;have ll:((aM l s).1:Int)≤jk l view s∧jk l view s<l.length:=by unfold jk;split;have:=jH l (x:=s) (y:=s+view-1) oM;have:=du (l:=l) (x:=s+view-1) oM (by assumption);omega;omega
 obtain⟨fr,hfr⟩:∃fr,fr=(fS l view over s).1:=⟨_,rfl⟩;obtain⟨to',hto⟩:∃t,t=(fS l view over s).2:=⟨_,rfl⟩;rw[←hfr,←hto]at e⊢;have e1:fr=max 0 (((aM l s).1:Int)-over):=hfr;have e2:to'=min (l.length:Int) (jk l view s+1+over):=hto;obtain⟨x1,x2,x3⟩|⟨p,x1,x2,x3,x4,x5,_⟩:=Ho f hl s0 s1 hne hs b;rw[qR fr to' hd oM oM oM l.length,if_neg oM,e,if_neg oM,(oM:min (l.length:Int) to'=to')];rw[qR fr to' hd oM oM oM l.length,e,(oM:min (l.length:Int) to'=to')];congr 1;by_cases c:hr<fr;grind;grind
set_option maxRecDepth 4000
structure Hp(h:Heap)(b fb:Nat)(v:V)(L:List (Int×Bool×Bool))(view over:Int):Prop where
 wf:WF h
 glb:Glb h
 lo:Lo h b (sz L) (ky L) (sy L)
 fo:Own h fb [.int .i64 view,.int .i64 over,.bool false]
 rw:Rws h v L
 good:Good L
 v1:1≤view
 v2:view≤300
 o0:0≤over
 o1:over≤16
theorem Hp.fr{h h':Heap}{b fb:Nat}{v:V}{L:List (Int×Bool×Bool)}{view over:Int}(H:Hp h b fb v L view over)(F:Fr [] h h'):Hp h' b fb v L view over:=
 ⟨F.wf,H.glb.fr F,H.lo.fr F,F.get H.fo,Recs.fr H.rw F,H.good,H.v1,H.v2,H.o0,H.o1⟩
theorem xW:∀n m ws,ws.length=64→fm≠flc n m ws:=by intro n m ws hl e;have:=congrArg List.length e;simp[flc,hl,fm]at this;exact absurd this dI
theorem Glb.frF{h h':Heap}{b:Nat}(g:Glb h)(f:FrF b h h')(hb:0≠b):Glb h':=f.pl _ _ hb xW g
theorem Ec{h:Heap}{b:Nat}{bs:List Bool}(w:WF h)(f:Fl h b bs):aj go 106 [.ptr b 0] h fun u h'=>∃c,u=.ptr c 0∧h.next≤c∧Fl h' c bs∧Fr [] h h':=by
 let⟨ws,o,ok,hn⟩:=f;have q2:ak h b 0 66=some (flc (bs.length:Int) (bs.count true:Int) ws):=by rw[o.ld,bq,aZ _ _ (by simp[cF,ok.len])];rw[List.drop_zero,List.take_of_length_le (by simp[cF,ok.len])]
 have lf:(flc (bs.length:Int) (bs.count true:Int) ws).length=66:=by simp[cF,ok.len]
 have on:av (flc (bs.length:Int) (bs.count true:Int) ws)=true:=by
  unfold flc;have:∀l:List Nat,av (l.map uw)=true:=fun l=>by induction l with
   |nil=>rfl
   |cons x l ih=>simp only[List.map_cons];rw[av];simp[uw,V.one]
  rw[aB,aB,this];rfl
 refine ab ?_;simp only[evs,seval,q2];refine ai (c':=flc (bs.length:Int) (bs.count true:Int) ws) (Fr.halloc w _).wf (Own.new w _) lf on (by rw[cD _ _ _ (by rw[V.cells,lf];simp)];simp[V.cells,lf]) ?_;rintro h3 o3 F3 n3;simp only[evs,seval];exact⟨h.next,rfl,Nat.le_refl _,⟨ws,o3,ok,hn⟩,(Fr.halloc w _).fresh F3 w (Nat.le_refl _)⟩
def B1(n:Nat)(a k:Int):Prop:=a<0∨k<0∨(n:Int)<a∨(n:Int)-a<k
instance (n : Nat) (a k : Int) : Decidable (B1 n a k) := by unfold B1; infer_instance
def Kf(n:Nat)(a k t:Int):Prop:=B1 n a k∨t<0∨(n:Int)-k<t
instance (n : Nat) (a k t : Int) : Decidable (Kf n a k t) := by unfold Kf; infer_instance
def Bo{α:Type}(l:List α)(a k:Nat):List α:=l.take a++(l.drop a).drop k
def rmv(a n:Int)(f:Int→Bool)(x:Int):Bool:=if x<a then f x else f (x+n)
theorem C4{α:Type}{l:List α}{a k:Nat}(h:a+k≤l.length):(Bo l a k).length=l.length-k:=by unfold Bo;simp;omega
theorem C5{α:Type}{l:List α}{a k:Nat}(h:a≤l.length)(i:Nat):(Bo l a k)[i]? =if i<a then l[i]? else l[i+k]? :=by unfold Bo;by_cases c:i<a;grind;grind
theorem Bn{l:List Bool}{a k:Nat}(h:a≤l.length)(i:Nat):(Bo l a k).getD i false=if i<a then l.getD i false else l.getD (i+k) false:=by rw[List.getD_eq_getElem?_getD,C5 h];split<;>simp[List.getD_eq_getElem?_getD]
theorem HI{n:Nat}{a k:Int}(c:¬B1 n a k):0≤a∧0≤k∧a.toNat+k.toNat≤n:=by unfold B1 at c;omega
theorem Kn.rem{L L':List (Int×Int)}{ks:List Bool}{a k:Int}(K:Kn L ks)(c:¬B1 ks.length a k)(ok:SOK L' (-1))(e:∀x,inS L' x=rmv a k (inS L) x)(le:∀s∈L',s.2≤(ks.length:Int)-k):Kn L' (Bo ks a.toNat k.toNat):=by let⟨c0,c1,c2⟩:=HI c;have hl:=C4 c2;refine⟨ok,fun s hs=>by rw[hl];have:=le s hs;omega,fun i=>?_⟩;rw[e,Bn oM];unfold rmv;by_cases q:(i:Int)<a;rw[if_pos q,if_pos oM,K.eq];rw[if_neg q,if_neg oM,(oM:(i:Int)+k=((i+k.toNat:Nat):Int)),K.eq]
def LoP(h:Heap)(b:Nat)(pm:Option Nat)(l:List Int)(ks bs:List Bool):Prop:=∃p vk,Own h b [pv p,vk,pv pm]∧vk.one=true∧Ix h (.agg [pv p,vk]) l ks∧Mk h pm bs∧bs.length=l.length
theorem LoP.lo{h:Heap}{b:Nat}{pm:Option Nat}{l:List Int}{ks bs:List Bool}(a:LoP h b pm l ks bs):Lo h b l ks bs:=by let⟨p,vk,x⟩:=a;exact⟨p,vk,pm,x⟩
theorem Lo.p{h:Heap}{b:Nat}{l:List Int}{ks bs:List Bool}(a:Lo h b l ks bs):∃pm,LoP h b pm l ks bs:=by let⟨p,vk,pm,x⟩:=a;exact⟨pm,p,vk,x⟩
theorem LoP.fr{h h':Heap}{b:Nat}{pm:Option Nat}{l:List Int}{ks bs:List Bool}(a:LoP h b pm l ks bs)(f:Fr [] h h'):LoP h' b pm l ks bs:=by let⟨p,vk,o,v1,ix,mk,e⟩:=a;exact⟨p,vk,f.get o,v1,ix.fr f,mk.fr f,e⟩
abbrev FrQ(b:Nat)(pm:Option Nat)(h h':Heap):Prop:=Fr (b::pm.toList) h h'
theorem frQ{h h':Heap}{b:Nat}{pm:Option Nat}(f:Fr [] h h'):FrQ b pm h h':=⟨f.next,f.wf,fun _ _ _ o=>f.get o,fun _ _ _ o=>f.pl _ _ iS o,f.lp,f.ro⟩
theorem FrQ.b{h h1 h2:Heap}{b:Nat}{pm:Option Nat}(a:FrQ b pm h h1)(f:Fr [b] h1 h2)(w:WF h):FrQ b pm h h2:=Fr.trans a f w (fun x hx=>.inl hx) (fun x hx=>.inl (by simp at hx;simp[hx]))
theorem FrQ.q{h h1 h2:Heap}{b q:Nat}{pm:Option Nat}(a:FrQ b pm h h1)(f:Fr [q] h1 h2)(w:WF h)(hq:pm=some q∨h.next≤q):FrQ b pm h h2:=by refine Fr.trans a f w (fun x hx=>.inl hx) (fun x hx=>?_);simp at hx;subst hx;obtain e|e:=hq;left;simp[e];exact .inr e
theorem FrQ.then{h h1 h2:Heap}{b:Nat}{pm:Option Nat}(a:FrQ b pm h h1)(f:Fr [] h1 h2)(w:WF h):FrQ b pm h h2:=Fr.trans a f w (fun x hx=>.inl hx) iS
theorem xN{h:Heap}{b:Nat}{pm:Option Nat}{l m:List Int}{ks bs st:List Bool}{i:Int}{u v:V}(w:WF h)(a:LoP h b pm l ks bs)(am:ou h u m)(as:Bools h v st)(hm:m.length≤1000000)(hst:st.length=m.length)(i0:-9223372036854775808≤i)(i1:i≤9223372036854775807):
 aj go 177 [.ptr b 0,.int .i64 i,u,v] h fun z h'=>z=.int .i64 (cG l i m)∧FrQ b pm h h'∧∃pm',(pm'=pm∨(pm=none∧∀q,pm'=some q→h.next≤q))∧(if cG l i m=0 then LoP h' b pm' (l.take i.toNat++m++l.drop i.toNat) (ks.take i.toNat++List.replicate m.length false++ks.drop i.toNat) (bs.take i.toNat++st++bs.drop i.toNat)else LoP h' b pm' l ks bs):=by
 have al:=a;let⟨p,vk,o,v1,ix,mk,e⟩:=a;have hle:((m.length:Nat):Int)=st.length:=oM
 refine ab ?_;simp only[evs,seval,am.len,as.len,eq_true hle,o.ld];refine aa (HV w ix am hm i0 i1) ?_;rintro _ h1 ⟨F1,c,d,rfl,hc,hd,hx⟩;let⟨h2,e_h2,F_h2,o_h2⟩:=ao F1.wf [.nilp,.nils];simp only[evs,seval,←e_h2];apply ai (c':=[c,d]) F_h2.wf o_h2 rfl (by simp[av,V.cells,hc,hd]) rfl;rintro h3 o3 F3 n3;have F13:Fr [] h1 h3:=F_h2.fresh F3 F1.wf (Nat.le_refl _);have F03:=F1.then F13;by_cases z:cG l i m=0
 ·have ix':=hx z;obtain⟨p',rfl⟩:=ix'.form;have hi:0≤i∧i≤l.length∧l.length+m.length≤1024:=by
   unfold cG at z;by_cases c1:0≤i∧i≤l.length
   ·omega
   ·omega
  by_cases c0:(m.length:Int)=0
  ·have hm0:m=[]:=List.length_eq_zero_iff.1 oM;have hs0:st=[]:=List.length_eq_zero_iff.1 oM;subst hm0 hs0;simp only[evs,seval,eq_true z,am.len];refine⟨frQ F03,pm,.inl rfl,?_⟩;simpa using al.fr F03
  ·obtain⟨k,rfl⟩:∃k:Nat,i=k:=⟨i.toNat,oM⟩;simp only[Int.toNat_natCast]at hx ix'⊢;have blt:b<h1.next:=Nat.lt_of_lt_of_le (o.lt w) F1.next;have niv:=ix.noint;have nbv:=ix.nobool
   -- the marks are there
   cases pm
   case' none=>
    have mk:bs=[]:=mk;simp only[evs,seval,eq_true z,am.len,eq_false c0,(F03.get o).ld1,gK];apply aa (HC F13.wf);rintro _ h4 ⟨q,rfl,hq,fl4,F4⟩;simp only[evs,seval];have F04:=F03.then F4;apply stu F4.wf (F04.get o);rintro H oH F5 n5;have FH:FrQ b none h H:=(frQ F04).b F5 w;have hqq:(none:Option Nat)=some q∨h.next≤q:=.inr (Nat.le_trans F03.next hq);have hpq:some q=(none:Option Nat)∨((none:Option Nat)=none∧∀q',some q=some q'→h.next≤q'):=.inr ⟨rfl,fun q' e=>by cases e;exact Nat.le_trans F03.next hq⟩;have flH:Fl H q bs:=Mk.frb (pm:=some q) (show Mk h4 (some q) bs from mk▸fl4) F5 (F04.get o) rfl;have ixH:=(ix'.fr (F13.then F4)).frb F5 (F04.get o) iS (Bu (Af niv));have oxH:=F5.own _ _ oO (F4.get o3);have stH:=Bools.frl (as.fr F04) F5 (F04.get o) oH (nobool nbv) rfl;have wfH:=F5.wf;simp only[evs,seval,oH.ld1,am.len]
   case' some q=>
    have flH:Fl h3 q bs:=Fl.fr mk F03;obtain⟨H,eH⟩:∃H,H=h3:=⟨h3,rfl⟩;have oH:Own H b [pv p,vk,.ptr q 0]:=eH▸F03.get o;have FH:FrQ b (some q) h H:=eH▸frQ F03;have hqq:some q=some q∨h.next≤q:=.inl rfl;have hpq:some q=some q∨(some q=none∧∀q',some q=some q'→h.next≤q'):=.inl rfl;have ixH:=eH▸ix'.fr F13;have oxH:=eH▸o3;have stH:=eH▸as.fr F03;have wfH:WF H:=eH▸F13.wf;rw[←eH]at flH;simp only[evs,seval,eq_true z,am.len,eq_false c0,(F03.get o).ld1,aI];rw[←eH]
   all_goals
    have qb:q≠b:=by
     rintro rfl;let⟨ws,oq,ok,_⟩:=flH;have:=congrArg List.length (oq.uniq oH);rw[cF,ok.len]at this;simp at this
    apply aa (HD (a:=k) (n:=m.length) (v:=false) wfH flH oM oM);rintro _ h6 ⟨rfl,fl6,F6⟩;have o6b:=F6.own _ _ oO oH;have ix6:=ixH.frf F6 flH;have qx:q≠h1.next:=by
     rintro rfl;let⟨ws,oq,ok,_⟩:=flH;have:=congrArg List.length (oq.uniq oxH);rw[cF,ok.len]at this;simp at this
    have ox6:=F6.own _ _ oO oxH;have st6:Bools h6 v st:=by
     let⟨ws,oq,ok,_⟩:=flH;let⟨ws',oq',ok',_⟩:=fl6;exact Bools.frb stH F6 oq oq' (by rw[ok'.len,ok.len])
    simp only[evs,seval,ox6.ld];apply ai (c':=[pv p',d,.ptr q 0]) F6.wf o6b rfl (by simp[av,V.cells,hc,hd]) rfl;rintro h7 o7 F7 n7;have fl7:Fl h7 q _:=Mk.frb (pm:=some q) fl6 F7 o6b rfl;have ix7:=ix6.frb F7 o6b iS (Bu (Af (pm:=some q) niv));have st7:=Bools.frl st6 F7 o6b o7 (nobool (pm:=some q) nbv) rfl;have F07:=(FH.q F6 w hqq).b F7 w;simp only[evs,seval,st7.len];obtain⟨PP,hPP,hPq,hPw,hP0⟩:∃PP:Heap→Prop,PP h7∧(∀h1 h2,PP h1→Fr [q] h1 h2→PP h2)∧(∀h1,PP h1→WF h1)∧(∀h1,PP h1→FrQ b _ h h1):=⟨_,F07,fun h1 h2 x f=>FrQ.q x f w hqq,fun h1 x=>Fr.wf x,fun h1 x=>x⟩;refine aA (fun n env hh=>∃j:Nat,env.get 71=some (.int .i64 j)∧env.get 70=some (.int .i64 st.length)∧env.get 69=some v∧env.get 0=some (.ptr b 0)∧env.get 1=some (.int .i64 k)∧j≤st.length∧PP hh∧
     Own hh b [pv p',d,.ptr q 0]∧Fl hh q (bs.take k++(st.take j++List.replicate (st.length-j) false)++bs.drop k)∧Ix hh (.agg [pv p',d]) (l.take k++m++l.drop k) (ks.take k++List.replicate m.length false++ks.drop k)∧Bools hh v st∧n=st.length-j) st.length oM ?_ ?_
    ·exact⟨0,iS,iS,iS,iS,iS,oM,hPP,o7,by simpa[hst]using fl7,ix7,st7,rfl⟩
    ·rintro n env hh ⟨j,g71,g70,g69,g0,g1,hj,FF,oo,ff,ii,ss,rfl⟩;by_cases hlt:(j:Int)<st.length
     ·let⟨bb,oo',x,q1,q2,q3⟩:=ss.ix .i64 j oM hlt;simp only[Int.toNat_natCast]at q3;cases x
      ·simp(disch:=omega) only[evs,seval,ah,g71,g70,g69,hlt,q1,q2];rw[BL q3]at ff;refine rqn ⟨st.length-(j+1),oM,j+1,iS,iX,iX,iX,iX,oM,FF,oo,ff,ii,ss,rfl⟩
       done
      ·simp(disch:=omega) only[evs,seval,ah,g71,g70,g69,g0,g1,hlt,q1,q2,oo.ld1];apply aa (HB (hPw _ FF) ff oM oM);rintro _ h8 ⟨rfl,f8,F8,n8⟩;have lf:(k:Int)+j<((bs.take k++(st.take j++List.replicate (st.length-j) false)++bs.drop k).length:Nat):=by simp;omega
       rw[if_pos ⟨oM,lf⟩,(oM:((k:Int)+j).toNat=k+j),Hn oM _ q3]at f8;simp(disch:=omega) only[evs,seval,ah,g71];have o8:=F8.own _ _ oO oo;have s8:Bools h8 v st:=by
        let⟨ws,oq,ok,_⟩:=ff;let⟨ws',oq',ok',_⟩:=f8;exact Bools.frb ss F8 oq oq' (by rw[ok'.len,ok.len])
       refine rqn ⟨st.length-(j+1),oM,j+1,iS,iX,iX,iX,iX,oM,hPq _ _ FF F8,o8,f8,ii.frf F8 ff,s8,rfl⟩
       done
     ·simp only[evs,seval,g71,g70,hlt];have ej:j=st.length:=oM
      subst ej;simp only[List.take_length,Nat.sub_self,List.replicate_zero,List.append_nil]at ff;refine⟨by first|rw[z]|trivial,hP0 _ FF,some q,(by first|exact hpq|simpa using hpq),?_⟩
      try rw[if_pos z]
      exact⟨p',d,oo,hd,ii,ff,by simp;omega⟩
 ·simp only[evs,seval,eq_false z];exact⟨frQ F03,pm,.inl rfl,al.fr F03⟩
theorem LoP.qb{h:Heap}{b q:Nat}{l:List Int}{ks bs:List Bool}(a:LoP h b (some q) l ks bs):b≠q:=by let⟨p,vk,o,v1,ix,mk,e⟩:=a;rintro rfl;let⟨ws,oq,ok,_⟩:=(mk:Fl h b bs);have:=congrArg List.length (oq.uniq o);rw[cF,ok.len]at this;simp at this
theorem Iob{h:Heap}{b:Nat}{pm:Option Nat}{l:List Int}{ks bs:List Bool}{i size:Int}{kn:Bool}(w:WF h)(a:LoP h b pm l ks bs)(s0:-9223372036854775808≤size)(s1:size≤9223372036854775807)(i0:-9223372036854775808≤i)(i1:i≤9223372036854775807):
 aj go 54 [.ptr b 0,.int .i64 i,.int .i64 size,.bool kn] h fun u h'=>u=.int .i64 (cg l i size)∧(if cg l i size=0 then LoP h' b pm (l.set i.toNat size) (ks.set i.toNat kn) bs else LoP h' b pm l ks bs)∧FrQ b pm h h':=by
 have al:=a;let⟨p,vk,o,v1,ix,mk,e⟩:=a;refine ab ?_;simp only[evs,seval,o.ld];refine aa (AR w ix s0 s1 i0 i1) ?_;rintro _ h1 ⟨F1,c,d,rfl,hc,hd,hx⟩;let⟨h2,e_h2,F_h2,o_h2⟩:=ao F1.wf [.nilp,.nils];simp only[evs,seval,←e_h2];apply ai (c':=[c,d]) F_h2.wf o_h2 rfl (by simp[av,V.cells,hc,hd]) rfl;rintro h3 o3 F3 n3;have F13:Fr [] h1 h3:=F_h2.fresh F3 F1.wf (Nat.le_refl _);have F03:=F1.then F13;by_cases z:cg l i size=0;simp only[evs,seval,eq_true z,o3.ld];apply ai (c':=[c,d,pv pm]) F13.wf (F03.get o) rfl (by simp[av,V.cells,hc,hd]) rfl;rintro h4 o4 F4 n4;simp only[evs,seval];have ix':=hx z;obtain⟨p',rfl⟩:=ix'.form;exact⟨⟨p',d,o4,hd,(ix'.fr F13).frb F4 (F03.get o) iS (Bu (Af ix.noint)),(mk.fr F03).frb F4 (F03.get o) rfl,by simpa using e⟩,(frQ F03).b F4 w⟩;simp only[evs,seval,eq_false z];exact⟨al.fr F03,frQ F03⟩
theorem CC{h:Heap}{b:Nat}{pm:Option Nat}{l:List Int}{ks bs:List Bool}(w:WF h)(a:LoP h b pm l ks bs):aj go 53 [.ptr b 0] h fun u h'=>∃c pm',u=.ptr c 0∧h.next≤c∧(∀q,pm'=some q→h.next≤q)∧LoP h' c pm' l ks bs∧Fr [] h h':=by
 let⟨p,vk,o,v1,ix,mk,e⟩:=a;let⟨h1,e_h1,F_h1,o_h1⟩:=ao w [pv p,vk,.nilp];cases pm with
 |none=>have mk:bs=[]:=mk;refine ab ?_;simp only[evs,seval,o.ld,(F_h1.get o).ld1,gK,←e_h1];exact⟨h.next,none,rfl,Nat.le_refl _,iS,⟨p,vk,o_h1,v1,ix.fr F_h1,mk,e⟩,F_h1⟩
 |some q=>have fl:Fl h q bs:=mk;refine ab ?_;simp only[evs,seval,o.ld,(F_h1.get o).ld1,aI,←e_h1];refine aa (Ec F_h1.wf (fl.fr F_h1)) ?_;rintro _ h2 ⟨c,rfl,hc,f2,F2⟩;simp only[evs,seval];apply stu F2.wf (F2.get o_h1);rintro h3 o3 F3 n3;simp only[evs,seval];have F02:=F_h1.then F2;exact⟨h.next,some c,rfl,Nat.le_refl _,fun q e=>by cases e;exact Nat.le_trans F_h1.next hc,⟨p,vk,o3,v1,(ix.fr F02).frb F3 (F2.get o_h1) iS (Bu (Af (pm:=none) ix.noint)),Mk.frb (pm:=some c) f2 F3 (F2.get o_h1) rfl,e⟩,F02.fresh F3 w (Nat.le_refl _)⟩
def Knd.same(q p:Knd):Prop:=q.k=p.k∧q.tg=p.tg∧q.ky=p.ky∧q.sl=p.sl∧q.tx=p.tx∧q.base=p.base∧q.sticky=p.sticky∧q.pool=p.pool∧PT.same q.sub p.sub
theorem Knd.same_okK{q p:Knd}(h:q.same p):okK q=okK p:=by let⟨h1,h2,h3,h4,h5,h6,_,_,h9⟩:=h;unfold okK;rw[h1,h2,h3,h4,h5,h6,PT.same_count _ _ _ _ _ h9]
def cM:List Knd→List Knd→Prop
 |[],[]=>True
 |q::l,p::m=>q.same p∧cM l m
 |_,_=>False
theorem eM:∀{a b:List Knd},cM a b→a.length=b.length
 |[],[],_=>rfl
 |_::_,_::_,h=>by simp[eM h.2]
 |[],_::_,h=>h.elim
 |_::_,[],h=>h.elim
theorem pU:∀{a b:List Knd},cM a b→a.all okK=b.all okK
 |[],[],_=>rfl
 |_::_,_::_,h=>by rw[List.all_cons,List.all_cons,Knd.same_okK h.1,pU h.2]
 |[],_::_,h=>h.elim
 |_::_,[],h=>h.elim
theorem yf{a b:List Knd}(h:cM a b)(cap:Int):okR a cap=okR b cap:=by unfold okR;rw[eM h,pU h]
theorem pT:∀{a b c d:List Knd},cM a b→cM c d→cM (a++c) (b++d)
 |[],[],_,_,_,g=>g
 |_::_,_::_,_,_,h,g=>⟨h.1,pT h.2 g⟩
 |[],_::_,_,_,h,_=>h.elim
 |_::_,[],_,_,h,_=>h.elim
theorem kZ:∀{a b:List Knd}{i:Nat}{q:Knd},cM a b→a[i]? =some q→∃p,b[i]? =some p∧q.same p
 |_::_,p::_,0,_,h,e=>by simp at e;subst e;exact⟨p,rfl,h.1⟩
 |_::_,_::_,i+1,_,h,e=>by simpa using kZ h.2 (eV e)
 |[],[],_,_,_,e=>by simp at e
 |[],_::_,_,_,h,_=>h.elim
 |_::_,[],_,_,h,_=>h.elim
theorem _root_.Go.Ev.Fr.old{S:List Nat}{h h':Heap}(w:WF h)(f:Fr S h h'):Fr (S.filter fun x=>decide (x<h.next)) h h':=
 ⟨f.next,f.wf,fun b c hb o=>f.own b c (fun m=>hb (by have:=o.lt w;simp[m,this])) o,fun b c hb o=>f.pl b c (fun m=>hb (by have:=o.own.lt w;simp[m,this])) o,f.lp,f.ro⟩
theorem D2{h:Heap}{b:Nat}(o:Own h b [.nils,.int .i64 0,.int .i64 0]):aj go 100 [.ptr b 0,.int .i64 0,.nils] h fun u h'=>u=.int .i64 0∧h=h':=by have k:GpT h b (b+1) .nils [] [] [] 0 0 0:=⟨o,⟨rfl,.inl ⟨rfl,rfl⟩⟩,rfl,rfl,rfl,rfl,rfl,oM,oM,oM,fun x m=>by simp at m⟩;have e:yJ (0+0) 0 0=0:=rfl;refine ab ?_;simp only[evs,seval];refine aa (ki k 0 0) ?_;rintro _ _ ⟨rfl,rfl⟩;rw[e];simp only[evs,seval];apply aa (eS k);rintro _ _ ⟨rfl,rfl⟩;simp(disch:=omega) only[evs,seval,ah,(oM:¬((4096:Int)-((0+0:Nat):Int)<0))]
theorem DZ{h:Heap}(w:WF h):aj go 46 [.nils] h fun z h'=>∃b,z=.tup [.ptr b 0,.int .i64 0]∧h.next≤b∧Own h' b [.nils,.int .i64 0,.int .i64 0]∧Fr [] h h':=by let⟨h1,e_h1,F_h1,o_h1⟩:=ao w [.nils,.int .i64 0,.int .i64 0];refine ab ?_;simp only[evs,seval,←e_h1];refine aa (D2 o_h1) ?_;rintro _ _ ⟨rfl,rfl⟩;simp only[evs,seval];exact⟨h.next,rfl,Nat.le_refl _,o_h1,F_h1⟩
theorem J1{h:Heap}{v:V}{L:List Knd}{cap:Int}(w:WF h)(a:Recs Knd.cells 9 h v L)(hL:∀q∈L,KndH h q)(hn:L.length≤4096)(ok:okR L cap=true):
 aj go 11 [.agg [v,.int .i64 cap]] h fun u h'=>∃b bg bm bl vK K,u=.tup [.ptr b 0,.int .i64 0]∧Fr [] h h'∧cM L K∧Own h' b [vK,.int .i64 cap,.ptr bg 0,.ptr bm 0,.ptr bl 0]∧
  Own h' bg [.nils,.int .i64 0,.int .i64 0]∧Km h' bm bm (fun _=>none) 0∧LoP h' bl none [] [] []∧h.next<bg∧bg<bm∧bm<bl∧bl<b∧h.next<h'.next∧Own h' h.next [v,.int .i64 cap]∧
  (∀(X:List Nat)(h2:Heap),(∀y∈X,y≤h.next∨y=b∨y=bg∨y=bm∨y=bl∨h'.next≤y)→Fr X h' h2→Recs Knd.cells 9 h2 vK K∧∀q∈K,KndH h2 q):=by
 have zv:nZ v=true:=by cases v<;>first|rfl|exact a.2.elim
 let⟨h1,e_h1,F_h1,o_h1⟩:=ao w [v,.int .i64 cap];have l0:ag h1 h.next 0=some v:=o_h1.ld1 0;have l2:ak h1 h.next 0 2=some [v,.int .i64 cap]:=by rw[o_h1.ld];rfl
 refine ab ?_;simp only[evs,seval,←e_h1,l2];refine aa (iI F_h1.wf (Recs.fr a F_h1) (fun q m=>(hL q m).fr F_h1) hn) ?_;rintro _ h2 ⟨rfl,F2⟩;rw[ok,if_pos rfl];simp only[evs,seval];apply aa (DZ F2.wf);rintro _ h3 ⟨bg,rfl,hbg,g3,F3⟩;have F03:=(F_h1.then F2).then F3;have o3:=F3.get (F2.get o_h1);have l3:ag h3 h.next 0=some v:=o3.ld1 0;simp only[evs,seval,l3];apply aa (uX F3.wf (Sl.a (Recs.fr a F03)) zv oM);rintro vK h4 ⟨gk,F4⟩;simp only[evs,seval,gk.sl.len];have F04:=F03.then F4;have vpl:∀y∈vb vK,h3.next≤y∧y<h4.next:=by obtain⟨_,⟨_,rfl|⟨b,_,rfl,_⟩⟩|⟨b,hb,rfl,o⟩⟩:=gk;simp[vb];simp[vb];have:=o.lt F4.wf;simp only[vb,List.mem_singleton];rintro y rfl;exact⟨hb,this⟩
 refine aA (fun n env hh=>Fr [] h hh∧Fr [] h1 hh∧Fr [] h3 hh∧h4.next≤hh.next∧
  ∃(i:Nat)(D:List Knd),env.get 26=some (.int .i64 i)∧env.get 25=some (.int .i64 L.length)∧env.get 1=some (.ptr h.next 0)∧env.get 5=some (.ptr bg 0)∧env.get 7=some vK∧i≤L.length∧D.length=i∧cM (L.take i) D∧
  Gn 9 hh h3.next vK L.length ((D++L.drop i).flatMap Knd.cells)∧(∀(X:List Nat)(h2:Heap),(∀y∈X,y<h3.next∨y∈vb vK)→Fr X hh h2→∀q∈D,KndH h2 q)∧n=L.length-i) L.length oM ?_ ?_
 exact⟨F04,(F2.then F3).then F4,F4,Nat.le_refl _,0,[],iS,iS,iS,iS,iS,oM,rfl,trivial,by simpa using gk,iS,rfl⟩;rintro n env hh ⟨F,F1',F3',hn4,i,D,g26,g25,g1,g5,g7,hi,dl,ds,gph,dst,rfl⟩;by_cases hlt:i<L.length;have hlt':(i:Int)<L.length:=oM;obtain⟨q,hq⟩:∃q,L[i]? =some q:=⟨_,List.getElem?_eq_getElem hlt⟩;have hqL:=hL q (List.mem_of_getElem? hq);obtain⟨_,⟨z,_⟩|⟨bp,hbp,rfl,obp⟩⟩:=gph;omega;have fl:∀M:List Knd,(M.flatMap Knd.cells).length=M.length*9:=aE dy;have dc:(D.flatMap Knd.cells).length=i*9:=by rw[fl,dl]
 have eL:(D++L.drop i).flatMap Knd.cells=D.flatMap Knd.cells++(q.cells++(L.drop (i+1)).flatMap Knd.cells):=by rw[aG hq];simp
 rw[eL]at obp;have ix:=lP 9 bp 0 L.length 9 .i64 (i:Int) oM hlt';simp only[Int.toNat_natCast,Nat.zero_add]at ix;have lc:ak hh bp (i*9) 6=some q.part:=by rw[obp.ld,bq,←dc,List.drop_left];rfl
 have hb:=vpl bp (by simp[vb]);simp only[evs,seval,g26,g25,g7,hlt',ix,lc];apply aa (vM (pcs q.sub) hh F.wf (hqL.fr F));rintro _ h7 ⟨vs2,vp2,sb2,rfl,sm,F7,st2⟩;have on:av [.int .u8 (q.k:Int),.str q.tg,.str q.ky,vs2,.str q.tx,vp2]=true:=PH.ones (st2 [] h7 iS (Fr.refl F7.wf));simp only[evs,seval,g7,ix];have eC:bC (D.flatMap Knd.cells++(q.cells++(L.drop (i+1)).flatMap Knd.cells)) (i*9) [.int .u8 (q.k:Int),.str q.tg,.str q.ky,vs2,.str q.tx,vp2]=some ((D++[(⟨q.k,q.tg,q.ky,q.sl,q.tx,vs2,vp2,sb2,q.base,q.sticky,q.pool⟩:Knd)]++L.drop (i+1)).flatMap Knd.cells):=by
  rw[cD _ _ _ (by rw[List.length_append,dc,List.length_append,dy];simp only[List.length_cons,List.length_nil];omega)];congr 1;have q1:(D.flatMap Knd.cells++(q.cells++(L.drop (i+1)).flatMap Knd.cells)).take (i*9)=D.flatMap Knd.cells:=by grind
  have q2:(D.flatMap Knd.cells++(q.cells++(L.drop (i+1)).flatMap Knd.cells)).drop (i*9+6)=[.int .i64 q.base,.bool q.sticky,.int .i64 q.pool]++(L.drop (i+1)).flatMap Knd.cells:=by rw[←dc,List.drop_length_add_append];rfl
  show _++_++(D.flatMap Knd.cells++(q.cells++(L.drop (i+1)).flatMap Knd.cells)).drop (i*9+6)=_;rw[q1,q2];simp[Knd.cells,Knd.part]
 refine ai F7.wf (F7.get obp) rfl on eC ?_;rintro h8 o8 F8 n8;have hn7:=F7.next;have hn3:=F4.next;simp(disch:=omega) only[evs,seval,ah,g26];refine rqn ⟨L.length-(i+1),oM,(F.then F7).fresh F8 w ?_,(F1'.then F7).fresh F8 F_h1.wf ?_,(F3'.then F7).fresh F8 F3.wf oM,oM,i+1,_,iS,iX,iX,iX,iX,oM,?_,?_,⟨?_,.inr ⟨bp,hbp,rfl,o8⟩⟩,?_,rfl⟩;have:=F03.next;omega;have:=F2.next;have:=F3.next;omega;simp[dl];rw[List.take_add_one,hq];exact pT ds ⟨⟨rfl,rfl,rfl,rfl,rfl,rfl,rfl,rfl,sm⟩,trivial⟩;grind;intro X h9 hX f9 p hp;have f79:Fr ([bp]++X) h7 h9:=Fr.trans F8 f9 F7.wf (fun y hy=>.inl (by simp at hy;simp[hy])) (fun y hy=>.inl iX);have fh9:Fr ([bp]++X) hh h9:=Fr.trans F7 f79 F.wf iS (fun y hy=>.inl hy);have hX':∀y∈[bp]++X,y<h3.next∨y∈vb (.sliceU bp 0 L.length 9):=by intro y hy;simp at hy;obtain rfl|hy:=hy;exact .inr (by simp[vb]);exact hX y hy
 obtain hp|hp:=List.mem_append.1 hp;grind;simp at hp;subst hp;refine st2 _ h9 (fun y hy=>?_) f79;obtain q|q:=hX' y hy;omega;grind;have hi':i=L.length:=oM;subst hi';rw[List.take_of_length_le (Nat.le_refl _)]at ds;rw[List.drop_of_length_le (Nat.le_refl _),List.append_nil]at gph;have ob:=F1'.get o_h1;have l1:ag hh h.next 1=some (.int .i64 cap):=ob.ld1 1;simp only[evs,seval,eff,g26,g25,g1,g5,g7,(oM:¬((L.length:Nat):Int)<(L.length:Nat)),l1,az gph.one];apply aa (Al F.wf);rintro _ h5 ⟨bm,rfl,hbm,km,F5⟩;have l1':ag h5 h.next 1=some (.int .i64 cap):=(F5.get ob).ld1 1;simp only[evs,eff];apply aa (H9 F5.wf);rintro _ h6 ⟨bl,rfl,hbl,lo,ol,F6⟩;have l1'':ag h6 h.next 1=some (.int .i64 cap):=(F6.get (F5.get ob)).ld1 1;let⟨h9,e_h9,F_h9,o_h9⟩:=ao F6.wf [vK,.int .i64 cap,.ptr bg 0,.ptr bm 0,.ptr bl 0];have n9:=hnx e_h9;simp only[evs,seval,DF,eff,l1,l1',l1'',←e_h9];have n1:=hnx e_h1;have nn2:=F2.next;have nn3:=F3.next;have nn4:=F4.next;have nn5:=F5.next;have nn6:=F6.next;have bg3:=g3.lt F3.wf;have bm5:bm<h5.next:=by obtain⟨o,_⟩|⟨v,sl,t,k,_⟩:=km;exact o.lt F5.wf;exact k.ob.lt F5.wf
 have bl6:=ol.lt F6.wf;have F69:=(F5.then F6).then F_h9;refine⟨h6.next,bg,bm,bl,vK,D,rfl,F.then F69,ds,o_h9,?_,(km.fr F6).fr F_h9,?_,oM,oM,oM,oM,oM,(F1'.then F69).get o_h1,fun X h10 hX f10=>?_⟩;exact(F3'.then F69).get g3;let⟨p,vk,pm,o,x⟩:=lo;have e:=o.uniq ol;cases pm with
 |none=>exact LoP.fr ⟨p,vk,o,x⟩ F_h9
 |some q=>simp[pv]at e
 have f:Fr X hh h10:=Fr.trans F69 f10 F.wf iS (fun y hy=>.inl hy);have hX':∀y∈X,y<h3.next∨hh.next≤y:=fun y hy=>by grind
 refine⟨?_,dst _ h10 (fun y hy=>?_) (f.old F.wf)⟩;have:=(gph.frH F.wf f hX').sl;show Sl h10 9 vK D.length _;rw[dl];exact this;grind
def Seen(h:Heap)(b:Nat)(ks:List Nat):Prop:=∃es c,h.bl.get b=some (.mp es c)∧es.map (·.1)=ks.map (fun k:Nat=>V.int .u64 (k:Int))∧∀e∈es,e.2.1=.bool true
theorem li(k:Nat):∀(es:List (V×V×Nat))(ks:List Nat)(i:Nat),es.map (·.1)=ks.map (fun k:Nat=>V.int .u64 (k:Int))→(∀e∈es,e.2.1=.bool true)→
 (k∈ks→∃j,eX none (.int .u64 (k:Int)) es i=some (some (j,.bool true)))∧(k∉ks→eX none (.int .u64 (k:Int)) es i=some none)
 |[],[],_,_,_=>⟨by simp,fun _=>rfl⟩
 |[],_::_,_,e,_=>by simp at e
 |_::_,[],_,e,_=>by simp at e
 |(k',v,n)::es,q::ks,i,e,t=>by
  simp only[List.map_cons,List.cons.injEq]at e;let⟨e1,e2⟩:=e;have tv:v=.bool true:=t (k',v,n) (by simp);subst e1 tv;have ih:=li k es ks (i+1) e2 (fun x hx=>t x (by simp[hx]));have ek:qj none (.int .u64 (k:Int)) (.int .u64 (q:Int))=some (decide (k=q)):=by simp only[qj,bG,cond_true,d9];congr 1;by_cases c:k=q;simp[c];simp[c];omega
  by_cases c:k=q;refine⟨fun _=>⟨i,?_⟩,fun m=>absurd (by simp[c]) m⟩;simp only[eX];rw[ek,decide_eq_true c];refine⟨fun m=>?_,fun m=>?_⟩;let⟨j,hj⟩:=ih.1 (by simpa[c]using m);exact⟨j,by simp only[eX];rw[ek,decide_eq_false c];exact hj⟩;simp only[eX];rw[ek,decide_eq_false c];exact ih.2 (fun m'=>m (by simp[m']))
theorem Seen.lt{h:Heap}{b:Nat}{ks:List Nat}(s:Seen h b ks)(w:WF h):b<h.next:=by let⟨es,c,e,_⟩:=s;obtain q|q:=Nat.lt_or_ge b h.next;exact q;rw[(w b q).1]at e;cases e
theorem Im{call:aC}{loc:List V}{env:T V}{h:Heap}(K:V→Heap→Prop):OQ (aK call loc env h (.mm [])) K↔K (.map h.next) (kI h):=by show OQ (some (V.map h.next,kI h)) K↔_;exact bZ _ _ _
def LkQ(h:Heap)(ks:Option (List Nat))(zero:V)(ok:Bool)(o:Option (List V))(K:V→Heap→Prop):Prop:=∃x k,o=some [x,k]∧VQ (alk h ks zero ok x k) K h
theorem qY{h:Heap}(ks:Option (List Nat))(zero:V)(ok:Bool)(x k:V)(K:V→Heap→Prop):LkQ h ks zero ok (some [x,k]) K↔VQ (alk h ks zero ok x k) K h:=
 ⟨fun⟨_,_,e,q⟩=>by cases e;exact q,fun q=>⟨x,k,rfl,q⟩⟩
theorem Di{call:aC}{loc:List V}{env:T V}{h:Heap}(ks:Option (List Nat))(zero:V)(ok:Bool)(x y:Opd)(K:V→Heap→Prop):OQ (aK call loc env h (.lk ks zero ok [x,y])) K↔LkQ h ks zero ok (dA loc env [x,y]) K:=by
 simp only[aK,OQ,LkQ,VQ,eg,bY];cases evO loc env x with
 |none=>simp[jP]
 |some a=>
  cases evO loc env y with
  |none=>simp[jP]
  |some b=>
   simp only[jP];cases e:alk h ks zero ok a b with
   |none=>simp[e]
   |some v=>refine⟨fun⟨_,_,q,k⟩=>?_,fun⟨_,_,q,u,q2,k⟩=>?_⟩;grind;grind
def MuQ(h:Heap)(ks:Option (List Nat))(o:Option (List V))(K:V→Heap→Prop):Prop:=∃x k v,o=some [x,k,v]∧OQ (amu h ks x k v) K
theorem xM{h:Heap}(ks:Option (List Nat))(x k v:V)(K:V→Heap→Prop):MuQ h ks (some [x,k,v]) K↔OQ (amu h ks x k v) K:=
 ⟨fun⟨_,_,_,e,q⟩=>by cases e;exact q,fun q=>⟨x,k,v,rfl,q⟩⟩
theorem Il{call:aC}{loc:List V}{env:T V}{h:Heap}(ks:Option (List Nat))(x y z:Opd)(K:V→Heap→Prop):OQ (aK call loc env h (.mu ks [x,y,z])) K↔MuQ h ks (dA loc env [x,y,z]) K:=by
 simp only[aK,OQ,MuQ,eg,bY];cases evO loc env x with
 |none=>simp[jP]
 |some a=>
  cases evO loc env y with
  |none=>simp[jP]
  |some b=>
   cases evO loc env z with
   |none=>simp[jP]
   |some c=>simp only[jP];exact⟨fun q=>⟨a,b,c,rfl,q⟩,fun⟨_,_,_,e,q⟩=>by cases e;exact q⟩
theorem uJ{h:Heap}{b k:Nat}{ks:List Nat}(s:Seen h b ks):alk h none (.bool false) false (.map b) (.int .u64 (k:Int))=some (.bool (decide (k∈ks))):=by let⟨es,c,e,e1,e2⟩:=s;have m:=li k es ks 0 e1 e2;simp only[alk,yM,e,show kP none (.int .u64 (k:Int))=true from rfl,cond_true];by_cases q:k∈ks;grind;rw[m.2 q];simp[q]
theorem Seen.fr{h h':Heap}{b:Nat}{ks:List Nat}(s:Seen h b ks)(f:Fr [] h h'):Seen h' b ks:=by let⟨es,c,e,x⟩:=s;exact⟨es,c,f.lp _ _ rfl e,x⟩
theorem Ag{h:Heap}{b k:Nat}{ks:List Nat}(w:WF h)(s:Seen h b ks)(hk:k∉ks){K:V→Heap→Prop}(q:∀h',Seen h' b (ks++[k])→FrB [] b h h'→h'.next=h.next→K (.tup []) h'):OQ (amu h none (.map b) (.int .u64 (k:Int)) (.bool true)) K:=by let⟨es,c,e,e1,e2⟩:=s;have m:=li k es ks 0 e1 e2;refine⟨.tup [],jn h b (es++[(.int .u64 (k:Int),.bool true,c)]) (c+1),?_,q _ ⟨_,_,T.get_set_self _ _ _,by simp[e1],fun x hx=>?_⟩ (FrB.hset w e rfl _) rfl⟩;simp only[amu,e,show kP none (.int .u64 (k:Int))=true from rfl,cond_true,m.2 hk];grind
def RulesAt(h:Heap)(b:Nat)(Ks:List Knd)(cap:Int):Prop:=∃vK c2 c3 c4,Own h b [vK,.int .i64 cap,c2,c3,c4]∧Recs Knd.cells 9 h vK Ks∧∀q∈Ks,KndH h q
theorem RulesAt.fr{h h':Heap}{b:Nat}{Ks:List Knd}{cap:Int}(r:RulesAt h b Ks cap)(f:Fr [] h h'):RulesAt h' b Ks cap:=by let⟨vK,c2,c3,c4,o,r,k⟩:=r;exact⟨vK,c2,c3,c4,f.get o,Recs.fr r f,fun q m=>(k q m).fr f⟩
def bW(Ks:List Knd)(cap:Int)(x:Itm):Int:=match Ks[x.type]? with
 |some q=>dZ q.k q.tg q.ky q.sl q.tx q.sub x cap
 |none=>0
def TreeS(N:Nat)(h':Heap)(Ks:List Knd)(x:Itm)(cs:List V):Prop:=∃q s va vc,Ks[x.type]? =some q∧cs=[.int .u8 1,.str q.tg,.str q.ky,va,.str [],vc]∧(∀(X:List Nat)(h2:Heap),(∀y∈X,y<N)→Fr X h' h2→NH h2 (.cons 1 q.tg q.ky (q.sl.map (att x)) [] va vc s .nil))∧
 s.sh=bI x q.sub∧ST.count 1 q.tg q.ky (q.sl.map (att x)) [] (bI x q.sub)≠0
theorem oG{k:Nat}{tg ky tx:Str}{sl:List Slo}{sub:PT}{x:Itm}{most:Int}(e:dZ k tg ky sl tx sub x most=0):ST.count 1 tg ky (sl.map (att x)) [] (bI x sub)≠0:=by intro z;unfold dZ at e;split at e;cases e;omega
theorem vS{h:Heap}{b:Nat}{Ks:List Knd}{cap:Int}{x:Itm}(w:WF h)(r:RulesAt h b Ks cap)(a:ItmH h x)(ht:x.type<Ks.length):
 aj go 52 [.ptr b 0,.agg x.cells] h fun u h'=>∃cs,u=.tup [.agg cs,.int .i64 (bW Ks cap x)]∧Fr [] h h'∧av cs=true∧cs.length=6∧(bW Ks cap x=0→TreeS h.next h' Ks x cs):=by
 let⟨vK,c2,c3,c4,o,rk,kh⟩:=r;let⟨h1,e_h1,F_h1,o_h1⟩:=ao w x.cells;let⟨h2,e_h2,F_h2,o_h2⟩:=ao F_h1.wf [.int .u8 0,.str [],.str [],.nils,.str [],.nils];have n1:=hnx e_h1;have F02:=F_h1.then F_h2;have ob:=F02.get o;have ox:=F_h2.get o_h1;have l0:ag h2 b 0=some vK:=ob.ld1 0;have l1:ag h2 b 1=some (.int .i64 cap):=ob.ld1 1;have x1:ag h2 h.next 1=some (.int .u8 (x.type:Int)):=ox.ld1 1;have x4:ak h2 h.next 0 4=some x.cells:=by rw[ox.ld];rfl
 let⟨bk,ok',q,p1,p2,p3,p4⟩:=(Recs.fr rk F02).ix dy .u8 (x.type:Int) oM oM;rw[Int.toNat_natCast]at p4;have hq:=kh q (List.mem_of_getElem? p4);have er:bW Ks cap x=dZ q.k q.tg q.ky q.sl q.tx q.sub x cap:=by simp[bW,p4]
 have p6:ak h2 bk ok' 6=some q.part:=by
  let⟨b',o',e1,_,g2⟩:=Sl.ix (Recs.fr rk F02) .u8 (x.type:Int) oM oM;rw[p1]at e1;cases e1;simp only[ak]at p3⊢;cases cc:c9 h2 bk with
  |none=>rw[cc]at p3;cases p3
  |some C=>
   rw[cc]at p3;simp only[bq]at p3⊢;have hl:9≤(C.drop ok').length:=by
    obtain z|z:=Nat.lt_or_ge (C.drop ok').length 9;exfalso;have tk:∀(n:Nat)(l:List V),l.length<n→cT n l=none:=by
     intro n;induction n with
     |zero=>intro l hl;omega
     |succ n ih=>
      intro l hl;cases l with
      |nil=>rfl
      |cons a l=>rw[eK,ih l (eV hl)];rfl
    rw[tk 9 _ z]at p3;cases p3;exact z
   rw[aZ _ _ hl]at p3;rw[aZ _ _ oM];have p3':=Option.some.inj p3;have:(C.drop ok').take 6=((C.drop ok').take 9).take 6:=by grind
   rw[this,p3'];rfl
 refine ab ?_;simp only[evs,seval,eff,←e_h1,←e_h2,l0,x1,p1,p6,x4,l1];refine aa (sw (vs:=q.vs) (vp:=q.vp) F_h2.wf (hq.fr F02) (a.fr F02)) ?_;rintro _ h3 ⟨cs,rfl,F3,z1,z2⟩;have on:av cs=true∧cs.length=6:=by by_cases z:dZ q.k q.tg q.ky q.sl q.tx q.sub x cap=0;obtain⟨s,va,vc,rfl,n,_⟩:=z2 z;exact⟨NH.ones (n [] h3 iS (Fr.refl F3.wf)),rfl⟩;rw[z1 z];exact⟨rfl,rfl⟩
 have oz3:=F3.get o_h2;simp only[evs,seval,eff];refine ai (c':=cs) F3.wf oz3 on.2 on.1 (by
  rw[cD _ _ _ (by show 0+cs.length≤6;omega)];simp[V.cells];omega) ?_
 rintro h4 o4 F4 n4;have l4:ak h4 h1.next 0 6=some cs:=by rw[o4.ld,eP,aZ _ _ oM,List.take_of_length_le oM]
 simp only[evs,seval,DF,eff,l0,x1,p6,x4,l1,l4];refine⟨cs,by rw[er],(F02.then F3).fresh F4 w oM,on.1,on.2,fun z=>?_⟩;rw[er]at z;let⟨s,va,vc,e,n,es⟩:=z2 z;refine⟨q,s,va,vc,p4,e,fun X hh hX f=>n ([h1.next]++X) hh (fun y m=>?_) (Fr.trans F4 f F3.wf (fun y m=>.inl (List.mem_append.2 (.inl m))) (fun y m=>.inl (List.mem_append.2 (.inr m)))),es,oG z⟩;have:=F_h2.next;have n2:=hnx e_h2;obtain m|m:=List.mem_append.1 m;simp at m;omega;grind
theorem xX{h:Heap}{b:Nat}{Ks:List Knd}{cap:Int}{x:Itm}(w:WF h)(r:RulesAt h b Ks cap)(a:ItmH h x)(ht:x.type<Ks.length):
 aj go 52 [.ptr b 0,.agg x.cells] h fun u h'=>∃cs,u=.tup [.agg cs,.int .i64 (bW Ks cap x)]∧Fr [] h h'∧av cs=true∧cs.length=6:=by
 apply OQ.mono (vS w r a ht);rintro _ h' ⟨cs,e,f,o,l,_⟩;exact⟨cs,e,f,o,l⟩
end Go.Ev.Lay
