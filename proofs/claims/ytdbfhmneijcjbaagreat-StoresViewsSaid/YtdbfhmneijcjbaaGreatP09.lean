/- An evaluator of the program, and contracts over it: StaB to LaySl. -/
import Derived.Test.YtdbfhmneijcjbaaGreatP04
import Derived.Test.YtdbfhmneijcjbaaGreatP07
import Derived.Test.YtdbfhmneijcjbaaGreatP08
set_option linter.unusedSimpArgs false
set_option linter.unusedVariables false
set_option linter.constructorNameAsVariable false
set_option linter.unnecessarySimpa false
namespace Go.Ev.Lay
set_option maxRecDepth 4000
def vn(x:Itm)(s:Slo):Str:=if s.2.1=0 then s.2.2 else if s.2.1=1 then x.text else if s.2.1=2 then dec x.key else dec x.marks.length
def att(x:Itm)(s:Slo):Str×Str:=(s.1,vn x s)
theorem kj{h:Heap}{z:Str}(w:WF h):ao go 250 [.str z] h fun u h'=>u=.agg [.int .u8 2,.str [],.str [],.nils,.str z,.nils]∧Fr [] h h':=by
 obtain⟨h1,e_h1⟩:∃h1,h1=halloc h [.int .u8 0,.str [],.str [],.nils,.str [],.nils]:=⟨_,rfl⟩;have F_h1:Fr [] h h1:=e_h1▸Fr.halloc w _;have o_h1:Own h1 h.next [.int .u8 0,.str [],.str [],.nils,.str [],.nils]:=e_h1▸Own.new w _;refine ah rfl rfl ?_;simp only[fn250,evs,seval,←e_h1];refine ab (c':=[.int .u8 2,.str [],.str [],.nils,.str z,.nils]) F_h1.wf o_h1 rfl rfl rfl ?_;rintro h2 o2 F2 n2;have l:=o2.at6.2.2.2.2.2.2;simp only[evs,seval,l];exact F_h1.fresh F2 w (Nat.le_refl _)
theorem BJ{h:Heap}{x:Itm}{v:V}{l:List Slo}(w:WF h)(a:ItmH h x)(r:Recs pC 3 h v l)(nl:l.length≤4096)(h3:∀s∈l,s.2.1≤3):
 ao go 276 [.agg x.cells,v] h fun u h'=>∃b,h.next≤b∧TbC 2 h' u b ((l.map (att x)).flatMap dU) l.length∧Fr [] h h':=by
 have kx:=a.k;have nx:=a.n;obtain⟨h1,e_h1⟩:∃h1,h1=halloc h x.cells:=⟨_,rfl⟩;have F_h1:Fr [] h h1:=e_h1▸Fr.halloc w _;have o_h1:Own h1 h.next x.cells:=e_h1▸Own.new w _;have n1:h1.next=h.next+1:=by rw[e_h1];rfl
 refine ah rfl rfl ?_;simp only[fn276,evs,seval,←e_h1,r.len];refine(gw _ _ _ _ _ _ _ _ (by omega) (by omega) (by omega) (by omega)).2 ?_;simp only[Int.toNat_natCast];obtain⟨h2,e_h2⟩:∃h2,h2=halloc h1 (bu [.str [],.str []] l.length):=⟨_,rfl⟩;have F_h2:Fr [] h1 h2:=e_h2▸Fr.halloc F_h1.wf _;have o_h2:Own h2 h1.next (bu [.str [],.str []] l.length):=e_h2▸Own.new F_h1.wf _;have ln:(bu [V.str [],V.str []] l.length).length=l.length*2:=eJ _ _;rw[←e_h2];clear e_h2;generalize bu [V.str [],V.str []] l.length=Z at ln o_h2;simp only[evs,seval,r.len];refine aC (fun n env hh=>Fr [] h hh∧Fr [] h1 hh∧∃(i:Nat)(C:List V),env.get 13=some (.int .i64 i)∧env.get 12=some (.int .i64 l.length)∧env.get 11=some v∧env.get 5=some (.slice h1.next 0 l.length l.length)∧env.get 2=some (.ptr h.next 0)∧
  i≤l.length∧Own hh h1.next C∧C.length=l.length*2∧C.take (i*2)=((l.take i).map (att x)).flatMap dU∧n=l.length-i) l.length (by omega) ?_ ?_
 ·exact⟨F_h1.then F_h2,F_h2,0,Z,(by simp),(by simp),(by simp),(by simp),(by simp),by omega,o_h2,ln,by simp,rfl⟩
 ·rintro n env hh ⟨F,F1,i,C,g13,g12,g11,g5,g2,hi,oC,lC,eC,rfl⟩;by_cases hlt:i<l.length
  ·have hlt':(i:Int)<l.length:=by omega
   obtain⟨b',o',s,p1,p2,p3,p4⟩:=(r.fr F).ix eG .i64 (i:Int) (by omega) hlt';rw[Int.toNat_natCast]at p4;have s3:=h3 s (List.mem_of_getElem? p4);obtain⟨h3,e_h3⟩:∃h3,h3=halloc hh [.str [],.int .u8 0,.str []]:=⟨_,rfl⟩;have F_h3:Fr [] hh h3:=e_h3▸Fr.halloc F.wf _;have o_h3:Own h3 hh.next [.str [],.int .u8 0,.str []]:=e_h3▸Own.new F.wf _;simp only[evs,seval,g13,g12,g11,hlt',p1,p3,←e_h3];refine ab (c':=[.str s.1,.int .u8 (s.2.1:Int),.str s.2.2]) F_h3.wf o_h3 rfl rfl rfl ?_;rintro h4 o4 F4 n4;have F04:Fr [] hh h4:=F_h3.fresh F4 F.wf (Nat.le_refl _);have ox:=F04.get (F1.get o_h1);have u0:ag h4 hh.next 0=some (.str s.1):=o4.ld1 0;have u1:ag h4 hh.next 1=some (.int .u8 (s.2.1:Int)):=o4.ld1 1;have u2:ag h4 hh.next 2=some (.str s.2.2):=o4.ld1 2;have x0:ag h4 h.next 0=some (.int .u64 (x.key:Int)):=ox.ld1 0;have x2:ag h4 h.next 2=some (.str x.text):=ox.ld1 2;have x3:ag h4 h.next 3=some x.vm:=ox.ld1 3;simp only[evs,seval,eff,g5,g2,u0,u2,x2,x0];refine aa (j6 F04.wf kx) ?_;rintro _ h5 ⟨rfl,F5⟩;have v0:ag h5 hh.next 0=some (.str s.1):=(F5.get o4).ld1 0;have v1:ag h5 hh.next 1=some (.int .u8 (s.2.1:Int)):=(F5.get o4).ld1 1;have v2:ag h5 hh.next 2=some (.str s.2.2):=(F5.get o4).ld1 2;have y2:ag h5 h.next 2=some (.str x.text):=(F5.get ox).ld1 2;have y3:ag h5 h.next 3=some x.vm:=(F5.get ox).ld1 3;have cv:bC .u64 (x.marks.length:Int)=(x.marks.length:Int):=cP _ (by omega) (by omega);simp only[evs,seval,eff,g2,y3,a.m.len,cv];refine aa (j6 F5.wf (by omega)) ?_;rintro _ h6 ⟨rfl,F6⟩;have F06:=(F04.then F5).then F6;have w0:ag h6 hh.next 0=some (.str s.1):=(F6.get (F5.get o4)).ld1 0;have w1:ag h6 hh.next 1=some (.int .u8 (s.2.1:Int)):=(F6.get (F5.get o4)).ld1 1;have w2:ag h6 hh.next 2=some (.str s.2.2):=(F6.get (F5.get o4)).ld1 2;have z2:ag h6 h.next 2=some (.str x.text):=(F6.get (F5.get ox)).ld1 2;have z3:ag h6 h.next 3=some x.vm:=(F6.get (F5.get ox)).ld1 3;have pk:aP (.ixarr 4 1 false) [.agg [.str s.2.2,.str x.text,.str (dec x.key),.str (dec x.marks.length)],.int .u8 (s.2.1:Int)]=some (.str (vn x s)):=by
    rw[BZ _ _ _ _ (by omega)];have:s.2.1=0∨s.2.1=1∨s.2.1=2∨s.2.1=3:=by omega
    rcases this with e|e|e|e<;>(rw[e];simp only[vn,e];rfl)
   have ix:=fC 2 h1.next 0 l.length l.length .i64 (i:Int) (by omega) hlt';simp only[Int.toNat_natCast,Nat.zero_add]at ix;simp only[evs,seval,eff,w1,pk,ix];refine ab (c':=C.take (i*2)++dU (att x s)++C.drop (i*2+2)) F6.wf (F06.get oC) rfl rfl (bE C (i*2) (dU (att x s)) (by show i*2+2≤C.length;omega)) ?_;rintro h7 o7 F7 n7;have F17:Fr [] h h7:=(F.then F06).fresh F7 w (by omega);have F27:Fr [] h1 h7:=(F1.then F06).fresh F7 F_h1.wf (Nat.le_refl _);have fin:(C.take (i*2)++dU (att x s)++C.drop (i*2+2)).take ((i+1) *2)=((l.take (i+1)).map (att x)).flatMap dU:=by
    have:(C.take (i*2)++dU (att x s)).length=(i+1) *2:=by rw[List.length_append,cM,List.length_take];omega
    rw[←this,List.take_left,eC,List.take_add_one,p4];simp
   simp(disch:=omega) only[evs,seval,DF,ai,g13,u0,u1,u2,x0,x2,x3,v0,v1,v2,y2,y3,w0,w1,w2,z2];refine(aj _ _ _).2 ⟨l.length-(i+1),by omega,F17,F27,i+1,_,(by simp),(by simp[g12]),(by simp[g11]),(by simp[g5]),(by simp[g2]),by omega,o7,by simp[dU];omega,fin,rfl⟩
   done
  ·simp only[evs,seval,g13,g12,g5,show¬(i:Int)<l.length by omega];rw[List.take_of_length_le (by omega),List.take_of_length_le (by omega)]at eC;subst eC;exact⟨h1.next,by omega,⟨by rw[lC],.inr ⟨rfl,oC⟩⟩,F⟩
theorem u9{e:Nat}{h:Heap}{v:V}{n:Nat}{cs:List V}(he:0<e)(a:Sl h e v n cs)(hv:v≠.sliceE):
 ∃u,aP (.sl none e false true true) [v,.int .i64 (n:Int),.int .i64 (n:Int)]=some u∧Sl h e u n cs∧u≠.sliceE:=by
 obtain⟨hl,a⟩:=a;have q:∀y,n≤y→aR n y false true true [.int .i64 (n:Int),.int .i64 (n:Int)]=some (0,n,some n):=fun y hy=>by
  simp only[aR,bG .i64 (n:Int) y (by omega) (by omega),bG .i64 (n:Int) n (by omega) (by omega),Option.bind_some,Option.map_some,Int.toNat_natCast]
 cases v with
 |nils=>
  have a:n=0:=a;subst a;exact⟨.nils,by simp only[aP,dt,q 0 (Nat.le_refl _),Option.map_some],⟨hl,rfl⟩,by simp⟩
 |slice b o len cap=>
  obtain⟨rfl,h2,c,hc,h3,e3⟩:=a;refine⟨.slice b (bif Nat.beq len 0 then o else o+0*e) (len-0) (len-0),by simp only[aP,dt,q cap h2,Option.map_some,Option.getD_some],⟨hl,rfl,Nat.le_refl _,c,hc,?_⟩,by simp⟩;by_cases c0:len=0
  ·rw[fT c0];exact⟨h3,e3⟩
  ·rw[ef c0];simp only[cond_false,Nat.zero_mul,Nat.add_zero];exact⟨h3,e3⟩
 |sliceU b o len e'=>
  obtain⟨rfl,rfl,c,hc,h3,e3⟩:=a;refine⟨.slice b (bif Nat.beq len 0 then o else o+0*e') (len-0) (len-0),by simp only[aP,dt,fT (rfl:e'=e'),(Nat.blt_eq ..).mpr he,Bool.and_self,cond_true,q len (Nat.le_refl _),Option.bind_some],⟨hl,rfl,Nat.le_refl _,c,hc,?_⟩,by simp⟩;by_cases c0:len=0
  ·rw[fT c0];exact⟨h3,e3⟩
  ·rw[ef c0];simp only[cond_false,Nat.zero_mul,Nat.add_zero];exact⟨h3,e3⟩
 |sliceE=>exact absurd rfl hv
 |_=>exact a.elim
theorem BB{h:Heap}{v:V}{n:Nat}{cs:List V}(a:Sl h 6 v n cs)(hv:v≠.sliceE):ao go 277 [v] h fun u h'=>(∀h2,Sl h2 6 v n cs→Sl h2 6 u n cs)∧u≠.sliceE∧h=h':=by
 obtain⟨u,e,s,ne⟩:=u9 (by omega) a hv;refine ah rfl rfl ?_;simp only[fn277,evs,seval,a.len,e];refine⟨fun h2 a2=>?_,ne⟩;obtain⟨u2,e2,s2,_⟩:=u9 (by omega) a2 hv;rw[e]at e2;cases e2;exact s2
theorem oO{h:Heap}{x:Itm}{v:V}{k:Nat}{tg ky tx key:Str}{l:List Slo}{vs vp:V}{n:Nat}{cs:List V}(w:WF h)(a:ItmH h x)(r:Recs pC 3 h vs l)(nl:l.length≤4096)(h3:∀s∈l,s.2.1≤3)
 (vp1:vp.one=true) (c:Sl h 6 v n cs) (hv:v≠.sliceE):
 ao go 249 [.agg x.cells,.agg [.int .u8 (k:Int),.str tg,.str ky,vs,.str tx,vp],.str key,v] h fun u h'=>∃va vc ba,u=.agg [.int .u8 1,.str tg,.str key,va,.str [],vc]∧h.next≤ba∧TbC 2 h' va ba ((l.map (att x)).flatMap dU) l.length∧(∀h2,Sl h2 6 v n cs→Sl h2 6 vc n cs)∧vc.one=true∧Fr [] h h':=by
 obtain⟨h1,e_h1⟩:∃h1,h1=halloc h x.cells:=⟨_,rfl⟩;have F_h1:Fr [] h h1:=e_h1▸Fr.halloc w _;have o_h1:Own h1 h.next x.cells:=e_h1▸Own.new w _;obtain⟨h2,e_h2⟩:∃h2,h2=halloc h1 [.int .u8 (k:Int),.str tg,.str ky,vs,.str tx,vp]:=⟨_,rfl⟩;have F_h2:Fr [] h1 h2:=e_h2▸Fr.halloc F_h1.wf _;have o_h2:Own h2 h1.next [.int .u8 (k:Int),.str tg,.str ky,vs,.str tx,vp]:=e_h2▸Own.new F_h1.wf _;obtain⟨h3',e_h3'⟩:∃h3',h3'=halloc h2 [.int .u8 0,.str [],.str [],.nils,.str [],.nils]:=⟨_,rfl⟩;have F_h3':Fr [] h2 h3':=e_h3'▸Fr.halloc F_h2.wf _;have o_h3':Own h3' h2.next [.int .u8 0,.str [],.str [],.nils,.str [],.nils]:=e_h3'▸Own.new F_h2.wf _;have n1:h1.next=h.next+1:=by rw[e_h1];rfl
 have n2:h2.next=h1.next+1:=by rw[e_h2];rfl
 have F03:=(F_h1.then F_h2).then F_h3';have ox:=F_h3'.get (F_h2.get o_h1);have op:=F_h3'.get o_h2;have t1:ag h3' h1.next 1=some (.str tg):=op.ld1 1;have t3:ag h3' h1.next 3=some vs:=op.ld1 3;have x4:ak h3' h.next 0 4=some x.cells:=by rw[ox.ld];rfl
 refine ah rfl rfl ?_;simp only[fn249,evs,seval,eff,←e_h1,←e_h2,←e_h3',t1,t3,x4];refine aa (BJ F_h3'.wf (a.fr F03) (r.fr F03) nl h3) ?_;rintro va h4 ⟨ba,hba,ta,F4⟩;have t1':ag h4 h1.next 1=some (.str tg):=(F4.get op).ld1 1;simp only[evs,seval,eff];refine aa (BB (c.fr (F03.then F4)) hv) ?_;rintro vc _ ⟨scA,_,rfl⟩;have sc:=scA _ (c.fr (F03.then F4));simp only[evs,seval,eff,aB ta.one,aB sc.one];refine ab (c':=[.int .u8 1,.str tg,.str key,va,.str [],vc]) F4.wf (F4.get o_h3') rfl (by simp only[V.cells,aA,aF,ta.one,sc.one];rfl) rfl ?_;rintro h5 o5 F5 n5;have l6:=o5.at6.2.2.2.2.2.2;have F05:Fr [] h h5:=(F03.then F4).fresh F5 w (by omega);simp only[evs,seval,DF,t1,t1',t3,x4,l6];have n3:h3'.next=h2.next+1:=by rw[e_h3'];rfl
 exact⟨va,vc,ba,rfl,by omega,ta.fr F5 (by simp;omega),scA,sc.one,F05⟩
theorem _root_.Go.Ev.Gs.append1{h:Heap}{B esz bytes:Nat}{v x:V}{cs xs:List V}{n:Nat}(w:WF h)(a:Gs h B esz v cs)(s:Sl h esz x n xs)(he:0<esz)(hn:n≠0)(ho:aq xs=true)(hB:B≤h.next)
 (hsz:(2*(cs.length+n)+1024) *bytes≤281474976710656) {K:V→Heap→Prop} (k:∀v' h',Gs h' B esz v' (cs++xs)→vb v'=[h.next]→Fr (vb v) h h'→K v' h'):OQ (jD h esz bytes v x) K:=by
 unfold jD;rw[s.srcLen];simp only[]
 ·rw[ef hn,cond_false,s.srcCells];simp only[];rcases a with⟨rfl,rfl⟩|⟨b,m,rfl,hm,hm0,hb,o⟩
  ·simp only[pp];have:Nat.ble ((2*n+1024) *bytes) 281474976710656=true:=by
    rw[Nat.ble_eq];simpa using hsz
   rw[this,cond_true];refine(bZ _ _ _).2 (k _ _ (.inr ⟨h.next,n,rfl,by simpa using s.1,by omega,hB,by simpa using Own.new w xs⟩) rfl (Fr.halloc w xs))
  ·have hle:(2*(m+n)+1024) *bytes≤(2*(cs.length+n)+1024) *bytes:=by
    refine Nat.mul_le_mul_right _ ?_;have:m≤cs.length:=by rw[hm];exact Nat.le_mul_of_pos_right m he
    omega
   have h1:(Nat.beq esz esz&&Nat.ble ((2*(m+n)+1024) *bytes) 281474976710656)=true:=by
    simp only[Nat.beq_refl,Bool.true_and,Nat.ble_eq];omega
   simp only[h1,cond_true,o.cells];have hmn:(m+n) *esz=m*esz+n*esz:=Nat.add_mul _ _ _;have hpos:0<n*esz:=Nat.mul_pos (by omega) he;rw[wD (show¬0+(m+n) *esz≤cs.length by omega),cond_false];have h2:(Nat.ble (0+m*esz) cs.length&&aq xs)=true:=by simp only[ho,Bool.and_true,Nat.ble_eq];omega
   simp only[h2,cond_true,bV,aU cs (m*esz) (by omega)];obtain⟨h',e,o',f⟩:=qi (pos:=0+m*esz) (c':=cs.take (m*esz)++xs) w o;rw[e];simp only[Option.map_some];refine(bZ _ _ _).2 (k _ _ (.inr ⟨h.next,m+n,rfl,by simp[s.1];omega,by omega,hB,?_⟩) rfl f);rwa[List.take_of_length_le (by omega)]at o'
inductive ST where
 |nil
 |cons (kind:Nat) (tag key:Str) (attrs:List (Str×Str)) (text:Str) (sub next:ST)
namespace ST
def app:ST→ST→ST
 |nil,t=>t
 |cons k tg ky a tx sub nx,t=>cons k tg ky a tx sub (nx.app t)
theorem app_nil:∀t:ST,t.app nil=t
 |nil=>rfl
 |cons _ _ _ _ _ _ nx=>by simp only[app,app_nil nx]
theorem app_assoc:∀a b c:ST,(a.app b).app c=a.app (b.app c)
 |nil,_,_=>rfl
 |cons _ _ _ _ _ _ nx,b,c=>by simp only[app,app_assoc nx b c]
def len:ST→Nat
 |nil=>0
 |cons _ _ _ _ _ _ nx=>nx.len+1
def keys:ST→List Str
 |nil=>[]
 |cons _ _ ky _ _ _ nx=>ky::nx.keys
def alone(k:Nat)(tg ky:Str)(at':List (Str×Str))(tx:Str)(sub:ST):Bool:=
 if k=2 then okT tx&&(tg==[]&&(ky==[]&&(decide (at'.length=0)&&decide (sub.len=0))))
 else decide (k=1)&&(okN tg&&((ky==[]||okN ky)&&(tx==[]&&(decide (at'.length≤8)&&(decide (sub.len≤16)&&(cY none at'&&eO [] sub.keys))))))
def node(k:Nat)(tg ky:Str)(at':List (Str×Str))(tx:Str)(sub:ST)(w:Nat→Nat→Nat×Bool)(l c:Nat):Nat×Bool:=
 if 6<l∨64<c+1∨alone k tg ky at' tx sub=false then(c+1,false)else w (l+1) (c+1)
def walk:ST→Nat→Nat→Nat×Bool
 |nil,_,c=>(c,true)
 |cons k tg ky at' tx sub nx,l,c=>let r:=node k tg ky at' tx sub sub.walk l c;if r.2=true then nx.walk l r.1 else r
def count(k:Nat)(tg ky:Str)(at':List (Str×Str))(tx:Str)(sub:ST):Nat:=
 if(node k tg ky at' tx sub sub.walk 1 0).2=true then(node k tg ky at' tx sub sub.walk 1 0).1 else 0
end ST
namespace NT
def sh:NT→ST
 |nil=>.nil
 |cons k tg ky a tx _ _ sub nx=>.cons k tg ky a tx sub.sh nx.sh
def app:NT→NT→NT
 |nil,t=>t
 |cons k tg ky a tx va vc sub nx,t=>cons k tg ky a tx va vc sub (nx.app t)
theorem app_sh:∀a b:NT,(a.app b).sh=a.sh.app b.sh
 |nil,_=>rfl
 |cons _ _ _ _ _ _ _ _ nx,b=>by simp only[app,sh,ST.app,app_sh nx b]
theorem app_len:∀a b:NT,(a.app b).len=a.len+b.len
 |nil,b=>by simp[app,len]
 |cons _ _ _ _ _ _ _ _ nx,b=>by simp only[app,len,app_len nx b];omega
theorem app_cells:∀a b:NT,(a.app b).cells=a.cells++b.cells
 |nil,_=>rfl
 |cons _ _ _ _ _ _ _ _ nx,b=>by simp only[app,cells,app_cells nx b,List.append_assoc]
theorem sh_len:∀t:NT,t.sh.len=t.len
 |nil=>rfl
 |cons _ _ _ _ _ _ _ _ nx=>by simp only[sh,len,ST.len,sh_len nx]
theorem sh_keys:∀t:NT,t.sh.keys=t.keys
 |nil=>rfl
 |cons _ _ _ _ _ _ _ _ nx=>by simp only[sh,keys,ST.keys,sh_keys nx]
theorem tH(k:Nat)(tg ky:Str)(at':List (Str×Str))(tx:Str)(sub:NT):ST.alone k tg ky at' tx sub.sh=fy k tg ky at' tx sub:=by
 simp only[ST.alone,fy,sh_len,sh_keys]
theorem rQ:∀(t:NT)(l c:Nat),t.sh.walk l c=t.walk l c
 |nil,_,_=>rfl
 |cons k tg ky at' tx _ _ sub nx,l,c=>by
  have e1:ST.node k tg ky at' tx sub.sh sub.sh.walk l c=node k tg ky at' tx sub sub.walk l c:=by
   unfold ST.node node;rw[tH,rQ sub]
  show(let r:=ST.node k tg ky at' tx sub.sh sub.sh.walk l c;if r.2=true then nx.sh.walk l r.1 else r)=_;rw[e1];simp only[walk,rQ nx]
theorem sh_count(k:Nat)(tg ky:Str)(at':List (Str×Str))(tx:Str)(sub:NT):ST.count k tg ky at' tx sub.sh=count k tg ky at' tx sub:=by
 have e1:ST.node k tg ky at' tx sub.sh sub.sh.walk 1 0=node k tg ky at' tx sub sub.walk 1 0:=by
  unfold ST.node node;rw[tH,rQ sub]
 unfold ST.count count;rw[e1]
end NT
theorem NH.app{h:Heap}:∀{a b:NT},NH h a→NH h b→NH h (a.app b)
 |.nil,_,_,q=>q
 |.cons _ _ _ _ _ _ _ _ _,_,⟨x1,x2,x3,x4,x5,x6,x7⟩,q=>⟨x1,x2,x3,x4,x5,x6,NH.app x7 q⟩
def fa(z:Str):ST:=.cons 2 [] [] [] z .nil .nil
def hU(tg:Str)(a:List (Str×Str)):List Str→ST
 |[]=>.nil
 |m::ms=>.cons 1 tg m a [] (fa m) (hU tg a ms)
def jU(x:Itm)(k:Nat)(tg ky:Str)(sl:List Slo)(tx:Str)(sub:ST):ST:=
 if k=1 then .cons 1 tg ky (sl.map (att x)) [] sub .nil
 else if k=2 then fa tx
 else if k=3 then fa x.text
 else if k=4 then fa (dec x.key)
 else if k=5 then hU tg (sl.map (att x)) x.marks
 else .nil
def bK(x:Itm):PT→ST
 |.nil=>.nil
 |.cons k tg ky sl tx _ _ sub nx=>(jU x k tg ky sl tx (bK x sub)).app (bK x nx)
def TG:PT→Prop
 |.nil=>True
 |.cons _ _ _ sl _ _ _ sub nx=>(∀s∈sl,s.2.1≤3)∧sub.len≤16∧TG sub∧TG nx
theorem TG.at':∀{t:PT}(i:Nat),TG t→TG (t.at' i)
 |.nil,0,_=>trivial
 |.nil,_+1,_=>trivial
 |.cons _ _ _ _ _ _ _ _ _,0,a=>a
 |.cons _ _ _ _ _ _ _ _ _,i+1,⟨_,_,_,g⟩=>TG.at' i g
theorem uT(tg:Str)(a:List (Str×Str)):∀ms:List Str,(hU tg a ms).len=ms.length
 |[]=>rfl
 |m::ms=>by simp[hU,ST.len,uT tg a ms]
theorem C3(x:Itm)(k:Nat)(tg ky:Str)(sl:List Slo)(tx:Str)(sub:ST)(hm:x.marks.length≤8):(jU x k tg ky sl tx sub).len≤8:=by
 unfold jU;split
 ·simp[ST.len]
 split
 ·simp[fa,ST.len]
 split
 ·simp[fa,ST.len]
 split
 ·simp[fa,ST.len]
 split
 ·rw[uT];exact hm
 ·simp[ST.len]
def Inv(v:V)(n0:Nat)(h:Heap)(s:NT):Prop:=∀(X:List Nat)(h':Heap),(∀x∈X,x<n0∨x∈vb v)→Fr X h h'→NH h' s
theorem Inv.fr{v:V}{n0:Nat}{h h':Heap}{s:NT}(I:Inv v n0 h s)(w:WF h)(f:Fr [] h h'):Inv v n0 h' s:=fun X h2 hx f2=>
 I X h2 hx (Fr.trans f f2 w (by simp) (fun x hx=>.inl hx))
theorem Inv.nh{v:V}{n0:Nat}{h:Heap}{s:NT}(I:Inv v n0 h s)(w:WF h):NH h s:=I [] h (by simp) (Fr.refl w)
theorem iX{h:Heap}{n0 B k:Nat}{vo:V}{s sub:NT}{tg ky tx:Str}{at':List (Str×Str)}{va vc:V}{K:V→Heap→Prop}(w:WF h)(g:Gs h B 6 vo s.cells)(hB:B≤h.next)(h0:n0≤h.next)(I:Inv vo n0 h s)
 (N:∀(X:List Nat)(h':Heap),(∀x∈X,x<n0∨x∈vb vo)→Fr X h h'→NH h' (.cons k tg ky at' tx va vc sub .nil)) (hl:s.len≤1000)
 (hk:∀v' h',Gs h' B 6 v' (s.app (.cons k tg ky at' tx va vc sub .nil)).cells→Inv v' n0 h' (s.app (.cons k tg ky at' tx va vc sub .nil))→Fr (vb vo) h h'→(∀y∈vb v',h.next≤y)→K v' h'):
 OQ (jD (halloc h [.int .u8 (k:Int),.str tg,.str ky,va,.str tx,vc]) 6 104 vo (.slice h.next 0 1 1)) K:=by
 have n1:=N [] h (by simp) (Fr.refl w);have on:=NH.ones n1;have F1:=Fr.halloc w [.int .u8 (k:Int),.str tg,.str ky,va,.str tx,vc];have o1:=Own.new w [.int .u8 (k:Int),.str tg,.str ky,va,.str tx,vc];have cl:=s.cells_len;have vlt:∀x∈vb vo,x<h.next:=by
  rcases g with⟨rfl,_⟩|⟨b,n,rfl,_,_,_,o⟩
  ·simp[vb]
  ·have:=o.lt w;simp only[vb,List.mem_singleton];rintro x rfl;exact this
 refine Gs.append1 (n:=1) F1.wf (g.fr F1) (Sl.lit o1 rfl) (by omega) (by omega) on (Nat.le_trans hB F1.next) (by rw[cl];omega) ?_;intro v' h' g' e' F';have F:Fr (vb vo) h h':=Fr.trans F1 F' w (by simp) (fun x hx=>.inl hx);refine hk v' h' ?_ ?_ F (by rw[e'];simp only[List.mem_singleton];rintro y rfl;exact F1.next)
 ·rw[NT.app_cells];exact g'
 ·intro X h2 hX f2;have f3:Fr (vb vo++X.filter (fun x=>decide (x<n0))) h h2:=by
   refine Fr.trans F f2 w (fun x hx=>.inl (by simp[hx])) (fun x hx=>?_);rcases hX x hx with q|q
   ·exact .inl (by simp[hx,q])
   ·rw[e']at q;simp at q;exact .inr (by subst q;exact F1.next)
  have hX':∀x∈vb vo++X.filter (fun x=>decide (x<n0)),x<n0∨x∈vb vo:=by
   intro x hx;simp at hx;rcases hx with q|q
   ·exact .inr q
   ·exact .inl q.2
  exact NH.app (I _ h2 hX' f3) (N _ h2 hX' f3)
def MK(t:PT):Prop:=∀(x:Itm)(h:Heap)(v:V),WF h→ItmH h x→x.marks.length≤8→PH h t→TG t→t.len≤16→Sl h 6 v t.len t.cells→
 ao go 202 [.agg x.cells,v] h fun u h'=>∃s:NT,s.sh=bK x t∧Fr [] h h'∧u≠.sliceE∧s.len≤128∧∀(X:List Nat)(h2:Heap),(∀y∈X,y<h.next)→Fr X h' h2→NH h2 s∧Sl h2 6 u s.len s.cells
def MKs:PT→Prop
 |.nil=>True
 |.cons _ _ _ _ _ _ _ sub nx=>MK sub∧MKs nx
theorem MKs.at':∀{t:PT}(i:Nat),MKs t→MKs (t.at' i)
 |.nil,0,_=>trivial
 |.nil,_+1,_=>trivial
 |.cons _ _ _ _ _ _ _ _ _,0,a=>a
 |.cons _ _ _ _ _ _ _ _ _,i+1,⟨_,g⟩=>MKs.at' i g
theorem Gs.nE{h:Heap}{B e:Nat}{v:V}{cs:List V}(g:Gs h B e v cs):v≠.sliceE:=by
 rcases g with⟨rfl,_⟩|⟨b,n,rfl,_⟩<;>simp
theorem Gs.frX{h h':Heap}{B e:Nat}{v:V}{cs:List V}{X:List Nat}(g:Gs h B e v cs)(f:Fr X h h')(hx:∀x∈X,x<B):Gs h' B e v cs:=by
 rcases g with⟨rfl,rfl⟩|⟨b,n,rfl,h1,h2,h3,o⟩
 ·exact .inl ⟨rfl,rfl⟩
 ·exact .inr ⟨b,n,rfl,h1,h2,h3,f.own _ _ (fun m=>by have:=hx _ m;omega) o⟩
theorem vO{n0:Nat}{v:V}{h:Heap}(z:Str):∀(X:List Nat)(h':Heap),(∀x∈X,x<n0∨x∈vb v)→Fr X h h'→NH h' (.cons 2 [] [] [] z .nils .nils .nil .nil):=fun _ _ _ _=>i5 2 (by omega) [] z
theorem xd{t:PT}(M:MKs t):MK t:=by
 intro x h v w a hm pt tg hl sl;obtain⟨h1,e_h1⟩:∃h1,h1=halloc h x.cells:=⟨_,rfl⟩;have F_h1:Fr [] h h1:=e_h1▸Fr.halloc w _;have o_h1:Own h1 h.next x.cells:=e_h1▸Own.new w _;have n1:h1.next=h.next+1:=by rw[e_h1];rfl
 refine ah rfl rfl ?_;simp only[fn202,evs,seval,←e_h1,sl.len];refine aC (fun n env hh=>Fr [] h hh∧Fr [] h1 hh∧∃(i:Nat)(s:NT)(vo:V),env.get 12=some (.int .i64 i)∧env.get 11=some (.int .i64 t.len)∧env.get 10=some v∧env.get 5=some vo∧env.get 2=some (.ptr h.next 0)∧
  i≤t.len∧Inv vo h.next hh s∧Gs hh h1.next 6 vo s.cells∧s.sh.app (bK x (t.at' i))=bK x t∧s.len≤8*i∧n=t.len-i) t.len (by omega) ?_ ?_
 ·exact⟨F_h1,Fr.refl F_h1.wf,0,.nil,.nils,(by simp),(by simp),(by simp),(by simp),(by simp),by omega,fun _ _ _ _=>trivial,.inl ⟨rfl,rfl⟩,by cases t<;>rfl,by simp[NT.len],rfl⟩
 ·rintro n env hh ⟨F,F1,i,s,vo,g12,g11,g10,g5,g2,hi,I,G,e,sn,rfl⟩;by_cases hlt:i<t.len
  ·have hlt':(i:Int)<t.len:=by omega
   obtain⟨k,tgn,ky,sl',tx,vs,vp,sub,nx,e1,e2,e3,e4,e5,e6⟩:=t.split i hlt;have pti:=pt.at' i;have tgi:=tg.at' i;have Mi:=M.at' i;rw[e1]at pti tgi Mi e;obtain⟨pk,pr,pl,ps,pn,psub,_⟩:=pti;obtain⟨t3,tl,tsub,_⟩:=tgi;obtain⟨b',o',p1,p2⟩:=(sl.fr F).ix6 hlt e2;have on:aq [.int .u8 (k:Int),.str tgn,.str ky,vs,.str tx,vp]=true:=by
    simp only[aA,aF,Sl.one pr,Sl.one ps];rfl
   have vlt:∀y∈vb vo,y<hh.next:=by
    rcases G with⟨rfl,_⟩|⟨b,n,rfl,_,_,_,o⟩
    ·simp[vb]
    ·have:=o.lt F.wf;simp only[vb,List.mem_singleton];rintro y rfl;exact this
   obtain⟨h3,e_h3⟩:∃h3,h3=halloc hh [.int .u8 0,.str [],.str [],.nils,.str [],.nils]:=⟨_,rfl⟩;have F_h3:Fr [] hh h3:=e_h3▸Fr.halloc F.wf _;have o_h3:Own h3 hh.next [.int .u8 0,.str [],.str [],.nils,.str [],.nils]:=e_h3▸Own.new F.wf _;simp only[evs,seval,g12,g11,g10,hlt',p1,p2.2.2.2.2.2.2,←e_h3];refine ab (c':=[.int .u8 (k:Int),.str tgn,.str ky,vs,.str tx,vp]) F_h3.wf o_h3 rfl on rfl ?_;rintro h4 o4 F4 n4;have F04:Fr [] hh h4:=F_h3.fresh F4 F.wf (Nat.le_refl _);have q4:=o4.at6;have ox:=F04.get (F1.get o_h1);have x4:ak h4 h.next 0 4=some x.cells:=by rw[ox.ld];rfl
   have hn4:hh.next≤h4.next:=F04.next;have h1n:=F1.next;simp only[bK]at e;have fin:∀{env2:T V}{s2:NT}{v2:V}{h5:Heap},Fr [] h h5→Fr [] h1 h5→env2.get 12=some (.int .i64 ((i:Int)+1))→env2.get 11=some (.int .i64 t.len)→env2.get 10=some v→env2.get 5=some v2→env2.get 2=some (.ptr h.next 0)→
    Inv v2 h.next h5 s2→Gs h5 h1.next 6 v2 s2.cells→s2.sh=s.sh.app (jU x k tgn ky sl' tx (bK x sub))→
    ∃k',k'<t.len-i∧Fr [] h h5∧Fr [] h1 h5∧∃(i:Nat)(s:NT)(vo:V),env2.get 12=some (.int .i64 i)∧env2.get 11=some (.int .i64 t.len)∧env2.get 10=some v∧env2.get 5=some vo∧env2.get 2=some (.ptr h.next 0)∧
     i≤t.len∧Inv vo h.next h5 s∧Gs h5 h1.next 6 vo s.cells∧s.sh.app (bK x (t.at' i))=bK x t∧s.len≤8*i∧k'=t.len-i:=by
    intro env2 s2 v2 h5 f f1 a1 a2 a3 a4 a5 I2 G2 es;have ol:=C3 x k tgn ky sl' tx (bK x sub) hm;refine⟨t.len-(i+1),by omega,f,f1,i+1,s2,v2,a1,a2,a3,a4,a5,by omega,I2,G2,?_,?_,rfl⟩
    ·rw[es,e3,ST.app_assoc];exact e
    ·rw[←NT.sh_len,es];have:∀a b:ST,(a.app b).len=a.len+b.len:=by
      intro a b;induction a with
      |nil=>simp[ST.app,ST.len]
      |cons _ _ _ _ _ _ nx _ ih=>simp only[ST.app,ST.len,ih];omega
     rw[this,NT.sh_len];omega
   have l0:ag h4 hh.next 0=some (.int .u8 (k:Int)):=q4.1;have vge:∀y∈vb vo,h1.next≤y:=by
    rcases G with⟨rfl,_⟩|⟨b,n,rfl,_,_,hb,o⟩
    ·simp[vb]
    ·simp only[vb,List.mem_singleton];rintro y rfl;exact hb
   have F0:Fr [] h h4:=F.then F04;have F10:Fr [] h1 h4:=F1.then F04;have att_h:=a.fr F0;by_cases k1:k=1
   ·have ek:jU x k tgn ky sl' tx (bK x sub)=.cons 1 tgn ky (sl'.map (att x)) [] (bK x sub) .nil:=by subst k1;rfl
    have l2:ag h4 hh.next 2=some (.str ky):=q4.2.2.1;have l5:ag h4 hh.next 5=some vp:=q4.2.2.2.2.2.1;have l6:=q4.2.2.2.2.2.2;simp only[evs,seval,eff,g5,g2,l0,eq_true (show(k:Int)=1 by omega),x4,l6,l2,l5];refine aa (Mi.1 x h4 vp F04.wf att_h hm (psub.fr F0) tsub tl (ps.fr F0)) ?_;rintro u h5 ⟨s5,es5,F5,uE,s5l,st5⟩;have st0:=st5 [] h5 (by simp) (Fr.refl F5.wf);have x5:ak h5 h.next 0 4=some x.cells:=by rw[(F5.get ox).ld];rfl
    have r5:=(F5.get o4).at6;have m2:ag h5 hh.next 2=some (.str ky):=r5.2.2.1;have m6:=r5.2.2.2.2.2.2;simp only[evs,eff];refine aa (oO F5.wf (att_h.fr F5) (Recs.fr pr (F0.then F5)) pl t3 (Sl.one ps) st0.2 uE) ?_;rintro _ h6 ⟨va,vc,ba,rfl,hba,ta,scA,vc1,F6⟩;simp only[evs,seval,eff];have hn5:=F5.next;refine iX (k:=1) (sub:=s5) (at':=sl'.map (att x)) F6.wf (G.fr ((F04.then F5).then F6)) (by have:=F6.next;omega) (by have:=F6.next;omega) (I.fr F.wf ((F04.then F5).then F6)) ?_ (by omega) ?_
    ·intro X h' hX f;have hX':∀y∈X,y<h4.next:=fun y hy=>by
      rcases hX y hy with q|q
      ·omega
      ·have:=vlt y q;omega
     obtain⟨z1,z2⟩:=st5 X h' hX' (Fr.trans F6 f F5.wf (by simp) (fun y hy=>.inl hy));refine⟨by omega,?_,by simpa using pl,scA _ z2,by omega,z1,trivial⟩;have:=(ta.fr f (fun m=>by have:=hX' _ m;omega)).sl;show Sl h' 2 va (sl'.map (att x)).length _;rw[List.length_map];exact this
    intro v' h' G' I' F' V';simp(disch:=omega) only[evs,seval,DF,eff,ai,g12,g2,x4,l6,l2,l5,x5,m6,m2];refine(aj _ _ _).2 ?_;exact fin (Fr.new w ((F0.then F5).then F6) F' (fun y hy=>by have:=vge y hy;omega)) (Fr.new F_h1.wf ((F10.then F5).then F6) F' vge) (by simp) (by simp[g11]) (by simp[g10]) (by simp) (by simp[g2]) I' G' (by rw[ek,←es5];exact NT.app_sh _ _)
    done
   by_cases k2:k=2
   ·have ek:jU x k tgn ky sl' tx (bK x sub)=fa tx:=by subst k2;rfl
    simp only[evs,seval,g5,l0,show¬(k:Int)=1 by omega,eq_true (show(k:Int)=2 by omega),q4.2.2.2.2.1];refine aa (kj F04.wf) ?_;rintro _ h5 ⟨rfl,F5⟩;simp only[evs,seval];refine iX (k:=2) F5.wf (G.fr (F04.then F5)) (by have:=F5.next;omega) (by have:=F5.next;omega) (I.fr F.wf (F04.then F5)) (vO _) (by omega) ?_;intro v' h' G' I' F' V';simp(disch:=omega) only[evs,seval,ai,g12];refine(aj _ _ _).2 ?_;exact fin (Fr.new w (F0.then F5) F' (fun y hy=>by have:=vge y hy;omega)) (Fr.new F_h1.wf (F10.then F5) F' vge) (by simp) (by simp[g11]) (by simp[g10]) (by simp) (by simp[g2]) I' G' (by rw[ek];exact NT.app_sh _ _)
    done
   by_cases k3:k=3
   ·have ek:jU x k tgn ky sl' tx (bK x sub)=fa x.text:=by subst k3;rfl
    simp only[evs,seval,g5,g2,l0,show¬(k:Int)=1 by omega,show¬(k:Int)=2 by omega,eq_true (show(k:Int)=3 by omega),show ag h4 h.next 2=some (.str x.text)from ox.ld1 2];refine aa (kj F04.wf) ?_;rintro _ h5 ⟨rfl,F5⟩;simp only[evs,seval];refine iX (k:=2) F5.wf (G.fr (F04.then F5)) (by have:=F5.next;omega) (by have:=F5.next;omega) (I.fr F.wf (F04.then F5)) (vO _) (by omega) ?_;intro v' h' G' I' F' V';simp(disch:=omega) only[evs,seval,ai,g12];refine(aj _ _ _).2 ?_;exact fin (Fr.new w (F0.then F5) F' (fun y hy=>by have:=vge y hy;omega)) (Fr.new F_h1.wf (F10.then F5) F' vge) (by simp) (by simp[g11]) (by simp[g10]) (by simp) (by simp[g2]) I' G' (by rw[ek];exact NT.app_sh _ _)
    done
   by_cases k4:k=4
   ·have ek:jU x k tgn ky sl' tx (bK x sub)=fa (dec x.key):=by subst k4;rfl
    simp only[evs,seval,g5,g2,l0,show¬(k:Int)=1 by omega,show¬(k:Int)=2 by omega,show¬(k:Int)=3 by omega,eq_true (show(k:Int)=4 by omega),show ag h4 h.next 0=some (.int .u64 (x.key:Int))from ox.ld1 0];refine aa (j6 F04.wf a.k) ?_;rintro _ h4' ⟨rfl,F4'⟩;simp only[evs];refine aa (kj F4'.wf) ?_;rintro _ h5 ⟨rfl,F5'⟩;have F5:=F4'.then F5';simp only[evs,seval];refine iX (k:=2) F5.wf (G.fr (F04.then F5)) (by have:=F5.next;omega) (by have:=F5.next;omega) (I.fr F.wf (F04.then F5)) (vO _) (by omega) ?_;intro v' h' G' I' F' V';simp(disch:=omega) only[evs,seval,ai,g12];refine(aj _ _ _).2 ?_;exact fin (Fr.new w (F0.then F5) F' (fun y hy=>by have:=vge y hy;omega)) (Fr.new F_h1.wf (F10.then F5) F' vge) (by simp) (by simp[g11]) (by simp[g10]) (by simp) (by simp[g2]) I' G' (by rw[ek];exact NT.app_sh _ _)
    done
   by_cases k5:k=5
   ·have ek:jU x k tgn ky sl' tx (bK x sub)=hU tgn (sl'.map (att x)) x.marks:=by subst k5;rfl
    have l3:ag h4 h.next 3=some x.vm:=ox.ld1 3;simp only[evs,seval,g2,l0,show¬(k:Int)=1 by omega,show¬(k:Int)=2 by omega,show¬(k:Int)=3 by omega,show¬(k:Int)=4 by omega,eq_true (show(k:Int)=5 by omega),l3,a.m.len];refine aC (fun n env' hh'=>Fr [] h hh'∧Fr [] h1 hh'∧Own hh' hh.next [.int .u8 (k:Int),.str tgn,.str ky,vs,.str tx,vp]∧h4.next≤hh'.next∧∃(j:Nat)(s':NT)(v2:V),env'.get 65=some (.int .i64 j)∧env'.get 64=some (.int .i64 x.marks.length)∧env'.get 63=some x.vm∧env'.get 7=some (.ptr hh.next 0)∧
     env'.get 12=some (.int .i64 i)∧env'.get 11=some (.int .i64 t.len)∧env'.get 10=some v∧env'.get 5=some v2∧env'.get 2=some (.ptr h.next 0)∧j≤x.marks.length∧hh.next∉vb v2∧Inv v2 h.next hh' s'∧Gs hh' h1.next 6 v2 s'.cells∧
     s'.sh.app (hU tgn (sl'.map (att x)) (x.marks.drop j))=s.sh.app (hU tgn (sl'.map (att x)) x.marks)∧s'.len≤8*i+j∧n=x.marks.length-j) x.marks.length (by omega) ?_ ?_
    ·exact⟨F0,F10,o4,Nat.le_refl _,0,s,vo,(by simp),(by simp),(by simp),(by simp),(by simp[g12]),(by simp[g11]),(by simp[g10]),(by simp[g5]),(by simp[g2]),by omega,fun m=>by(have:=vlt _ m;omega),I.fr F.wf F04,G.fr F04,rfl,by omega,rfl⟩
    ·rintro n' env' hh' ⟨F0j,F1j,oj,hnj,j,s',v2,g65,g64,g63,g7,g12,g11,g10,g5,g2,hj,hnv,I2,G2,ej,sl2,rfl⟩;have oxj:=F1j.get o_h1;by_cases hjl:j<x.marks.length
     ·have hjl':(j:Int)<x.marks.length:=by omega
      obtain⟨b3,o3',mk,r1,r2,_,r4⟩:=(a.m.fr F0j).ix dW .i64 (j:Int) (by omega) hjl';have r2':ag hh' b3 o3'=some (.str mk):=r2 0 (by omega);rw[Int.toNat_natCast]at r4;rw[aJ r4]at ej;have v2ge:∀y∈vb v2,h1.next≤y:=by
       rcases G2 with⟨rfl,_⟩|⟨b,n,rfl,_,_,hb,o⟩
       ·simp[vb]
       ·simp only[vb,List.mem_singleton];rintro y rfl;exact hb
      have v2lt:∀y∈vb v2,y<hh'.next:=by
       rcases G2 with⟨rfl,_⟩|⟨b,n,rfl,_,_,_,o⟩
       ·simp[vb]
       ·have:=o.lt F0j.wf;simp only[vb,List.mem_singleton];rintro y rfl;exact this
      have ja:ak hh' h.next 0 4=some x.cells:=by rw[oxj.ld];rfl
      have jp:=oj.at6.2.2.2.2.2.2;simp only[evs,seval,eff,g65,g64,g63,g7,g5,g2,hjl',r1,r2',ja,jp];refine aa (kj F0j.wf) ?_;rintro _ h5 ⟨rfl,F5⟩;obtain⟨h6,e_h6⟩:∃h6,h6=halloc h5 [.int .u8 2,.str [],.str [],.nils,.str mk,.nils]:=⟨_,rfl⟩;have F_h6:Fr [] h5 h6:=e_h6▸Fr.halloc F5.wf _;have o_h6:Own h6 h5.next [.int .u8 2,.str [],.str [],.nils,.str mk,.nils]:=e_h6▸Own.new F5.wf _;have n6:h6.next=h5.next+1:=by rw[e_h6];rfl
      have ja5:ak h5 h.next 0 4=some x.cells:=by rw[(F5.get oxj).ld];rfl
      have jp5:=(F5.get oj).at6.2.2.2.2.2.2;have ja6:ak h6 h.next 0 4=some x.cells:=by rw[(F_h6.get (F5.get oxj)).ld];rfl
      have jp6:=(F_h6.get (F5.get oj)).at6.2.2.2.2.2.2;simp only[evs,seval,eff,←e_h6];have F06:=(F0j.then F5).then F_h6;have kid:Sl h6 6 (.slice h5.next 0 1 1) 1 (NT.cons 2 [] [] [] mk .nils .nils .nil .nil).cells:=Sl.lit o_h6 rfl;refine aa (oO F_h6.wf (a.fr F06) (Recs.fr pr F06) pl t3 (Sl.one ps) kid (by simp)) ?_;rintro _ h7 ⟨va,vc,ba,rfl,hba,ta,scA,vc1,F7⟩;simp only[evs,seval,eff];have hn5:=F5.next;have hn7:=F7.next;have Fj7:=(F5.then F_h6).then F7;refine iX (k:=1) (sub:=.cons 2 [] [] [] mk .nils .nils .nil .nil) (at':=sl'.map (att x)) F7.wf (G2.fr Fj7) (by omega) (by omega) (I2.fr F0j.wf Fj7) ?_ (by omega) ?_
      ·intro X h' hX f;have hX':∀y∈X,y<hh'.next:=fun y hy=>by
        rcases hX y hy with q|q
        ·omega
        ·exact v2lt y q
       have f2:Fr X h6 h':=Fr.trans F7 f F_h6.wf (by simp) (fun y hy=>.inl hy);have o':=f2.own _ _ (fun m=>by have:=hX' _ m;omega) o_h6;refine⟨by omega,?_,by simpa using pl,scA _ (Sl.lit o' rfl),by simp[NT.len],i5 2 (by omega) [] mk,trivial⟩;have:=(ta.fr f (fun m=>by have:=hX' _ m;omega)).sl;show Sl h' 2 va (sl'.map (att x)).length _;rw[List.length_map];exact this
      intro v' h' G' I' F' V';simp(disch:=omega) only[evs,seval,DF,eff,ai,g65,g7,g2,ja,jp,ja5,jp5,ja6,jp6];refine(aj _ _ _).2 ⟨x.marks.length-(j+1),by omega,Fr.new w (F0j.then Fj7) F' (fun y hy=>by have:=v2ge y hy;omega),Fr.new F_h1.wf (F1j.then Fj7) F' v2ge,F'.own _ _ hnv (Fj7.get oj),by have:=F'.next;omega,j+1,_,v',(by simp),(by simp[g64]),(by simp[g63]),(by simp[g7]),(by simp[g12]),(by simp[g11]),(by simp[g10]),(by simp),(by simp[g2]),by omega,fun m=>by(have:=V' _ m;omega),I',G',?_,?_,rfl⟩
      ·rw[NT.app_sh,ST.app_assoc];exact ej
      ·rw[NT.app_len];simp only[NT.len];omega
     ·simp(disch:=omega) only[evs,seval,ai,g65,g64,g12,show¬(j:Int)<x.marks.length by omega];rw[List.drop_of_length_le (by omega)]at ej;simp only[hU,ST.app_nil]at ej;refine(aj _ _ _).2 ?_;exact fin F0j F1j (by simp) (by simp[g11]) (by simp[g10]) (by simp[g5]) (by simp[g2]) I2 G2 (by rw[ek];exact ej)
      done
   have ek:jU x k tgn ky sl' tx (bK x sub)=.nil:=by unfold jU;simp[k1,k2,k3,k4,k5]
   simp(disch:=omega) only[evs,seval,ai,g12,l0,show¬(k:Int)=1 by omega,show¬(k:Int)=2 by omega,show¬(k:Int)=3 by omega,show¬(k:Int)=4 by omega,show¬(k:Int)=5 by omega];refine(aj _ _ _).2 ?_;exact fin F0 F10 (by simp) (by simp[g11]) (by simp[g10]) (by simp[g5]) (by simp[g2]) (I.fr F.wf F04) (G.fr F04) (by rw[ek,ST.app_nil])
   done
  ·simp only[evs,seval,g12,g11,g5,show¬(i:Int)<t.len by omega];rw[PT.at_end _ _ (by omega)]at e;simp only[bK,ST.app_nil]at e;refine⟨s,e,F,Gs.nE G,by omega,fun X h2 hX f2=>⟨I X h2 (fun y hy=>.inl (hX y hy)) f2,(Gs.frX G f2 (fun y hy=>by have:=hX y hy;omega)).sl s.cells_len (by omega)⟩⟩
theorem mks:∀t:PT,MKs t
 |.nil=>trivial
 |.cons _ _ _ _ _ _ _ sub nx=>⟨xd (mks sub),mks nx⟩
theorem rO:∀(p:Option Str)(l:List Slo),dG p l=true→∀s∈l,s.2.1≤3
 |_,[],_,s,m=>by simp at m
 |p,a::l,e,s,m=>by
  rw[ip,Bool.and_eq_true]at e;rcases List.mem_cons.1 m with rfl|m
  ·have:=e.1;simp only[fD,Bool.and_eq_true,decide_eq_true_eq]at this;exact this.2.1
  ·exact rO _ l e.2 s m
theorem nO{k:Nat}{tg ky tx:Str}{sl:List Slo}{n:Nat}(h:cR k tg ky sl tx n=true):(∀s∈sl,s.2.1≤3)∧n≤16:=by
 unfold cR at h;by_cases k1:k=1
 ·rw[if_pos k1]at h;simp only[Bool.and_eq_true,decide_eq_true_eq,bN]at h;exact⟨rO _ _ h.2.2.2.1.2,h.2.1⟩
 rw[if_neg k1]at h;by_cases k5:k=5
 ·rw[if_pos k5]at h;simp only[Bool.and_eq_true,decide_eq_true_eq,bN]at h;exact⟨rO _ _ h.2.1.2,by omega⟩
 rw[if_neg k5]at h;by_cases k2:k=2
 ·rw[if_pos k2]at h;simp only[Bool.and_eq_true,decide_eq_true_eq]at h;obtain⟨_,_,_,h4,h5⟩:=h;have:sl=[]:=List.length_eq_zero_iff.1 h4;subst this;exact⟨by simp,by omega⟩
 rw[if_neg k2]at h;by_cases k34:k=3∨k=4
 ·rw[if_pos k34]at h;simp only[Bool.and_eq_true,decide_eq_true_eq]at h;obtain⟨_,_,_,h4,h5⟩:=h;have:sl=[]:=List.length_eq_zero_iff.1 h4;subst this;exact⟨by simp,by omega⟩
 ·rw[if_neg k34]at h;cases h
theorem rH:∀(t:PT)(l c:Nat),(t.walk l c).2=true→TG t
 |.nil,_,_,_=>trivial
 |.cons k tg ky sl tx _ _ sub nx,l,c,h=>by
  simp only[PT.walk]at h;by_cases q:(PT.node k tg ky sl tx sub sub.walk l c).2=true
  ·rw[if_pos q]at h;have g:=rH nx _ _ h;unfold PT.node at q;by_cases x:6<l∨64<c+1∨cR k tg ky sl tx sub.len=false
   ·rw[if_pos x]at q;cases q
   ·rw[if_neg x]at q;have pb:cR k tg ky sl tx sub.len=true:=by
     cases e:cR k tg ky sl tx sub.len
     ·exact absurd (.inr (.inr e)) x
     ·rfl
    exact⟨(nO pb).1,(nO pb).2,rH sub _ _ q,g⟩
  ·rw[if_neg q]at h;exact absurd h q
theorem By{k:Nat}{tg ky tx:Str}{sl:List Slo}{sub:PT}(va vc:V)(h:PT.count k tg ky sl tx sub≠0):k=1∧TG (.cons k tg ky sl tx va vc sub .nil):=by
 unfold PT.count at h;split at h
 ·rename_i q;refine⟨q.1,rH (.cons k tg ky sl tx va vc sub .nil) 1 0 ?_⟩;simp only[PT.walk];rw[if_pos q.2]
 ·exact absurd rfl h
theorem NT.sh_one{s:NT}{k:Nat}{tg ky tx:Str}{a:List (Str×Str)}{sub:ST}(e:s.sh=.cons k tg ky a tx sub .nil):∃va vc s',s=.cons k tg ky a tx va vc s' .nil∧s'.sh=sub:=by
 cases s with
 |nil=>cases e
 |cons k' tg' ky' a' tx' va vc s' nx=>
  simp only[NT.sh]at e;cases nx with
  |nil=>cases e;exact⟨va,vc,s',rfl,rfl⟩
  |cons _ _ _ _ _ _ _ _ _=>cases e
def dO(k:Nat)(tg ky:Str)(sl:List Slo)(tx:Str)(sub:PT)(x:Itm)(most:Int):Int:=
 if most<1∨64<most then 1
 else if PT.count k tg ky sl tx sub=0 then 14
 else if fM x=false then 6
 else if ST.count 1 tg ky (sl.map (att x)) [] (bK x sub)=0∨most<(ST.count 1 tg ky (sl.map (att x)) [] (bK x sub):Nat)then 14
 else 0
abbrev Z6:List V:=[.int .u8 0,.str [],.str [],.nils,.str [],.nils]
theorem qc{h:Heap}{k:Nat}{tg ky tx:Str}{sl:List Slo}{vs vp:V}{sub:PT}{x:Itm}{most:Int}(w:WF h)(n:PH h (.cons k tg ky sl tx vs vp sub .nil))(a:ItmH h x):
 ao go 141 [.agg [.int .u8 (k:Int),.str tg,.str ky,vs,.str tx,vp],.agg x.cells,.int .i64 most] h fun u h'=>∃cs,u=.tup [.agg cs,.int .i64 (dO k tg ky sl tx sub x most)]∧Fr [] h h'∧
  (dO k tg ky sl tx sub x most≠0→cs=Z6)∧(dO k tg ky sl tx sub x most=0→∃(s:NT)(va vc:V),cs=[.int .u8 1,.str tg,.str ky,va,.str [],vc]∧(∀(X:List Nat)(h2:Heap),(∀y∈X,y<h.next)→Fr X h' h2→NH h2 (.cons 1 tg ky (sl.map (att x)) [] va vc s .nil))∧s.sh=bK x sub):=by
 obtain⟨h1,e_h1⟩:∃h1,h1=halloc h [.int .u8 (k:Int),.str tg,.str ky,vs,.str tx,vp]:=⟨_,rfl⟩;have F_h1:Fr [] h h1:=e_h1▸Fr.halloc w _;have o_h1:Own h1 h.next [.int .u8 (k:Int),.str tg,.str ky,vs,.str tx,vp]:=e_h1▸Own.new w _;obtain⟨h2,e_h2⟩:∃h2,h2=halloc h1 x.cells:=⟨_,rfl⟩;have F_h2:Fr [] h1 h2:=e_h2▸Fr.halloc F_h1.wf _;have o_h2:Own h2 h1.next x.cells:=e_h2▸Own.new F_h1.wf _;obtain⟨h3,e_h3⟩:∃h3,h3=halloc h2 [.int .u8 0,.str [],.str [],.nils,.str [],.nils]:=⟨_,rfl⟩;have F_h3:Fr [] h2 h3:=e_h3▸Fr.halloc F_h2.wf _;have o_h3:Own h3 h2.next [.int .u8 0,.str [],.str [],.nils,.str [],.nils]:=e_h3▸Own.new F_h2.wf _;have n1:h1.next=h.next+1:=by rw[e_h1];rfl
 have n2:h2.next=h1.next+1:=by rw[e_h2];rfl
 have F03:=(F_h1.then F_h2).then F_h3;have op:=F_h3.get (F_h2.get o_h1);have ox:=F_h3.get o_h2;have p6:=op.at6.2.2.2.2.2.2;have x4:ak h3 h1.next 0 4=some x.cells:=by rw[ox.ld];rfl
 have bad:∀{h4 h5:Heap}{e:Int}{c0:List V},dO k tg ky sl tx sub x most=e→e≠0→Fr [] h h4→Own h4 h2.next c0→Fr [h2.next] h4 h5→∃cs,V.tup [.agg Z6,.int .i64 e]=.tup [.agg cs,.int .i64 (dO k tg ky sl tx sub x most)]∧Fr [] h h5∧
  (dO k tg ky sl tx sub x most≠0→cs=Z6)∧(dO k tg ky sl tx sub x most=0→∃(s:NT)(va vc:V),cs=[.int .u8 1,.str tg,.str ky,va,.str [],vc]∧(∀(X:List Nat)(h2:Heap),(∀y∈X,y<h.next)→Fr X h5 h2→NH h2 (.cons 1 tg ky (sl.map (att x)) [] va vc s .nil))∧s.sh=bK x sub):=by
  intro h4 h5 e c0 q ne f _ f2;subst q;exact⟨Z6,rfl,f.fresh f2 w (by omega),fun _=>rfl,fun q=>absurd q ne⟩
 by_cases m1:most<1
 ·refine ah rfl rfl ?_;simp only[fn141,evs,seval,←e_h1,←e_h2,←e_h3,m1];refine ab (c':=Z6) F_h3.wf o_h3 rfl rfl rfl ?_;rintro h4 o4 F4 n4;simp only[evs,seval,o4.at6.2.2.2.2.2.2];exact bad (if_pos (.inl m1)) (by omega) F03 o_h3 F4
 by_cases m2:(64:Int)<most
 ·refine ah rfl rfl ?_;simp only[fn141,evs,seval,←e_h1,←e_h2,←e_h3,m1,m2];refine ab (c':=Z6) F_h3.wf o_h3 rfl rfl rfl ?_;rintro h4 o4 F4 n4;simp only[evs,seval,o4.at6.2.2.2.2.2.2];exact bad (if_pos (.inr m2)) (by omega) F03 o_h3 F4
 have r1:dO k tg ky sl tx sub x most=if PT.count k tg ky sl tx sub=0 then 14 else if fM x=false then 6 else if ST.count 1 tg ky (sl.map (att x)) [] (bK x sub)=0∨most<(ST.count 1 tg ky (sl.map (att x)) [] (bK x sub):Nat)then 14 else 0:=if_neg (by omega);refine ah rfl rfl ?_;simp only[fn141,evs,seval,←e_h1,←e_h2,←e_h3,m1,m2,p6];refine aa (pQ F_h3.wf (n.fr F03)) ?_;rintro _ h4 ⟨rfl,F4⟩;have F04:=F03.then F4;have oz4:=F4.get o_h3;have x4':ak h4 h1.next 0 4=some x.cells:=by rw[(F4.get ox).ld];rfl
 have p6':=(F4.get op).at6.2.2.2.2.2.2;by_cases c0:PT.count k tg ky sl tx sub=0
 ·rw[if_pos c0];simp only[evs,seval];refine ab (c':=Z6) F4.wf oz4 rfl rfl rfl ?_;rintro h5 o5 F5 n5;simp only[evs,seval,o5.at6.2.2.2.2.2.2];exact bad (r1.trans (if_pos c0)) (by omega) F04 oz4 F5
 rw[if_neg c0];rw[if_neg c0]at r1;simp only[evs,seval,x4'];refine aa (sV F4.wf (a.fr F04)) ?_;rintro _ h5 ⟨rfl,F5⟩;have F05:=F04.then F5;have oz5:=F5.get oz4;have x5:ak h5 h1.next 0 4=some x.cells:=by rw[(F5.get (F4.get ox)).ld];rfl
 have p5:=(F5.get (F4.get op)).at6.2.2.2.2.2.2;cases c1:fM x
 ·rw[c1]at r1;simp only[evs,seval];refine ab (c':=Z6) F5.wf oz5 rfl rfl rfl ?_;rintro h6 o6 F6 n6;simp only[evs,seval,o6.at6.2.2.2.2.2.2];exact bad r1 (by omega) F05 oz5 F6
 rw[c1,if_neg (by simp)]at r1;obtain⟨k1,tgd⟩:=By vs vp c0;have hm:x.marks.length≤8:=by
  simp only[fM,okM,Bool.and_eq_true,decide_eq_true_eq]at c1;exact c1.2.2.1
 have em:bK x (.cons k tg ky sl tx vs vp sub .nil)=.cons 1 tg ky (sl.map (att x)) [] (bK x sub) .nil:=by subst k1;rfl
 have bld:aP (.build [.int .u64 0,.int .u8 0,.str [],.nils] [(0,4)]) [.agg x.cells]=some (.agg x.cells):=rfl;have n5:=n.fr F05;obtain⟨h6,e_h6⟩:∃h6,h6=halloc h5 [.int .u8 (k:Int),.str tg,.str ky,vs,.str tx,vp]:=⟨_,rfl⟩;have F_h6:Fr [] h5 h6:=e_h6▸Fr.halloc F5.wf _;have o_h6:Own h6 h5.next [.int .u8 (k:Int),.str tg,.str ky,vs,.str tx,vp]:=e_h6▸Own.new F5.wf _;have n6:h6.next=h5.next+1:=by rw[e_h6];rfl
 simp only[evs,seval,x5,p5,bld,←e_h6];have F06:=F05.then F_h6;refine aa (xd (mks _) x h6 _ F_h6.wf (a.fr F06) hm (n.fr F06) tgd (by simp[PT.len]) (Sl.lit o_h6 rfl)) ?_;rintro u h7 ⟨s,es,F7,uE,_,st⟩;rw[em]at es;obtain⟨va,vc,s',rfl,es'⟩:=NT.sh_one es;have st0:=st [] h7 (by simp) (Fr.refl F7.wf);have F07:=F06.then F7;obtain⟨b,o,i1,i2⟩:=st0.2.ix6 (i:=0) (by simp[NT.len]) (x0:=.int .u8 ((1:Nat):Int)) (x1:=.str tg) (x2:=.str ky) (x3:=va) (x4:=.str []) (x5:=vc) (r:=[]) rfl;have i1':aP (.ixs 6) [u,.int .i64 0]=some (.ptr b o):=i1;have on:=NH.ones st0.1;have oz7:=F7.get (F_h6.get oz5);obtain⟨h8,e_h8⟩:∃h8,h8=halloc h7 [.int .u8 0,.str [],.str [],.nils,.str [],.nils]:=⟨_,rfl⟩;have F_h8:Fr [] h7 h8:=e_h8▸Fr.halloc F7.wf _;have o_h8:Own h8 h7.next [.int .u8 0,.str [],.str [],.nils,.str [],.nils]:=e_h8▸Own.new F7.wf _;simp only[evs,seval,i1',i2.2.2.2.2.2.2,←e_h8];refine ab (c':=[.int .u8 ((1:Nat):Int),.str tg,.str ky,va,.str [],vc]) F_h8.wf o_h8 rfl (by exact on) rfl ?_;rintro h9 o9 F9 n9;have F79:Fr [] h7 h9:=F_h8.fresh F9 F7.wf (Nat.le_refl _);have N9:=NH.fr F79 st0.1;simp only[evs,seval,o9.at6.2.2.2.2.2.2];refine aa (lI F9.wf N9) ?_;rintro _ h10 ⟨rfl,F10⟩;have oz10:=F10.get (F79.get oz7);have F010:=(F07.then F79).then F10;have ec:ST.count 1 tg ky (sl.map (att x)) [] (bK x sub)=NT.count 1 tg ky (sl.map (att x)) [] s':=by rw[←es',NT.sh_count]
 rw[ec]at r1;by_cases z:NT.count 1 tg ky (sl.map (att x)) [] s'=0
 ·simp only[evs,seval,show((NT.count 1 tg ky (sl.map (att x)) [] s':Nat):Int)=0 by omega];refine ab (c':=Z6) F10.wf oz10 rfl rfl rfl ?_;rintro h11 o11 F11 n11;simp only[evs,seval,o11.at6.2.2.2.2.2.2];exact bad (r1.trans (if_pos (.inl z))) (by omega) F010 oz10 F11
 by_cases z2:most<((NT.count 1 tg ky (sl.map (att x)) [] s':Nat):Int)
 ·simp only[evs,seval,eq_false (show¬((NT.count 1 tg ky (sl.map (att x)) [] s':Nat):Int)=0 by omega),z2];refine ab (c':=Z6) F10.wf oz10 rfl rfl rfl ?_;rintro h11 o11 F11 n11;simp only[evs,seval,o11.at6.2.2.2.2.2.2];exact bad (r1.trans (if_pos (.inr z2))) (by omega) F010 oz10 F11
 ·have r2:=r1.trans (if_neg (by omega));have l10:=(F10.get o9).at6.2.2.2.2.2.2;simp only[evs,seval,eq_false (show¬((NT.count 1 tg ky (sl.map (att x)) [] s':Nat):Int)=0 by omega),z2,l10];refine ab (c':=[.int .u8 ((1:Nat):Int),.str tg,.str ky,va,.str [],vc]) F10.wf oz10 rfl (by exact on) rfl ?_;rintro h11 o11 F11 n11;simp only[evs,seval,o11.at6.2.2.2.2.2.2];rw[r2];refine⟨_,rfl,F010.fresh F11 w (by omega),fun q=>absurd rfl q,fun _=>⟨s',va,vc,rfl,fun X hh hX f=>?_,es'⟩⟩;have h7n:=F7.next;refine(st ([h2.next]++X) hh (fun y m=>?_) (Fr.trans (Fr.trans (T:=[h2.next]) (F79.then F10) F11 F7.wf (by simp) (fun y hy=>.inl hy)) f F7.wf (fun y m=>.inl (List.mem_append.2 (.inl m))) (fun y m=>.inl (List.mem_append.2 (.inr m))))).1;have:=F5.next;have:=F4.next;have:=F_h3.next;have:=(show h3.next=h2.next+1 by rw[e_h3];rfl);rcases List.mem_append.1 m with m|m
  ·simp at m;omega
  ·have:=hX y m;omega
def Gn(e:Nat)(h:Heap)(B:Nat)(v:V)(n:Nat)(cs:List V):Prop:=cs.length=n*e∧((n=0∧(v=.nils∨∃b,B≤b∧v=.slice b 0 0 0∧Own h b []))∨∃b,B≤b∧v=.sliceU b 0 n e∧Own h b cs)
theorem Gn.sl{e:Nat}{h:Heap}{B n:Nat}{v:V}{cs:List V}(g:Gn e h B v n cs):Sl h e v n cs:=by
 obtain⟨hl,⟨rfl,rfl|⟨b,_,rfl,o⟩⟩|⟨b,_,rfl,o⟩⟩:=g
 ·exact⟨hl,rfl⟩
 ·have:cs=[]:=List.length_eq_zero_iff.1 (by omega);subst this;exact⟨hl,rfl,Nat.le_refl _,[],o,by simp,by simp⟩
 ·exact⟨hl,rfl,rfl,cs,o,by omega,by rw[List.drop_zero,List.take_of_length_le (by omega)]⟩
theorem Gn.fr{e:Nat}{h h':Heap}{B n:Nat}{v:V}{cs:List V}{X:List Nat}(g:Gn e h B v n cs)(f:Fr X h h')(hx:∀x∈X,x<B):Gn e h' B v n cs:=by
 obtain⟨hl,⟨rfl,rfl|⟨b,hb,rfl,o⟩⟩|⟨b,hb,rfl,o⟩⟩:=g
 ·exact⟨hl,.inl ⟨rfl,.inl rfl⟩⟩
 ·exact⟨hl,.inl ⟨rfl,.inr ⟨b,hb,rfl,f.own _ _ (fun m=>by have:=hx _ m;omega) o⟩⟩⟩
 ·exact⟨hl,.inr ⟨b,hb,rfl,f.own _ _ (fun m=>by have:=hx _ m;omega) o⟩⟩
theorem Gn.one{e:Nat}{h:Heap}{B n:Nat}{v:V}{cs:List V}(g:Gn e h B v n cs):v.one=true:=g.sl.one
theorem Gn.nE{e:Nat}{h:Heap}{B n:Nat}{v:V}{cs:List V}(g:Gn e h B v n cs):v≠.sliceE:=by
 obtain⟨_,⟨_,rfl|⟨b,_,rfl,_⟩⟩|⟨b,_,rfl,_⟩⟩:=g<;>simp
def nZ:V→Bool
 |.sliceZ _ _=>false
 |_=>true
theorem _root_.Go.Ev.ASl.src{h:Heap}{e:Nat}{v:V}{n:Nat}{cs:List V}(a:ASl h e v n cs)(z:nZ v=true):srcLen v=some n∧srcCells h e v n=some cs∧(v≠.nils→aP (.nil 1 false) [v,.nils]=some (.bool false)):=by
 obtain⟨hl,a⟩:=a;cases v with
 |slice b o len cap=>
  obtain⟨rfl,_,c,hc,h2,q⟩:=a;exact⟨rfl,by simp only[Ev.srcCells,hc.ld,bq,aU _ _ (show len*e≤(c.drop o).length by simp;omega),q],fun _=>rfl⟩
 |sliceU b o len e'=>
  obtain⟨rfl,rfl,c,hc,h2,q⟩:=a;exact⟨rfl,by simp only[Ev.srcCells,hc.ld,bq,aU _ _ (show len*e'≤(c.drop o).length by simp;omega),q],fun _=>rfl⟩
 |nils=>have a:n=0:=a;subst a;simp at hl;subst hl;exact⟨rfl,rfl,fun q=>absurd rfl q⟩
 |sliceE=>have a:n=0:=a;subst a;simp at hl;subst hl;exact⟨rfl,rfl,fun _=>rfl⟩
 |sliceZ _ _=>cases z
 |_=>exact a.elim
theorem gV{h:Heap}{e bytes n:Nat}{x:V}{xs:List V}(w:WF h)(a:ASl h e x n xs)(z:nZ x=true)(he:0<e)(hsz:(2*n+1024) *bytes≤281474976710656){K:V→Heap→Prop}
 (k:∀v' h',Gn e h' h.next v' n xs→Fr [] h h'→K v' h'):OQ (jD (halloc h []) e bytes (.slice h.next 0 0 0) x) K:=by
 have F1:=Fr.halloc w ([]:List V);have o1:=Own.new w ([]:List V);obtain⟨s1,s2,_⟩:=(a.fr F1).src z;have hl:=a.1;unfold jD;rw[s1];simp only[];by_cases c:n=0
 ·subst c;rw[fT rfl,cond_true];exact(bZ _ _ _).2 (k _ _ ⟨hl,.inl ⟨rfl,.inr ⟨h.next,Nat.le_refl _,rfl,o1⟩⟩⟩ F1)
 ·rw[ef c,cond_false,s2];simp only[];rw[wD (by omega),cond_false,Nat.zero_mul,o1.ld];have:cJ 0 (eM ([]:List V) 0)=some []:=rfl;rw[this];simp only[pp,Nat.zero_add,List.nil_append];rw[(Nat.ble_eq ..).mpr hsz,cond_true];refine(bZ _ _ _).2 (k _ _ ⟨hl,.inr ⟨(halloc h []).next,F1.next,rfl,Own.new F1.wf xs⟩⟩ (F1.then (Fr.halloc F1.wf xs)))
theorem zt{h:Heap}{n:Nat}{x:V}{xs:List V}(w:WF h)(a:ASl h 1 x n xs)(z:nZ x=true)(hn:n≤100000):ao go 140 [x] h fun u h'=>Gn 1 h' h.next u n xs∧Fr [] h h':=by
 by_cases c:x=.nils
 ·subst c;have:n=0:=a.2;subst this;have q:aP (.nil 1 false) [.nils,.nils]=some (.bool true):=rfl;refine ah rfl rfl ?_;simp only[fn140,evs,seval,q];exact⟨⟨a.1,.inl ⟨rfl,.inl rfl⟩⟩,Fr.refl w⟩
 ·refine ah rfl rfl ?_;simp only[fn140,evs,seval,(a.src z).2.2 c];refine gV (bytes:=16) w a z (by omega) (by omega) ?_;intro v' h' g f;simp only[evs,seval];exact⟨g,f⟩
theorem u7{h:Heap}{n:Nat}{x:V}{xs:List V}(w:WF h)(a:ASl h 3 x n xs)(z:nZ x=true)(hn:n≤100000):ao go 92 [x] h fun u h'=>Gn 3 h' h.next u n xs∧Fr [] h h':=by
 by_cases c:x=.nils
 ·subst c;have:n=0:=a.2;subst this;have q:aP (.nil 1 false) [.nils,.nils]=some (.bool true):=rfl;refine ah rfl rfl ?_;simp only[fn92,evs,seval,q];exact⟨⟨a.1,.inl ⟨rfl,.inl rfl⟩⟩,Fr.refl w⟩
 ·refine ah rfl rfl ?_;simp only[fn92,evs,seval,(a.src z).2.2 c];refine gV (bytes:=40) w a z (by omega) (by omega) ?_;intro v' h' g f;simp only[evs,seval];exact⟨g,f⟩
theorem sN{h:Heap}{n:Nat}{x:V}{xs:List V}(w:WF h)(a:ASl h 6 x n xs)(z:nZ x=true)(hn:n≤100000):ao go 93 [x] h fun u h'=>Gn 6 h' h.next u n xs∧Fr [] h h':=by
 by_cases c:x=.nils
 ·subst c;have:n=0:=a.2;subst this;have q:aP (.nil 1 false) [.nils,.nils]=some (.bool true):=rfl;refine ah rfl rfl ?_;simp only[fn93,evs,seval,q];exact⟨⟨a.1,.inl ⟨rfl,.inl rfl⟩⟩,Fr.refl w⟩
 ·refine ah rfl rfl ?_;simp only[fn93,evs,seval,(a.src z).2.2 c];refine gV (bytes:=104) w a z (by omega) (by omega) ?_;intro v' h' g f;simp only[evs,seval];exact⟨g,f⟩
theorem sP{h:Heap}{n:Nat}{x:V}{xs:List V}(w:WF h)(a:ASl h 9 x n xs)(z:nZ x=true)(hn:n≤100000):ao go 40 [x] h fun u h'=>Gn 9 h' h.next u n xs∧Fr [] h h':=by
 by_cases c:x=.nils
 ·subst c;have:n=0:=a.2;subst this;have q:aP (.nil 1 false) [.nils,.nils]=some (.bool true):=rfl;refine ah rfl rfl ?_;simp only[fn40,evs,seval,q];exact⟨⟨a.1,.inl ⟨rfl,.inl rfl⟩⟩,Fr.refl w⟩
 ·refine ah rfl rfl ?_;simp only[fn40,evs,seval,(a.src z).2.2 c];refine gV (bytes:=128) w a z (by omega) (by omega) ?_;intro v' h' g f;simp only[evs,seval];exact⟨g,f⟩
def Itm.own(x:Itm)(v:V):Itm:=⟨x.key,x.type,x.text,x.marks,v⟩
def CpO(N:Nat)(h:Heap)(v:V)(L:List (List UInt8)):Prop:=(L=[]∧(v=.nils∨∃b,v=.slice b 0 0 0∧N≤b∧Own h b []))∨∃b,v=.slice b 0 L.length L.length∧N≤b∧Own h b (L.flatMap sS)
theorem CpO.fr{N:Nat}{h h':Heap}{v:V}{L:List (List UInt8)}{X:List Nat}(a:CpO N h v L)(f:Fr X h h')(l:∀y∈X,y<N):CpO N h' v L:=by
 rcases a with⟨e,rfl|⟨b,rfl,hb,o⟩⟩|⟨b,e,hb,o⟩
 ·exact .inl ⟨e,.inl rfl⟩
 ·exact .inl ⟨e,.inr ⟨b,rfl,hb,f.own _ _ (fun m=>by have:=l b m;omega) o⟩⟩
 ·exact .inr ⟨b,e,hb,f.own _ _ (fun m=>by have:=l b m;omega) o⟩
theorem CpO.rs{N:Nat}{h:Heap}{v:V}{L:List (List UInt8)}(a:CpO N h v L):Recs sS 1 h v L:=by
 have hl:(L.flatMap sS).length=L.length*1:=aG dW L;rcases a with⟨rfl,rfl|⟨b,rfl,_,o⟩⟩|⟨b,rfl,_,o⟩
 ·exact Recs.nil
 ·exact Sl.lit o rfl
 ·exact Sl.lit o hl
theorem CpO.one{N:Nat}{h:Heap}{v:V}{L:List (List UInt8)}(a:CpO N h v L):v.one=true:=Sl.one a.rs
theorem CpO.nE{N:Nat}{h:Heap}{v:V}{L:List (List UInt8)}(a:CpO N h v L):v≠.sliceE:=by
 rcases a with⟨_,rfl|⟨b,rfl,_,o⟩⟩|⟨b,rfl,_,o⟩<;>simp
theorem BA{N:Nat}{h:Heap}{v:V}{L:List (List UInt8)}(g:Gn 1 h N v L.length (L.flatMap sS)):ao go 139 [v] h fun u h'=>CpO N h u L∧h=h':=by
 have q:∀y n,n≤y→aR n y false true true [.int .i64 (n:Int),.int .i64 (n:Int)]=some (0,n,some n):=fun y n hy=>by
  simp only[aR,bG .i64 (n:Int) y (by omega) (by omega),bG .i64 (n:Int) n (by omega) (by omega),Option.bind_some,Option.map_some,Int.toNat_natCast]
 obtain⟨hl,⟨e,rfl|⟨b,hb,rfl,o⟩⟩|⟨b,hb,rfl,o⟩⟩:=g
 ·have x:aP (.sl none 1 false true true) [.nils,.int .i64 0,.int .i64 0]=some .nils:=rfl;refine ah rfl rfl ?_;simp only[fn139,evs,↓reduceIte,Nat.reduceEqDiff,x];exact .inl ⟨List.length_eq_zero_iff.1 e,.inl rfl⟩
 ·have x:aP (.sl none 1 false true true) [.slice b 0 0 0,.int .i64 ((0:Nat):Int),.int .i64 ((0:Nat):Int)]=some (.slice b 0 0 0):=by
   simp only[aP,dt,q 0 0 (Nat.le_refl _),Option.map_some,Option.getD_some];rfl
  refine ah rfl rfl ?_;simp only[fn139,evs,↓reduceIte,Nat.reduceEqDiff,x];exact .inl ⟨List.length_eq_zero_iff.1 e,.inr ⟨b,rfl,hb,o⟩⟩
 ·have x:aP (.sl none 1 false true true) [.sliceU b 0 L.length 1,.int .i64 ((L.length:Nat):Int),.int .i64 ((L.length:Nat):Int)]=some (.slice b 0 L.length L.length):=by
   simp only[aP,dt,fT (rfl:1=1),(Nat.blt_eq ..).mpr (show 0<1 by omega),Bool.and_self,cond_true,q L.length L.length (Nat.le_refl _),Option.bind_some];cases Nat.beq L.length 0<;>simp
  refine ah rfl rfl ?_;simp only[fn139,evs,↓reduceIte,Nat.reduceEqDiff,x];exact .inr ⟨b,rfl,hb,o⟩
theorem j7{h:Heap}{x:Itm}(w:WF h)(a:ItmH h x)(z:nZ x.vm=true):ao go 71 [.agg x.cells] h fun u h'=>∃v,u=.agg (x.own v).cells∧Fr [] h h'∧CpO h.next h' v x.marks:=by
 obtain⟨h1,e_h1⟩:∃h1,h1=halloc h x.cells:=⟨_,rfl⟩;have F_h1:Fr [] h h1:=e_h1▸Fr.halloc w _;have o_h1:Own h1 h.next x.cells:=e_h1▸Own.new w _;obtain⟨h2,e_h2⟩:∃h2,h2=halloc h1 [.int .u64 0,.int .u8 0,.str [],.nils]:=⟨_,rfl⟩;have F_h2:Fr [] h1 h2:=e_h2▸Fr.halloc F_h1.wf _;have o_h2:Own h2 h1.next [.int .u64 0,.int .u8 0,.str [],.nils]:=e_h2▸Own.new F_h1.wf _;have n1:h1.next=h.next+1:=by rw[e_h1];rfl
 have F02:=F_h1.then F_h2;have ob:=F_h2.get o_h1;have l3:ag h2 h.next 3=some x.vm:=ob.ld1 3;have n2:h2.next=h1.next+1:=by rw[e_h2];rfl
 refine ah rfl rfl ?_;simp only[fn71,evs,seval,←e_h1,←e_h2,l3];refine aa (zt F_h2.wf (a.m.fr F02) z (by have:=a.n;omega)) ?_;rintro v1 h3 ⟨g,F3⟩;simp only[evs];refine aa (BA g) ?_;rintro v2 _ ⟨cl,rfl⟩;have v21:=cl.one;simp only[evs,seval];refine ab (c':=(x.own v2).cells) F3.wf (F3.get ob) (by simp[aB v21]) (by rw[aB v21];simp only[aA,aF,v21];rfl) (by rw[aB v21];rfl) ?_;rintro h4 o4 F4 n4;have l4:ak h4 h.next 0 4=some (x.own v2).cells:=by rw[o4.ld];rfl
 have oz4:=F4.own _ _ (by simp;omega) (F3.get o_h2);simp only[evs,seval,l4];refine ab (c':=(x.own v2).cells) F4.wf oz4 rfl (by show aq [.int .u64 (x.key:Int),.int .u8 (x.type:Int),.str x.text,v2]=true;simp only[aA,aF,v21];rfl) rfl ?_;rintro h5 o5 F5 n5;have l5:ak h5 h1.next 0 4=some (x.own v2).cells:=by rw[o5.ld];rfl
 simp only[evs,seval,l5];have F04:Fr [] h h4:=(F02.then F3).fresh F4 w (Nat.le_refl _);have c5:=(cl.fr F4 (by simp;omega)).fr F5 (by simp;omega);refine⟨v2,rfl,F04.fresh F5 w (by omega),?_⟩;rcases c5 with⟨e,e2|⟨b,e2,hb,o⟩⟩|⟨b,e2,hb,o⟩
 ·exact .inl ⟨e,.inl e2⟩
 ·exact .inl ⟨e,.inr ⟨b,e2,by omega,o⟩⟩
 ·exact .inr ⟨b,e2,by omega,o⟩
theorem zr{h:Heap}{x:Itm}(w:WF h)(a:ItmH h x)(z:nZ x.vm=true):ao go 71 [.agg x.cells] h fun u h'=>∃v,u=.agg (x.own v).cells∧Fr [] h h'∧v≠.sliceE∧v.one=true∧
 ∀(X:List Nat)(h2:Heap),(∀y∈X,y<h.next)→Fr X h' h2→Recs sS 1 h2 v x.marks:=by
 refine OQ.mono (j7 w a z) ?_;rintro _ h' ⟨v,e,f,c⟩;exact⟨v,e,f,c.nE,c.one,fun X h2 hX f2=>(c.fr f2 hX).rs⟩
structure Knd where
 k:Nat
 tg:Str
 ky:Str
 sl:List Slo
 tx:Str
 vs:V
 vp:V
 sub:PT
 base:Int
 sticky:Bool
 pool:Int
def Knd.part(q:Knd):List V:=[.int .u8 (q.k:Int),.str q.tg,.str q.ky,q.vs,.str q.tx,q.vp]
def Knd.cells(q:Knd):List V:=q.part++[.int .i64 q.base,.bool q.sticky,.int .i64 q.pool]
theorem dQ(q:Knd):q.cells.length=9:=rfl
def KndH(h:Heap)(q:Knd):Prop:=PH h (.cons q.k q.tg q.ky q.sl q.tx q.vs q.vp q.sub .nil)
theorem KndH.fr{h h':Heap}{q:Knd}(a:KndH h q)(f:Fr [] h h'):KndH h' q:=PH.fr f a
theorem KndH.ones{h:Heap}{q:Knd}(a:KndH h q):aq q.part=true:=PH.ones a
theorem KndH.ones9{h:Heap}{q:Knd}(a:KndH h q):aq q.cells=true:=by
 show aq (q.part++_)=true;rw[aM,a.ones];rfl
def okB(b:Int):Bool:=decide (1≤b)&&decide (b≤2305843009213693952)
def okK(q:Knd):Bool:=okB q.base&&decide (PT.count q.k q.tg q.ky q.sl q.tx q.sub≠0)
theorem qt{h:Heap}(n:Int):ao go 88 [.int .i64 n] h fun u h'=>u=.bool (okB n)∧h=h':=by
 by_cases c:1≤n
 ·refine ah rfl rfl ?_;simp only[fn88,evs,seval,c];simp[okB,c]
 ·refine ah rfl rfl ?_;simp only[fn88,evs,seval,c];simp[okB,c]
theorem DM{h:Heap}{q:Knd}(w:WF h)(a:KndH h q):ao go 87 [.agg q.cells] h fun u h'=>u=.bool (!okK q)∧Fr [] h h':=by
 obtain⟨h1,e_h1⟩:∃h1,h1=halloc h q.cells:=⟨_,rfl⟩;have F_h1:Fr [] h h1:=e_h1▸Fr.halloc w _;have o_h1:Own h1 h.next q.cells:=e_h1▸Own.new w _;have l6:ag h1 h.next 6=some (.int .i64 q.base):=o_h1.ld1 6;have l0:ak h1 h.next 0 6=some q.part:=by rw[o_h1.ld];rfl
 refine ah rfl rfl ?_;simp only[fn87,evs,seval,←e_h1,l6];refine aa (qt _) ?_;rintro _ _ ⟨rfl,rfl⟩;cases c:okB q.base
 ·simp only[evs,seval];exact⟨by simp[okK,c],F_h1⟩
 ·simp only[evs,seval,l0];refine aa (pQ (va:=q.vs) (vc:=q.vp) F_h1.wf (a.fr F_h1)) ?_;rintro _ h2 ⟨rfl,F2⟩;by_cases z:PT.count q.k q.tg q.ky q.sl q.tx q.sub=0
  ·rw[if_pos z];simp only[evs,seval];exact⟨by simp[okK,z],F_h1.then F2⟩
  ·rw[if_neg z];simp only[evs,seval];exact⟨by simp[okK,c,z],F_h1.then F2⟩
theorem wk{h:Heap}{v:V}{L:List Knd}(w:WF h)(a:Recs Knd.cells 9 h v L)(hL:∀q∈L,KndH h q)(hn:L.length≤4096):
 ao go 164 [v,.func (.func 87) [] []] h fun u h'=>∃r:Int,u=.int .i64 r∧(decide (0≤r)= !L.all okK)∧Fr [] h h':=by
 refine ah rfl rfl ?_;simp only[fn164,evs,seval,Recs.len a];refine aC (fun k env hh=>Fr [] h hh∧∃(i:Nat),env.get 8=some (.int .i64 i)∧env.get 7=some (.int .i64 L.length)∧env.get 0=some v∧env.get 1=some (.func (.func 87) [] [])∧
  i≤L.length∧(L.drop i).all okK=L.all okK∧k=L.length-i) L.length (by omega) ?_ ?_
 ·exact⟨Fr.refl w,0,(by simp),(by simp),(by simp),(by simp),by omega,rfl,rfl⟩
 ·rintro k env hh ⟨F,i,g8,g7,g0,g1,hi,e,rfl⟩;by_cases hlt:i<L.length
  ·have hlt':(i:Int)<L.length:=by omega
   obtain⟨b,o,s,e1,_,e3,e5⟩:=(Recs.fr a F).ix dQ .i64 i (by omega) hlt';rw[Int.toNat_natCast]at e5;rw[aJ e5,List.all_cons]at e;have hs:=hL s (List.mem_of_getElem? e5);simp only[evs,seval,g8,g7,g0,g1,hlt',e1,e3];refine aa (DM F.wf (hs.fr F)) ?_;rintro _ h1 ⟨rfl,F1⟩;cases c:okK s
   ·simp only[evs,seval];rw[c]at e;exact⟨i,rfl,by rw[←e];simp,F.then F1⟩
   ·simp(disch:=omega) only[evs,seval,ai,g8];rw[c]at e;refine(aj _ _ _).2 ⟨L.length-(i+1),by omega,F.then F1,i+1,(by simp),(by simp[g7]),(by simp[g0]),(by simp[g1]),by omega,by simpa using e,rfl⟩
    done
  ·simp only[evs,seval,g8,g7,show¬(i:Int)<L.length by omega];rw[List.drop_of_length_le (by omega)]at e;exact⟨-1,rfl,by rw[←e];rfl,F⟩
def okR(L:List Knd)(cap:Int):Bool:=decide (1≤L.length)&&(decide (L.length≤8)&&(decide (1≤cap)&&(decide (cap≤64)&&L.all okK)))
theorem tw{h:Heap}{v:V}{L:List Knd}{cap:Int}(w:WF h)(a:Recs Knd.cells 9 h v L)(hL:∀q∈L,KndH h q)(hn:L.length≤4096):
 ao go 38 [.agg [v,.int .i64 cap]] h fun u h'=>u=.int .i64 (if okR L cap then 0 else 7)∧Fr [] h h':=by
 obtain⟨h1,e_h1⟩:∃h1,h1=halloc h [v,.int .i64 cap]:=⟨_,rfl⟩;have F_h1:Fr [] h h1:=e_h1▸Fr.halloc w _;have o_h1:Own h1 h.next [v,.int .i64 cap]:=e_h1▸Own.new w _;have l0:ag h1 h.next 0=some v:=o_h1.ld1 0;have l1:ag h1 h.next 1=some (.int .i64 cap):=o_h1.ld1 1;have len:=Recs.len a;by_cases c0:L.length<1
 ·refine ah rfl rfl ?_;simp only[fn38,evs,seval,←e_h1,l0,len,show(L.length:Int)<1 by omega];exact⟨by simp[okR];omega,F_h1⟩
 by_cases c1:8<L.length
 ·refine ah rfl rfl ?_;simp only[fn38,evs,seval,←e_h1,l0,len,show¬(L.length:Int)<1 by omega,show(8:Int)<L.length by omega];exact⟨by simp[okR];omega,F_h1⟩
 by_cases c2:cap<1
 ·refine ah rfl rfl ?_;simp only[fn38,evs,seval,←e_h1,l0,l1,len,show¬(L.length:Int)<1 by omega,show¬(8:Int)<L.length by omega,c2];exact⟨by simp[okR];omega,F_h1⟩
 by_cases c3:64<cap
 ·refine ah rfl rfl ?_;simp only[fn38,evs,seval,←e_h1,l0,l1,len,show¬(L.length:Int)<1 by omega,show¬(8:Int)<L.length by omega,c2,c3];exact⟨by simp[okR];omega,F_h1⟩
 refine ah rfl rfl ?_;simp only[fn38,evs,seval,←e_h1,l0,l1,len,show¬(L.length:Int)<1 by omega,show¬(8:Int)<L.length by omega,c2,c3];refine aa (?_:ao go 90 _ _ (fun u h'=>u=.bool (!L.all okK)∧Fr [] h1 h')) ?_
 ·refine ah rfl rfl ?_;simp only[fn90,evs,seval];refine aa (wk F_h1.wf (Recs.fr a F_h1) (fun q m=>(hL q m).fr F_h1) hn) ?_;rintro _ h2 ⟨r,rfl,e,F2⟩;simp only[evs,seval];exact⟨by rw[e],F2⟩
 ·rintro _ h2 ⟨rfl,F2⟩;have e:okR L cap=L.all okK:=by simp[okR,show 1≤L.length by omega,show L.length≤8 by omega,show 1≤cap by omega,show cap≤64 by omega]
  rw[e];cases c4:L.all okK
  ·simp only[evs,seval];exact F_h1.then F2
  ·simp only[evs,seval];exact F_h1.then F2
set_option maxRecDepth 4000
namespace PT
def same:PT→PT→Prop
 |nil,nil=>True
 |cons k tg ky sl tx _ _ s n,cons k' tg' ky' sl' tx' _ _ s' n'=>k=k'∧tg=tg'∧ky=ky'∧sl=sl'∧tx=tx'∧same s s'∧same n n'
 |_,_=>False
theorem nA:∀{a b:PT},same a b→a.len=b.len
 |nil,nil,_=>rfl
 |cons _ _ _ _ _ _ _ _ _,cons _ _ _ _ _ _ _ _ _,h=>by simp only[len,nA h.2.2.2.2.2.2]
 |nil,cons _ _ _ _ _ _ _ _ _,h=>h.elim
 |cons _ _ _ _ _ _ _ _ _,nil,h=>h.elim
theorem lD:∀{a b:PT},same a b→∀l c,a.walk l c=b.walk l c
 |nil,nil,_,_,_=>rfl
 |cons k tg ky sl tx _ _ s n,cons _ _ _ _ _ _ _ s' n',⟨h1,h2,h3,h4,h5,h6,h7⟩,l,c=>by
  subst h1 h2 h3 h4 h5;have e1:node k tg ky sl tx s s.walk l c=node k tg ky sl tx s' s'.walk l c:=by
   unfold node;rw[nA h6,lD h6]
  simp only[walk,e1,lD h7]
 |nil,cons _ _ _ _ _ _ _ _ _,h,_,_=>h.elim
 |cons _ _ _ _ _ _ _ _ _,nil,h,_,_=>h.elim
theorem same_count(k:Nat)(tg ky:Str)(sl:List Slo)(tx:Str){s s':PT}(h:same s s'):count k tg ky sl tx s=count k tg ky sl tx s':=by
 have e1:node k tg ky sl tx s s.walk 1 0=node k tg ky sl tx s' s'.walk 1 0:=by
  unfold node;rw[nA h,lD h]
 unfold count;rw[e1]
def app:PT→PT→PT
 |nil,t=>t
 |cons k tg ky a tx va vc sub nx,t=>cons k tg ky a tx va vc sub (nx.app t)
theorem app_cells:∀a b:PT,(a.app b).cells=a.cells++b.cells
 |nil,_=>rfl
 |cons _ _ _ _ _ _ _ _ nx,b=>by simp only[app,cells,app_cells nx b,List.append_assoc]
theorem app_len:∀a b:PT,(a.app b).len=a.len+b.len
 |nil,b=>by simp[app,len]
 |cons _ _ _ _ _ _ _ _ nx,b=>by simp only[app,len,app_len nx b];omega
theorem same_app:∀{a b c d:PT},same a b→same c d→same (a.app c) (b.app d)
 |nil,nil,_,_,_,h=>h
 |cons _ _ _ _ _ _ _ _ _,cons _ _ _ _ _ _ _ _ _,_,_,h,g=>⟨h.1,h.2.1,h.2.2.1,h.2.2.2.1,h.2.2.2.2.1,h.2.2.2.2.2.1,same_app h.2.2.2.2.2.2 g⟩
 |nil,cons _ _ _ _ _ _ _ _ _,_,_,h,_=>h.elim
 |cons _ _ _ _ _ _ _ _ _,nil,_,_,h,_=>h.elim
def take':PT→Nat→PT
 |_,0=>nil
 |nil,_+1=>nil
 |cons k tg ky a tx va vc sub nx,i+1=>cons k tg ky a tx va vc sub (nx.take' i)
theorem take_app:∀(t:PT)(i:Nat),(t.take' i).app (t.at' i)=t
 |nil,0=>rfl
 |nil,_+1=>rfl
 |cons _ _ _ _ _ _ _ _ _,0=>rfl
 |cons _ _ _ _ _ _ _ _ nx,i+1=>by simp only[take',at',app,take_app nx i]
theorem take_succ{t:PT}{i k:Nat}{tg ky tx:Str}{sl:List Slo}{va vc:V}{sub nx:PT}(h:t.at' i=cons k tg ky sl tx va vc sub nx):t.take' (i+1)=(t.take' i).app (cons k tg ky sl tx va vc sub nil):=by
 induction i generalizing t with
 |zero=>
  cases t with
  |nil=>cases h
  |cons _ _ _ _ _ _ _ _ nx'=>cases h;cases nx<;>rfl
 |succ i ih=>
  cases t with
  |nil=>cases h
  |cons _ _ _ _ _ _ _ _ nx'=>
   simp only[take',app];rw[ih h]
end PT
theorem PH.app{h:Heap}:∀{a b:PT},PH h a→PH h b→PH h (a.app b)
 |.nil,_,_,q=>q
 |.cons _ _ _ _ _ _ _ _ _,_,⟨x1,x2,x3,x4,x5,x6,x7⟩,q=>⟨x1,x2,x3,x4,x5,x6,PH.app x7 q⟩
def PCp(k:Nat)(tg ky:Str)(sl:List Slo)(tx:Str)(vs vp:V)(sub:PT):Prop:=∀(h:Heap),WF h→PH h (.cons k tg ky sl tx vs vp sub .nil)→
 ao go 41 [.agg [.int .u8 (k:Int),.str tg,.str ky,vs,.str tx,vp]] h fun u h'=>∃vs' vp' sub',u=.agg [.int .u8 (k:Int),.str tg,.str ky,vs',.str tx,vp']∧PT.same sub sub'∧Fr [] h h'∧
  ∀(X:List Nat)(h2:Heap),(∀y∈X,y<h.next)→Fr X h' h2→PH h2 (.cons k tg ky sl tx vs' vp' sub' .nil)
def PCs:PT→Prop
 |.nil=>True
 |.cons k tg ky sl tx vs vp sub nx=>PCp k tg ky sl tx vs vp sub∧PCs nx
theorem PCs.at':∀{t:PT}(i:Nat),PCs t→PCs (t.at' i)
 |.nil,0,_=>trivial
 |.nil,_+1,_=>trivial
 |.cons _ _ _ _ _ _ _ _ _,0,a=>a
 |.cons _ _ _ _ _ _ _ _ _,i+1,⟨_,g⟩=>PCs.at' i g
theorem Gn.frH{e:Nat}{h h':Heap}{B n:Nat}{v:V}{cs:List V}{X:List Nat}(w:WF h)(g:Gn e h B v n cs)(f:Fr X h h')(hx:∀x∈X,x<B∨h.next≤x):Gn e h' B v n cs:=by
 obtain⟨hl,⟨rfl,rfl|⟨b,hb,rfl,o⟩⟩|⟨b,hb,rfl,o⟩⟩:=g
 ·exact⟨hl,.inl ⟨rfl,.inl rfl⟩⟩
 ·exact⟨hl,.inl ⟨rfl,.inr ⟨b,hb,rfl,f.own _ _ (fun m=>by have:=hx _ m;have:=o.lt w;omega) o⟩⟩⟩
 ·exact⟨hl,.inr ⟨b,hb,rfl,f.own _ _ (fun m=>by have:=hx _ m;have:=o.lt w;omega) o⟩⟩
theorem tD{k:Nat}{tg ky:Str}{sl:List Slo}{tx:Str}{vs vp:V}{sub:PT}(P:PCs sub):PCp k tg ky sl tx vs vp sub:=by
 intro h w ⟨hk,rs,ls,sp,lp,ph,_⟩;have zs:nZ vs=true:=by cases vs<;>first|rfl|exact rs.2.elim
 have zp:nZ vp=true:=by cases vp<;>first|rfl|exact sp.2.elim
 obtain⟨h1,e_h1⟩:∃h1,h1=halloc h [.int .u8 (k:Int),.str tg,.str ky,vs,.str tx,vp]:=⟨_,rfl⟩;have F_h1:Fr [] h h1:=e_h1▸Fr.halloc w _;have o_h1:Own h1 h.next [.int .u8 (k:Int),.str tg,.str ky,vs,.str tx,vp]:=e_h1▸Own.new w _;obtain⟨h2,e_h2⟩:∃h2,h2=halloc h1 [.int .u8 0,.str [],.str [],.nils,.str [],.nils]:=⟨_,rfl⟩;have F_h2:Fr [] h1 h2:=e_h2▸Fr.halloc F_h1.wf _;have o_h2:Own h2 h1.next [.int .u8 0,.str [],.str [],.nils,.str [],.nils]:=e_h2▸Own.new F_h1.wf _;have n1:h1.next=h.next+1:=by rw[e_h1];rfl
 have n2:h2.next=h1.next+1:=by rw[e_h2];rfl
 have F02:=F_h1.then F_h2;have ob:=F_h2.get o_h1;have l3:ag h2 h.next 3=some vs:=ob.ld1 3;have l5:ag h2 h.next 5=some vp:=ob.ld1 5;refine ah rfl rfl ?_;simp only[fn41,evs,seval,←e_h1,←e_h2,l3];refine aa (u7 F_h2.wf (Sl.a (Recs.fr rs F02)) zs (by omega)) ?_;rintro vs' h3 ⟨gs,F3⟩;simp only[evs,seval];refine ab (c':=[.int .u8 (k:Int),.str tg,.str ky,vs',.str tx,vp]) F3.wf (F3.get ob) (by simp[aB gs.one]) (by rw[aB gs.one];simp only[aA,aF,gs.one];rfl) (by rw[aB gs.one];rfl) ?_;rintro h4 o4 F4 n4;have F04:Fr [] h h4:=(F02.then F3).fresh F4 w (Nat.le_refl _);have l5':ag h4 h.next 5=some vp:=o4.ld1 5;simp only[evs,seval,l5'];refine aa (sN F4.wf (Sl.a (sp.fr F04)) zp (by omega)) ?_;rintro vp' h5 ⟨gp,F5⟩;simp only[evs,seval];refine ab (c':=[.int .u8 (k:Int),.str tg,.str ky,vs',.str tx,vp']) F5.wf (F5.get o4) (by simp[aB gp.one]) (by rw[aB gp.one];simp only[aA,aF,gp.one];rfl) (by rw[aB gp.one];rfl) ?_;rintro h6 o6 F6 n6;have l56:ag h6 h.next 5=some vp':=o6.ld1 5;have hn3:=F3.next;have gp6:=gp.fr F6 (by simp;omega);simp only[evs,seval,l56,gp6.sl.len];have F06:Fr [] h h6:=(F04.then F5).fresh F6 w (Nat.le_refl _);have oz6:Own h6 h1.next [.int .u8 0,.str [],.str [],.nils,.str [],.nils]:=F6.own _ _ (by simp;omega) (F5.get (F4.own _ _ (by simp;omega) (F3.get o_h2)));have F26:Fr [h.next] h3 h6:=Fr.trans (Fr.trans (T:=[h.next]) F4 F5 F3.wf (by simp) (by simp)) F6 F3.wf (by simp) (by simp);have gs6:Gn 3 h6 h2.next vs' sl.length (sl.flatMap pC):=gs.fr F26 (by simp;omega);have vpl:∀y∈vb vp',h4.next≤y∧y<h6.next:=by
  obtain⟨_,⟨_,rfl|⟨b,_,rfl,_⟩⟩|⟨b,hb,rfl,o⟩⟩:=gp6
  ·simp[vb]
  ·simp[vb]
  ·have:=o.lt F6.wf;simp only[vb,List.mem_singleton];rintro y rfl;exact⟨hb,this⟩
 refine aC (fun n env hh=>Fr [] h hh∧h6.next≤hh.next∧Own hh h.next [.int .u8 (k:Int),.str tg,.str ky,vs',.str tx,vp']∧Own hh h1.next [.int .u8 0,.str [],.str [],.nils,.str [],.nils]∧(∃X3:List Nat,(∀y∈X3,y<h2.next∨h3.next≤y)∧Fr X3 h3 hh)∧
  ∃(i:Nat)(d:PT),env.get 15=some (.int .i64 i)∧env.get 14=some (.int .i64 sub.len)∧env.get 1=some (.ptr h.next 0)∧env.get 2=some (.ptr h1.next 0)∧i≤sub.len∧d.len=i∧PT.same (sub.take' i) d∧
  Gn 6 hh h4.next vp' sub.len (d.cells++sub.cells.drop (i*6))∧(∀(X:List Nat)(h2:Heap),(∀y∈X,y<h.next∨y=h.next∨y=h1.next∨y∈vb vp')→Fr X hh h2→PH h2 d)∧n=sub.len-i) sub.len (by omega) ?_ ?_
 ·exact⟨F06,Nat.le_refl _,o6,oz6,⟨_,by simp;omega,F26⟩,0,.nil,(by simp),(by simp),(by simp),(by simp),by omega,rfl,by cases sub<;>trivial,by simpa[PT.cells]using gp6,fun _ _ _ _=>trivial,rfl⟩
 ·rintro n env hh ⟨F,hn,ox,oz,⟨X3,hX3,fX3⟩,i,d,g15,g14,g1,g2,hi,dl,ds,gph,dst,rfl⟩;have lx:ag hh h.next 5=some vp':=ox.ld1 5;by_cases hlt:i<sub.len
  ·have hlt':(i:Int)<sub.len:=by omega
   obtain⟨kc,tgc,kyc,slc,txc,vsc,vpc,sb,nx,e1,e2,e3,e4,e5,e6⟩:=sub.split i hlt;have Pi:=P.at' i;have phi:=ph.at' i;rw[e1]at Pi phi;obtain⟨_,⟨z,_⟩|⟨bp,hbp,rfl,obp⟩⟩:=gph
   ·omega
   have dc:=d.cells_len;rw[dl]at dc;have q0:∀Y:List V,(d.cells++Y).drop (i*6)=Y:=fun Y=>by rw[←dc,List.drop_left]
   have q1:∀Y:List V,(d.cells++Y).take (i*6)=d.cells:=fun Y=>by rw[←dc,List.take_left]
   have q2:∀Y:List V,(d.cells++Y).drop (i*6+6)=Y.drop 6:=fun Y=>by rw[←dc,List.drop_length_add_append]
   have ix:=kg 6 bp 0 sub.len 6 .i64 (i:Int) (by omega) hlt';simp only[Int.toNat_natCast,Nat.zero_add]at ix;have lc:ak hh bp (i*6) 6=some [.int .u8 (kc:Int),.str tgc,.str kyc,vsc,.str txc,vpc]:=by
    rw[obp.ld,bq,q0,e2];rfl
   have hb:=vpl bp (by simp[vb]);simp only[evs,seval,eff,g15,g14,g1,hlt',lx,ix,lc];refine aa (Pi.1 hh F.wf (PH.fr F ⟨phi.1,phi.2.1,phi.2.2.1,phi.2.2.2.1,phi.2.2.2.2.1,phi.2.2.2.2.2.1,trivial⟩)) ?_;rintro _ h7 ⟨vs2,vp2,sb2,rfl,sm,F7,st2⟩;have lx7:ag h7 h.next 5=some (.sliceU bp 0 sub.len 6):=(F7.get ox).ld1 5;have on:aq [.int .u8 (kc:Int),.str tgc,.str kyc,vs2,.str txc,vp2]=true:=PH.ones (st2 [] h7 (by simp) (Fr.refl F7.wf));simp only[evs,eff,ix];have eC:aY (d.cells++sub.cells.drop (i*6)) (i*6) [.int .u8 (kc:Int),.str tgc,.str kyc,vs2,.str txc,vp2]=some ((d.app (.cons kc tgc kyc slc txc vs2 vp2 sb2 .nil)).cells++sub.cells.drop ((i+1) *6)):=by
    rw[bE _ _ _ (by rw[List.length_append,dc,e2];simp),PT.app_cells];congr 1;show _++_++(d.cells++sub.cells.drop (i*6)).drop (i*6+6)=_;rw[q1,q2,List.drop_drop,show i*6+6=(i+1) *6 by omega];simp[PT.cells]
   refine ab F7.wf (F7.get obp) rfl on eC ?_;rintro h8 o8 F8 n8;have hn7:=F7.next;have F08:Fr [] h h8:=(F.then F7).fresh F8 w (by omega);simp(disch:=omega) only[evs,seval,DF,ai,g15,lx,lx7,lc];refine(aj _ _ _).2 ⟨sub.len-(i+1),by omega,F08,by omega,F8.own _ _ (by simp;omega) (F7.get ox),F8.own _ _ (by simp;omega) (F7.get oz),⟨X3++[bp],?_,Fr.trans (Fr.trans fX3 F7 F3.wf (fun y hy=>.inl (by simp[hy])) (by simp)) F8 F3.wf (fun y hy=>.inl hy) (fun y hy=>.inl (by simp at hy;simp[hy]))⟩,i+1,_,(by simp),(by simp[g14]),(by simp[g1]),(by simp[g2]),by omega,?_,?_,⟨?_,.inr ⟨bp,hbp,rfl,o8⟩⟩,?_,rfl⟩
   ·intro y hy;simp at hy;rcases hy with hy|rfl
    ·exact hX3 y hy
    ·exact .inr (by omega)
   ·rw[PT.app_len,dl];rfl
   ·rw[PT.take_succ e1];exact PT.same_app ds ⟨rfl,rfl,rfl,rfl,rfl,sm,trivial⟩
   ·rw[List.length_append,PT.app_cells,List.length_append,dc,List.length_drop,PT.cells_len,PT.cells_len];simp only[PT.len];omega
   ·intro X h9 hX f9;have f79:Fr ([bp]++X) h7 h9:=Fr.trans F8 f9 F7.wf (fun y hy=>.inl (by simp at hy;simp[hy])) (fun y hy=>.inl (by simp[hy]));have fh9:Fr ([bp]++X) hh h9:=Fr.trans F7 f79 F.wf (by simp) (fun y hy=>.inl hy);refine PH.app (dst _ h9 ?_ fh9) (st2 _ h9 ?_ f79)
    ·intro y hy;simp at hy;rcases hy with rfl|hy
     ·exact .inr (.inr (.inr (by simp[vb])))
     ·exact hX y hy
    ·intro y hy;simp at hy;rcases hy with rfl|hy
     ·omega
     ·rcases hX y hy with q|q|q|q
      ·omega
      ·omega
      ·omega
      ·simp[vb]at q;omega
  ·have hi':i=sub.len:=by omega
   have gsh:=gs.frH F3.wf fX3 hX3;have l6:=ox.at6.2.2.2.2.2.2;have vp1:=gph.one;have vs1:=gsh.one;simp only[evs,seval,g15,g14,g1,g2,show¬(i:Int)<sub.len by omega,l6];refine ab (c':=[.int .u8 (k:Int),.str tg,.str ky,vs',.str tx,vp']) F.wf oz rfl (by simp only[V.cells,aA,aF,vs1,vp1];rfl) rfl ?_;rintro h7 o7 F7 n7;simp only[evs,seval,g2,o7.at6.2.2.2.2.2.2];subst hi';rw[List.drop_of_length_le (by rw[PT.cells_len];omega),List.append_nil]at gph;have te:sub.take' sub.len=sub:=by
    have:=PT.take_app sub sub.len;rw[PT.at_end _ _ (Nat.le_refl _)]at this;have an:∀t:PT,t.app .nil=t:=by
     intro t;induction t with
     |nil=>rfl
     |cons _ _ _ _ _ _ _ _ nx _ ih=>simp only[PT.app,ih]
    rw[an]at this;exact this
   rw[te]at ds;refine⟨vs',vp',d,rfl,ds,F.fresh F7 w (by omega),fun X h8 hX f8=>?_⟩;have f:Fr ([h1.next]++X) hh h8:=Fr.trans F7 f8 F.wf (fun y hy=>.inl (by simp at hy;simp[hy])) (fun y hy=>.inl (by simp[hy]));have a1:=gsh.fr f (by
    intro y hy;simp at hy;rcases hy with rfl|hy
    ·omega
    ·have:=hX y hy;omega)
   have a2:=gph.fr f (by
    intro y hy;simp at hy;rcases hy with rfl|hy
    ·omega
    ·have:=hX y hy;omega)
   refine⟨hk,a1.sl,ls,by rw[dl];exact a2.sl,by omega,dst _ h8 ?_ f,trivial⟩;intro y hy;simp at hy;rcases hy with rfl|hy
   ·exact .inr (.inr (.inl rfl))
   ·exact .inl (hX y hy)
theorem pcs:∀t:PT,PCs t
 |.nil=>trivial
 |.cons _ _ _ _ _ _ _ sub nx=>⟨tD (pcs sub),pcs nx⟩
set_option maxRecDepth 4000
theorem Bj{h:Heap}{b:Nat}{bs:List Bool}(w:WF h)(f:Fl h b bs):ao go 109 [.ptr b 0] h fun u h'=>∃c,u=.ptr c 0∧h.next≤c∧Fl h' c bs∧Fr [] h h':=by
 obtain⟨ws,o,ok,hn⟩:=f;have q2:ak h b 0 66=some (flc (bs.length:Int) (bs.count true:Int) ws):=by
  rw[o.ld,bq,aU _ _ (by simp[cT,ok.len])];rw[List.drop_zero,List.take_of_length_le (by simp[cT,ok.len])]
 have lf:(flc (bs.length:Int) (bs.count true:Int) ws).length=66:=by simp[cT,ok.len]
 have on:aq (flc (bs.length:Int) (bs.count true:Int) ws)=true:=by
  unfold flc;have:∀l:List Nat,aq (l.map uw)=true:=fun l=>by induction l with
   |nil=>rfl
   |cons x l ih=>simp only[List.map_cons];rw[aq];simp[uw,V.one]
  rw[aA,aA,this];rfl
 refine ah rfl rfl ?_;simp only[fn109,evs,seval,q2];refine ab (c':=flc (bs.length:Int) (bs.count true:Int) ws) (Fr.halloc w _).wf (Own.new w _) lf on (by rw[bE _ _ _ (by rw[V.cells,lf];simp)];simp[V.cells,lf]) ?_;rintro h3 o3 F3 n3;simp only[evs,seval];exact⟨h.next,rfl,Nat.le_refl _,⟨ws,o3,ok,hn⟩,(Fr.halloc w _).fresh F3 w (Nat.le_refl _)⟩
def gm(n:Nat)(a k:Int):Prop:=a<0∨k<0∨(n:Int)<a∨(n:Int)-a<k
instance(n:Nat)(a k:Int):Decidable (gm n a k):=by unfold gm;infer_instance
theorem CW{h:Heap}{v:V}{l:List Int}{a k:Int}(w:WF h)(r:Rp h v l)(a0:-9223372036854775808≤a)(a1:a≤9223372036854775807)(k0:-9223372036854775808≤k)(k1:k≤9223372036854775807):
 ao go 206 [v,.int .i64 a,.int .i64 k] h fun u h'=>Fr [] h h'∧if gm l.length a k then u=.tup [.nilp,.nilp,.nilp,.int .i64 4]else
  ∃t1 t2 t3 p1 p2 p3,u=.tup [pv p1,pv p2,pv p3,.int .i64 0]∧At h' t1 p1∧At h' t2 p2∧At h' t3 p3∧t1.list=l.take a.toNat∧t2.list=(l.drop a.toNat).take k.toNat∧t3.list=(l.drop a.toNat).drop k.toNat:=by
 have rr:=r;obtain⟨t,p,rfl,at',rfl,f⟩:=r;have f3:=f.2.2;unfold gm;obtain⟨h1,e_h1⟩:∃h1,h1=halloc h [pv p]:=⟨_,rfl⟩;have F_h1:Fr [] h h1:=e_h1▸Fr.halloc w _;have o_h1:Own h1 h.next [pv p]:=e_h1▸Own.new w _;by_cases c1:a<0
 ·refine ah rfl rfl ?_;simp only[fn206,evs,seval,←e_h1,eq_true c1];exact⟨F_h1,by simp⟩
 by_cases c2:k<0
 ·refine ah rfl rfl ?_;simp only[fn206,evs,seval,←e_h1,eq_false c1,eq_true c2];exact⟨F_h1,by simp⟩
 refine ah rfl rfl ?_;simp only[fn206,evs,seval,←e_h1,eq_false c1,eq_false c2,o_h1.ld];refine aa (ki F_h1.wf (rr.fr F_h1)) ?_;rintro _ h2 ⟨rfl,F2⟩;have F12:=F_h1.then F2;by_cases c3:(t.list.length:Int)<a
 ·simp only[evs,seval,eq_true c3];exact⟨F12,by simp⟩
 simp only[evs,seval,eq_false c3,(F2.get o_h1).ld];refine aa (ki F2.wf (rr.fr F12)) ?_;rintro _ h3 ⟨rfl,F3⟩;have F13:=F12.then F3;by_cases c4:(t.list.length:Int)-a<k
 ·simp(disch:=omega) only[evs,seval,ai,eq_true c4];exact⟨F13,by simp⟩
 simp(disch:=omega) only[evs,seval,ai,eq_false c4,((F2.then F3).get o_h1).ld1];refine aa (fW F3.wf (at'.fr F13) f (by omega) (by omega)) ?_;rintro _ h4 ⟨t1,t2,p1,p2,rfl,b1,b2,b3,b4,F4⟩;simp only[evs,seval];refine aa (fW F4.wf b2 (by rw[b4];exact f.sub (List.drop_sublist _ _)) (by omega) (by omega)) ?_;rintro _ h5 ⟨t3,t4,p3,p4,rfl,d1,d2,d3,d4,F5⟩;simp only[evs,seval];refine⟨F13.then (F4.then F5),?_⟩;exact⟨t1,t3,t4,p1,p3,p4,rfl,b1.fr F5,d1,d2,b3,by rw[d3,b4],by rw[d4,b4]⟩
theorem D1{h:Heap}{v:V}{l:List Int}{a k:Int}(w:WF h)(r:Rp h v l)(a0:-9223372036854775808≤a)(a1:a≤9223372036854775807)(k0:-9223372036854775808≤k)(k1:k≤9223372036854775807):
 ao go 147 [v,.int .i64 a,.int .i64 k] h fun z h'=>Fr [] h h'∧∃c,z=.tup [.agg [c],.int .i64 (if gm l.length a k then 4 else 0)]∧c.one=true∧(¬gm l.length a k→Rp h' (.agg [c]) (l.take a.toNat++(l.drop a.toNat).drop k.toNat)):=by
 have rr:=r;obtain⟨t,p,rfl,at',rfl,f⟩:=r;obtain⟨h1,e_h1⟩:∃h1,h1=halloc h [pv p]:=⟨_,rfl⟩;have F_h1:Fr [] h h1:=e_h1▸Fr.halloc w _;have o_h1:Own h1 h.next [pv p]:=e_h1▸Own.new w _;obtain⟨h2,e_h2⟩:∃h2,h2=halloc h1 [.nilp]:=⟨_,rfl⟩;have F_h2:Fr [] h1 h2:=e_h2▸Fr.halloc F_h1.wf _;have o_h2:Own h2 h1.next [.nilp]:=e_h2▸Own.new F_h1.wf _;have F02:=F_h1.then F_h2;refine ah rfl rfl ?_;simp only[fn147,evs,seval,←e_h1,←e_h2,(F_h2.get o_h1).ld];refine aa (CW F_h2.wf (rr.fr F02) a0 a1 k0 k1) ?_;rintro u h3 ⟨F3,hu⟩;have F03:=F02.then F3;by_cases c:gm t.list.length a k
 ·rw[if_pos c]at hu;subst hu;simp only[evs,seval,eq_false (show¬(4:Int)=0 by omega)];refine ab (c':=[.nilp]) F3.wf (F3.get o_h2) rfl (by first|rfl|simp[aq,V.cells,aL, *]) rfl ?_
  rintro h4 o_h4 F_h4 n_h4;simp only[evs,seval,o_h4.ld];exact⟨F03.fresh F_h4 w F_h1.next,.nilp,by simp[c],rfl,fun x=>absurd c x⟩
 ·rw[if_neg c]at hu;obtain⟨t1,t2,t3,p1,p2,p3,rfl,b1,b2,b3,e1,e2,e3⟩:=hu;have fs:Fit (t1.list++t3.list):=by
   rw[e1,e3];refine f.sub ?_;have:(t.list.take a.toNat++(t.list.drop a.toNat).drop k.toNat).Sublist (t.list.take a.toNat++t.list.drop a.toNat):=List.Sublist.append (List.Sublist.refl _) (List.drop_sublist _ _);rwa[List.take_append_drop]at this
  simp only[evs,seval];refine aa (rT F3.wf b1 b3 fs) ?_;rintro _ h4 ⟨t4,p4,rfl,b4,e4,F4⟩;simp only[evs,seval];refine ab (c':=[pv p4]) F4.wf (F4.get (F3.get o_h2)) rfl (by simp[aq,V.cells,aL]) rfl ?_;rintro h5 o5 F5 n5;simp only[evs,seval,o5.ld];have F04:=F03.then F4;refine⟨F04.fresh F5 w F_h1.next,pv p4,by simp[c],aL _,fun _=>⟨t4,p4,rfl,b4.frb F5 (F4.get (F3.get o_h2)) (by simp),by rw[e4,e1,e3],?_⟩⟩;rw[e1,e3]at fs;exact fs
def GN(n:Nat)(a k t:Int):Prop:=gm n a k∨t<0∨(n:Int)-k<t
instance(n:Nat)(a k t:Int):Decidable (GN n a k t):=by unfold GN;infer_instance
def ig{α:Type}(l:List α)(a k:Nat):List α:=l.take a++(l.drop a).drop k
def rmv(a n:Int)(f:Int→Bool)(x:Int):Bool:=if x<a then f x else f (x+n)
theorem DY{h:Heap}{v:V}{L:List (Int×Int)}{a n m:Int}(w:WF h)(s:Sp h v L)(ok:SOK L (-1))(hm:m≤8000)(hL:∀s∈L,s.2≤m)(hm0:0≤m)(ha:0≤a)(ha1:a+n≤m)(hn:0≤n):
 ao go 148 [v,.int .i64 a,.int .i64 n] h fun z h'=>Fr [] h h'∧∃y L',z=.tup [y,.int .i64 0]∧y.one=true∧SpF h' y L'∧SOK L' (-1)∧(∀x,inS L' x=rmv a n (inS L) x)∧∀s∈L',s.2≤m-n:=by
 have hlen:=ok.len (by omega) hL;refine ah rfl rfl ?_;simp only[fn148,evs,seval];refine aa (qf w s ok hlen ha (by omega) hn (by omega)) ?_;rintro _ h1 ⟨rfl,F1⟩;have s1:=s.fr F1;simp only[evs,seval,s1.len];refine aC (fun k env hh=>∃(i:Nat)(vo:V)(O:List (Int×Int))(last:Int),Fr [] h hh∧env.get 19=some v∧env.get 20=some (.int .i64 L.length)∧env.get 21=some (.int .i64 i)∧env.get 9=some vo∧
  env.get 1=some (.int .i64 a)∧env.get 2=some (.int .i64 n)∧i≤L.length∧GRecs sp 2 hh h.next vo O∧SOK O (-1)∧SOK (L.drop i) last∧(∀s∈O,s.2≤max (min last a) (last-n))∧last≤m∧
  (∀x,inS O x=rmv a n (inS (L.take i)) x)∧k=L.length-i) L.length (by omega) ?_ ?_
 ·exact⟨0,.nils,[],-1,F1,(by simp),(by simp),(by simp),(by simp),(by simp),(by simp),by omega,GRecs.nil,trivial,ok,by simp,by omega,fun x=>by simp[rmv,inS],rfl⟩
 ·rintro k env hh ⟨i,vo,O,last,F,g44,g45,g46,g10,g1,g2,hi,gO,okO,okL,mO,lm,sO,rfl⟩;have cO:=okO.count m (fun s hs=>by have:=mO s hs;omega) (by omega);by_cases hlt:(i:Int)<L.length
  ·obtain⟨bb,oo,s,e1,e2,e3,e4,e5⟩:=Sp.ix (Recs.fr (L:=L) ‹Sp h v L› F) i hlt
   have sm:=hL s (List.mem_of_getElem? e5);rw[aJ e5]at okL;obtain⟨k1,k2,k3,k4,k5⟩:=okL;obtain⟨h2,e_h2⟩:∃h2,h2=halloc hh [.int .i64 0,.int .i64 0]:=⟨_,rfl⟩;have F_h2:Fr [] hh h2:=e_h2▸Fr.halloc F.wf _;have o_h2:Own h2 hh.next [.int .i64 0,.int .i64 0]:=e_h2▸Own.new F.wf _;simp only[evs,seval,g44,g45,g46,hlt,e1,e4,←e_h2];refine ab (c':=[.int .i64 s.1,.int .i64 s.2]) F_h2.wf o_h2 rfl (by first|rfl|simp[aq,V.cells,aL, *]) rfl ?_
   rintro h3 o_h3 F_h3 n_h3;have F23:Fr [] hh h3:=F_h2.fresh F_h3 F.wf (Nat.le_refl _);have F3:=F.then F23;have b3:h.next≤h3.next:=F3.next;have bk:h.next≤hh.next:=F.next;simp only[evs,seval,g10,g1,o_h3.ld1];refine aa (ka F3.wf (gO.fr F23) b3 (by omega)) ?_;rintro v1 h4 ⟨gO1,U4⟩;obtain⟨p1,p2,p3⟩:=eh (a:=s.1) (b:=min s.2 a) okO (fun hh s' hs'=>by have:=mO s' hs';omega) k2 (by omega);have mO1:∀s'∈jC O s.1 (min s.2 a),s'.2≤max (min s.2 a) (s.2-n):=p3 _ (fun s' hs'=>by have:=mO s' hs';omega) (fun _=>by omega);have mO1':max s.1 (a+n)-n<s.2-n→∀s'∈jC O s.1 (min s.2 a),s'.2≤max s.1 (a+n)-n:=fun _=>p3 _ (fun s' hs'=>by have:=mO s' hs';omega) (fun _=>by omega);have cO1:=p1.count m (fun s hs=>by have:=mO1 s hs;omega) (by omega);have oo3:Own h4 hh.next [.int .i64 s.1,.int .i64 s.2]:=by
    refine U4.own _ _ ?_ o_h3;rcases gO with⟨rfl,_⟩|⟨b,n',rfl,_,_,_,og⟩
    ·simp[vb]
    ·have:=og.lt F.wf;simp[vb];omega
   have U4':=Gs.up (gO.fr F23) U4;simp(disch:=omega) only[evs,seval,ai,g1,g2,oo3.ld1];refine aa (ka U4.wf gO1 (Nat.le_trans b3 U4.next) (by omega)) ?_;rintro v2 h5 ⟨gO2,U5⟩;have U5':=Gs.up gO1 U5;obtain⟨q1,q2,q3⟩:=eh (a:=max s.1 (a+n)-n) (b:=s.2-n) p1 mO1' (by omega) (by omega);simp(disch:=omega) only[evs,seval,ai,g46];refine(aj _ _ _).2 ⟨L.length-(i+1),by omega,i+1,v2,_,s.2,F3.ups w (U4'.trans U5'),(by simp[g44]),(by simp[g45]),(by simp),(by simp),(by simp[g1]),(by simp[g2]),by omega,gO2,q1,k5,q3 _ mO1 (fun _=>by omega),sm,?_,rfl⟩;intro x;rw[q2,p2,sO,List.take_add_one,e5];simp only[Option.toList_some,rmv,kI,fg,jq,Bool.or_false];by_cases c1:x<a
   ·simp only[if_pos c1,Bool.or_assoc];congr 1;rw[Bool.eq_iff_iff];simp;omega
   ·simp only[if_neg c1,Bool.or_assoc];congr 1;rw[Bool.eq_iff_iff];simp;omega
  ·simp only[evs,seval,g45,g46,g10,hlt];refine aa (mQ gO (by omega)) ?_;rintro _ _ ⟨z,rfl,sz,oz,hh⟩;subst hh;simp only[evs,seval];refine⟨F,z,O,rfl,oz,sz,okO,fun x=>by rw[sO,List.take_of_length_le (by omega)],fun s hs=>by have:=mO s hs;omega⟩
theorem fb{α:Type}{l:List α}{a k:Nat}(h:a+k≤l.length):(ig l a k).length=l.length-k:=by
 unfold ig;simp;omega
theorem Av{α:Type}{l:List α}{a k:Nat}(h:a≤l.length)(i:Nat):(ig l a k)[i]? =if i<a then l[i]? else l[i+k]? :=by
 unfold ig;by_cases c:i<a
 ·rw[List.getElem?_append_left (by simp;omega),List.getElem?_take,if_pos c,if_pos c]
 ·rw[List.getElem?_append_right (by simp;omega),if_neg c,List.getElem?_drop,List.getElem?_drop];congr 1;simp;omega
theorem yI{l:List Bool}{a k:Nat}(h:a≤l.length)(i:Nat):(ig l a k).getD i false=if i<a then l.getD i false else l.getD (i+k) false:=by
 rw[List.getD_eq_getElem?_getD,Av h];split<;>simp[List.getD_eq_getElem?_getD]
theorem sM{n:Nat}{a k:Int}(c:¬gm n a k):0≤a∧0≤k∧a.toNat+k.toNat≤n:=by
 unfold gm at c;omega
theorem Kn.rem{L L':List (Int×Int)}{ks:List Bool}{a k:Int}(K:Kn L ks)(c:¬gm ks.length a k)(ok:SOK L' (-1))(e:∀x,inS L' x=rmv a k (inS L) x)(le:∀s∈L',s.2≤(ks.length:Int)-k):Kn L' (ig ks a.toNat k.toNat):=by
 obtain⟨c0,c1,c2⟩:=sM c;have hl:=fb c2;refine⟨ok,fun s hs=>by rw[hl];have:=le s hs;omega,fun i=>?_⟩;rw[e,yI (by omega)];unfold rmv;by_cases q:(i:Int)<a
 ·rw[if_pos q,if_pos (by omega),K.eq]
 ·rw[if_neg q,if_neg (by omega),show(i:Int)+k=((i+k.toNat:Nat):Int) by omega,K.eq]
theorem Ft(L:List (Int×Int))(hL:0<L.length):[V.nilp,V.nils]≠L.flatMap sp:=by
 cases L with
 |nil=>simp at hL
 |cons s L=>simp[sp]
theorem DT{h:Heap}{v:V}{l:List Int}{ks:List Bool}{a k:Int}(w:WF h)(x:Ix h v l ks)(a0:-9223372036854775808≤a)(a1:a≤9223372036854775807)(k0:-9223372036854775808≤k)(k1:k≤9223372036854775807):
 ao go 78 [v,.int .i64 a,.int .i64 k] h fun u h'=>Fr [] h h'∧∃c d,u=.tup [.agg [c,d],.int .i64 (if gm l.length a k then 4 else 0)]∧c.one=true∧d.one=true∧(¬gm l.length a k→Ix h' (.agg [c,d]) (ig l a.toNat k.toNat) (ig ks a.toNat k.toNat)):=by
 obtain⟨p,vk,L,rfl,r,s,kn,e1,e2⟩:=x;have vk1:=s.slc.one;obtain⟨h1,e_h1⟩:∃h1,h1=halloc h [pv p,vk]:=⟨_,rfl⟩;have F_h1:Fr [] h h1:=e_h1▸Fr.halloc w _;have o_h1:Own h1 h.next [pv p,vk]:=e_h1▸Own.new w _;obtain⟨h2,e_h2⟩:∃h2,h2=halloc h1 [.nilp,.nils]:=⟨_,rfl⟩;have F_h2:Fr [] h1 h2:=e_h2▸Fr.halloc F_h1.wf _;have o_h2:Own h2 h1.next [.nilp,.nils]:=e_h2▸Own.new F_h1.wf _;have F02:=F_h1.then F_h2;refine ah rfl rfl ?_;simp only[fn78,evs,seval,←e_h1,←e_h2,(F_h2.get o_h1).ld];refine aa (D1 F_h2.wf (r.fr F02) a0 a1 k0 k1) ?_;rintro _ h3 ⟨F3,c,rfl,hc,hr⟩;have F03:=F02.then F3;obtain⟨h4,e_h4⟩:∃h4,h4=halloc h3 [.nilp]:=⟨_,rfl⟩;have F_h4:Fr [] h3 h4:=e_h4▸Fr.halloc F3.wf _;have o_h4:Own h4 h3.next [.nilp]:=e_h4▸Own.new F3.wf _;simp only[evs,seval,←e_h4];refine ab (c':=[c]) F_h4.wf o_h4 rfl (by simp[aq,V.cells,hc]) rfl ?_;rintro h5 o5 F5 n5;have F35:Fr [] h3 h5:=F_h4.fresh F5 F3.wf (Nat.le_refl _);have F05:=F03.then F35;have o2:=F35.get (F3.get o_h2);by_cases z:gm l.length a k
 ·simp only[evs,seval,eq_true z,eq_false (show¬(4:Int)=0 by omega)];refine ab (c':=[.nilp,.nils]) F35.wf o2 rfl rfl rfl ?_;rintro h6 o6 F6 n6;simp only[evs,seval,o6.ld];exact⟨F05.fresh F6 w F_h1.next,.nilp,.nils,by simp[],rfl,rfl,fun q=>absurd trivial q⟩
 ·have z':¬gm ks.length a k:=by rw[e1];exact z
  obtain⟨c0,c1,c2⟩:=sM z;simp only[evs,seval,if_neg z,((F_h2.then (F3.then F35)).get o_h1).ld1];refine aa (DY (m:=(l.length:Int)) F35.wf (s.slc.fr F05) kn.ok (by omega) (fun s hs=>by have:=kn.le s hs;omega) (by omega) c0 (by omega) c1) ?_;rintro _ h6 ⟨F6,y,L',rfl,y1,sL,okL,iL,mL⟩;simp only[evs,seval,(F6.get o5).ld];refine aa (rG F6.wf hc y1) ?_;rintro _ h7 ⟨F7,rfl⟩;have F37:=F35.then (F6.then F7);simp only[evs,seval];refine ab (c':=[c,y]) F7.wf (F37.get (F3.get o_h2)) rfl (by simp[aq,V.cells,hc,y1]) rfl ?_;rintro h8 o8 F8 n8;simp only[evs,seval,o8.ld];have F07:=F03.then F37;refine⟨F07.fresh F8 w F_h1.next,c,y,by simp[],hc,y1,fun _=>?_⟩;have rr:=(hr z).fr F37;obtain⟨t,p',hp,rr1,rr2⟩:=rr;simp only[V.agg.injEq,List.cons.injEq,and_true]at hp;subst hp;have K':=kn.rem z' okL iL (by rw[e1];exact mL);have ix:Ix h7 (.agg [pv p',y]) (ig l a.toNat k.toNat) (ig ks a.toNat k.toNat):=⟨p',y,L',rfl,⟨t,p',rfl,rr1,rr2⟩,sL.fr F7,K',by rw[fb (by omega),fb c2];omega,by rw[fb c2];omega⟩;exact ix.frb F8 (F37.get (F3.get o_h2)) (by simp) Ft
theorem Dw{h:Heap}{b:Nat}{bs:List Bool}{a n:Nat}(w:WF h)(f:Fl h b bs)(ha:a+n≤bs.length):
 ao go 79 [.ptr b 0,.int .i64 (a:Int),.int .i64 (n:Int)] h fun u h'=>u=.int .i64 0∧Fl h' b (ig bs a n)∧Fr [b] h h':=by
 have f0:=f;obtain⟨ws,o,ok,hn0⟩:=f;refine ah rfl rfl ?_;simp only[fn79,evs,seval];refine aa (lM f0 (by omega) (by omega)) ?_;rintro _ _ ⟨rfl,hh⟩;replace hh:=hh.symm;subst hh;have e:pG bs.length a n=0:=by unfold pG;rw[if_neg (by omega)]
 rw[e];simp only[evs,seval];refine aa (uH w f0) ?_;rintro _ h2 ⟨bl,⟨c,rfl,hcnew⟩,F2⟩;obtain⟨v1,s1,b1⟩:=bl.upto (by simp) .i64 a (by omega) (by omega);obtain⟨v3,s3,b3⟩:=bl.from' (by simp) .i64 ((a:Int)+n) (by omega) (by omega);simp only[Int.toNat_natCast]at b1;rw[show((a:Int)+n).toNat=a+n by omega]at b3;have c1:=aB (Vals.one b1);have c3:=aB (Vals.one b3);obtain⟨h3,e_h3⟩:∃h3,h3=halloc h2 [v1,v3]:=⟨_,rfl⟩;have F_h3:Fr [] h2 h3:=e_h3▸Fr.halloc F2.wf _;have o_h3:Own h3 h2.next [v1,v3]:=e_h3▸Own.new F2.wf _;have e3:halloc h2 [v1,v3]=h3:=e_h3.symm;simp(disch:=omega) only[evs,seval,eff,ai,s1,s3,c1,c3,e3];have F03:=F2.then F_h3;have el:([(v1,bs.take a),(v3,bs.drop (a+n))]:List (V×List Bool)).flatMap Prod.snd=ig bs a n:=by simp[ig]
 refine aa (qP (Ls:=[(v1,bs.take a),(v3,bs.drop (a+n))]) F_h3.wf (f0.fr F03) (Sl.lit (n:=2) o_h3 rfl) ?_ ?_ (by simp)) ?_
 ·intro p hp;simp only[List.mem_cons,List.not_mem_nil,or_false]at hp;rcases hp with rfl|rfl
  ·exact b1.fr F_h3
  ·exact b3.fr F_h3
 ·rw[el,fb ha];omega
 ·rintro _ h4 ⟨rfl,f4,F4⟩;rw[el]at f4;simp only[evs,seval,DF];exact⟨f4,F03.trans F4 w (by simp) (fun x hx=>.inl hx)⟩
def LoP(h:Heap)(b:Nat)(pm:Option Nat)(l:List Int)(ks bs:List Bool):Prop:=∃p vk,Own h b [pv p,vk,pv pm]∧vk.one=true∧Ix h (.agg [pv p,vk]) l ks∧Mk h pm bs∧bs.length=l.length
theorem LoP.lo{h:Heap}{b:Nat}{pm:Option Nat}{l:List Int}{ks bs:List Bool}(a:LoP h b pm l ks bs):Lo h b l ks bs:=by
 obtain⟨p,vk,x⟩:=a;exact⟨p,vk,pm,x⟩
theorem Lo.p{h:Heap}{b:Nat}{l:List Int}{ks bs:List Bool}(a:Lo h b l ks bs):∃pm,LoP h b pm l ks bs:=by
 obtain⟨p,vk,pm,x⟩:=a;exact⟨pm,p,vk,x⟩
theorem LoP.fr{h h':Heap}{b:Nat}{pm:Option Nat}{l:List Int}{ks bs:List Bool}(a:LoP h b pm l ks bs)(f:Fr [] h h'):LoP h' b pm l ks bs:=by
 obtain⟨p,vk,o,v1,ix,mk,e⟩:=a;exact⟨p,vk,f.get o,v1,ix.fr f,mk.fr f,e⟩
abbrev FrQ(b:Nat)(pm:Option Nat)(h h':Heap):Prop:=Fr (b::pm.toList) h h'
theorem frQ{h h':Heap}{b:Nat}{pm:Option Nat}(f:Fr [] h h'):FrQ b pm h h':=⟨f.next,f.wf,fun _ _ _ o=>f.get o,fun _ _ _ o=>f.pl _ _ (by simp) o,f.lp,f.ro⟩
theorem FrQ.b{h h1 h2:Heap}{b:Nat}{pm:Option Nat}(a:FrQ b pm h h1)(f:Fr [b] h1 h2)(w:WF h):FrQ b pm h h2:=Fr.trans a f w (fun x hx=>.inl hx) (fun x hx=>.inl (by simp at hx;simp[hx]))
theorem FrQ.q{h h1 h2:Heap}{b q:Nat}{pm:Option Nat}(a:FrQ b pm h h1)(f:Fr [q] h1 h2)(w:WF h)(hq:pm=some q∨h.next≤q):FrQ b pm h h2:=by
 refine Fr.trans a f w (fun x hx=>.inl hx) (fun x hx=>?_);simp at hx;subst hx;rcases hq with e|e
 ·left;simp[e]
 ·exact .inr e
theorem FrQ.then{h h1 h2:Heap}{b:Nat}{pm:Option Nat}(a:FrQ b pm h h1)(f:Fr [] h1 h2)(w:WF h):FrQ b pm h h2:=Fr.trans a f w (fun x hx=>.inl hx) (by simp)
theorem vF{h:Heap}{b:Nat}{pm:Option Nat}{l m:List Int}{ks bs st:List Bool}{i:Int}{u v:V}(w:WF h)(a:LoP h b pm l ks bs)(am:mJ h u m)(as:Bools h v st)(hm:m.length≤1000000)(hst:st.length=m.length)(i0:-9223372036854775808≤i)(i1:i≤9223372036854775807):
 ao go 167 [.ptr b 0,.int .i64 i,u,v] h fun z h'=>z=.int .i64 (ce l i m)∧FrQ b pm h h'∧∃pm',(pm'=pm∨(pm=none∧∀q,pm'=some q→h.next≤q))∧(if ce l i m=0 then LoP h' b pm' (l.take i.toNat++m++l.drop i.toNat) (ks.take i.toNat++List.replicate m.length false++ks.drop i.toNat) (bs.take i.toNat++st++bs.drop i.toNat)else LoP h' b pm' l ks bs):=by
 have al:=a;obtain⟨p,vk,o,v1,ix,mk,e⟩:=a;have hle:((m.length:Nat):Int)=st.length:=by omega
 refine ah rfl rfl ?_;simp only[fn167,evs,seval,am.len,as.len,eq_true hle,o.ld];refine aa (DU w ix am hm i0 i1) ?_;rintro _ h1 ⟨F1,c,d,rfl,hc,hd,hx⟩;obtain⟨h2,e_h2⟩:∃h2,h2=halloc h1 [.nilp,.nils]:=⟨_,rfl⟩;have F_h2:Fr [] h1 h2:=e_h2▸Fr.halloc F1.wf _;have o_h2:Own h2 h1.next [.nilp,.nils]:=e_h2▸Own.new F1.wf _;simp only[evs,seval,←e_h2];refine ab (c':=[c,d]) F_h2.wf o_h2 rfl (by simp[aq,V.cells,hc,hd]) rfl ?_;rintro h3 o3 F3 n3;have F13:Fr [] h1 h3:=F_h2.fresh F3 F1.wf (Nat.le_refl _);have F03:=F1.then F13;by_cases z:ce l i m=0
 ·have ix':=hx z;obtain⟨p',rfl⟩:=ix'.form;have hi:0≤i∧i≤l.length∧l.length+m.length≤1024:=by
   unfold ce at z;by_cases c1:0≤i∧i≤l.length
   ·rw[if_pos c1]at z;by_cases c2:1024-(l.length:Int)<m.length
    ·rw[if_pos c2]at z;omega
    ·omega
   ·rw[if_neg c1]at z;omega
  by_cases c0:(m.length:Int)=0
  ·have hm0:m=[]:=List.length_eq_zero_iff.1 (by omega);have hs0:st=[]:=List.length_eq_zero_iff.1 (by omega);subst hm0 hs0;simp only[evs,seval,eq_true z,am.len];refine⟨frQ F03,pm,.inl rfl,?_⟩;simpa using al.fr F03
  ·obtain⟨k,rfl⟩:∃k:Nat,i=k:=⟨i.toNat,by omega⟩;simp only[Int.toNat_natCast]at hx ix'⊢;have blt:b<h1.next:=Nat.lt_of_lt_of_le (o.lt w) F1.next;have niv:=ix.noint;have nbv:=ix.nobool
   -- the marks are there
   cases pm
   case' none=>
    have mk:bs=[]:=mk;simp only[evs,seval,eq_true z,am.len,eq_false c0,(F03.get o).ld1,gK];refine aa (Dx F13.wf) ?_;rintro _ h4 ⟨q,rfl,hq,fl4,F4⟩;simp only[evs,seval];have F04:=F03.then F4;refine ab (c':=[pv p,vk,.ptr q 0]) F4.wf (F04.get o) rfl rfl rfl ?_;rintro H oH F5 n5;have FH:FrQ b none h H:=(frQ F04).b F5 w;have hqq:(none:Option Nat)=some q∨h.next≤q:=.inr (Nat.le_trans F03.next hq);have hpq:some q=(none:Option Nat)∨((none:Option Nat)=none∧∀q',some q=some q'→h.next≤q'):=.inr ⟨rfl,fun q' e=>by cases e;exact Nat.le_trans F03.next hq⟩;have flH:Fl H q bs:=Mk.frb (pm:=some q) (show Mk h4 (some q) bs from mk▸fl4) F5 (F04.get o) rfl;have ixH:=(ix'.fr (F13.then F4)).frb F5 (F04.get o) (by simp) (v7 (ud niv));have oxH:=F5.own _ _ (by simp;omega) (F4.get o3);have stH:=Bools.frl (as.fr F04) F5 (F04.get o) oH (nobool nbv) rfl;have wfH:=F5.wf;simp only[evs,seval,oH.ld1,am.len]
   case' some q=>
    have flH:Fl h3 q bs:=Fl.fr mk F03;obtain⟨H,eH⟩:∃H,H=h3:=⟨h3,rfl⟩;have oH:Own H b [pv p,vk,.ptr q 0]:=eH▸F03.get o;have FH:FrQ b (some q) h H:=eH▸frQ F03;have hqq:some q=some q∨h.next≤q:=.inl rfl;have hpq:some q=some q∨(some q=none∧∀q',some q=some q'→h.next≤q'):=.inl rfl;have ixH:=eH▸ix'.fr F13;have oxH:=eH▸o3;have stH:=eH▸as.fr F03;have wfH:WF H:=eH▸F13.wf;rw[←eH]at flH;simp only[evs,seval,eq_true z,am.len,eq_false c0,(F03.get o).ld1,aO];rw[←eH]
   all_goals
    have qb:q≠b:=by
     rintro rfl;obtain⟨ws,oq,ok,_⟩:=flH;have:=congrArg List.length (oq.uniq oH);rw[cT,ok.len]at this;simp at this
    refine aa (Dy (a:=k) (n:=m.length) (v:=false) wfH flH (by omega) (by omega)) ?_;rintro _ h6 ⟨rfl,fl6,F6⟩;have o6b:=F6.own _ _ (by simp;omega) oH;have ix6:=ixH.frf F6 flH;have qx:q≠h1.next:=by
     rintro rfl;obtain⟨ws,oq,ok,_⟩:=flH;have:=congrArg List.length (oq.uniq oxH);rw[cT,ok.len]at this;simp at this
    have ox6:=F6.own _ _ (by simp;omega) oxH;have st6:Bools h6 v st:=by
     obtain⟨ws,oq,ok,_⟩:=flH;obtain⟨ws',oq',ok',_⟩:=fl6;exact Bools.frb stH F6 oq oq' (by rw[ok'.len,ok.len])
    simp only[evs,seval,ox6.ld];refine ab (c':=[pv p',d,.ptr q 0]) F6.wf o6b rfl (by simp[aq,V.cells,hc,hd]) rfl ?_;rintro h7 o7 F7 n7;have fl7:Fl h7 q _:=Mk.frb (pm:=some q) fl6 F7 o6b rfl;have ix7:=ix6.frb F7 o6b (by simp) (v7 (ud (pm:=some q) niv));have st7:=Bools.frl st6 F7 o6b o7 (nobool (pm:=some q) nbv) rfl;have F07:=(FH.q F6 w hqq).b F7 w;simp only[evs,seval,st7.len];obtain⟨PP,hPP,hPq,hPw,hP0⟩:∃PP:Heap→Prop,PP h7∧(∀h1 h2,PP h1→Fr [q] h1 h2→PP h2)∧(∀h1,PP h1→WF h1)∧(∀h1,PP h1→FrQ b _ h h1):=⟨_,F07,fun h1 h2 x f=>FrQ.q x f w hqq,fun h1 x=>Fr.wf x,fun h1 x=>x⟩;refine aC (fun n env hh=>∃j:Nat,env.get 71=some (.int .i64 j)∧env.get 70=some (.int .i64 st.length)∧env.get 69=some v∧env.get 0=some (.ptr b 0)∧env.get 1=some (.int .i64 k)∧j≤st.length∧PP hh∧
     Own hh b [pv p',d,.ptr q 0]∧Fl hh q (bs.take k++(st.take j++List.replicate (st.length-j) false)++bs.drop k)∧Ix hh (.agg [pv p',d]) (l.take k++m++l.drop k) (ks.take k++List.replicate m.length false++ks.drop k)∧Bools hh v st∧n=st.length-j) st.length (by omega) ?_ ?_
    ·exact⟨0,(by simp),(by simp),(by simp),(by simp),(by simp),by omega,hPP,o7,by simpa[hst]using fl7,ix7,st7,rfl⟩
    ·rintro n env hh ⟨j,g71,g70,g69,g0,g1,hj,FF,oo,ff,ii,ss,rfl⟩;by_cases hlt:(j:Int)<st.length
     ·obtain⟨bb,oo',x,q1,q2,q3⟩:=ss.ix .i64 j (by omega) hlt;simp only[Int.toNat_natCast]at q3;cases x
      ·simp(disch:=omega) only[evs,seval,ai,g71,g70,g69,hlt,q1,q2];rw[yX q3]at ff;refine(aj _ _ _).2 ⟨st.length-(j+1),by omega,j+1,(by simp),(by simp[g70]),(by simp[g69]),(by simp[g0]),(by simp[g1]),by omega,FF,oo,ff,ii,ss,rfl⟩
       done
      ·simp(disch:=omega) only[evs,seval,ai,g71,g70,g69,g0,g1,hlt,q1,q2,oo.ld1];refine aa (Dv (hPw _ FF) ff (by omega) (by omega)) ?_;rintro _ h8 ⟨rfl,f8,F8,n8⟩;have lf:(k:Int)+j<((bs.take k++(st.take j++List.replicate (st.length-j) false)++bs.drop k).length:Nat):=by simp;omega
       rw[if_pos ⟨by omega,lf⟩,show((k:Int)+j).toNat=k+j by omega,Dm (by omega) _ q3]at f8;simp(disch:=omega) only[evs,seval,ai,g71];have o8:=F8.own _ _ (by simp;omega) oo;have s8:Bools h8 v st:=by
        obtain⟨ws,oq,ok,_⟩:=ff;obtain⟨ws',oq',ok',_⟩:=f8;exact Bools.frb ss F8 oq oq' (by rw[ok'.len,ok.len])
       refine(aj _ _ _).2 ⟨st.length-(j+1),by omega,j+1,(by simp),(by simp[g70]),(by simp[g69]),(by simp[g0]),(by simp[g1]),by omega,hPq _ _ FF F8,o8,f8,ii.frf F8 ff,s8,rfl⟩
       done
     ·simp only[evs,seval,g71,g70,hlt];have ej:j=st.length:=by omega
      subst ej;simp only[List.take_length,Nat.sub_self,List.replicate_zero,List.append_nil]at ff;refine⟨by first|rw[z]|trivial,hP0 _ FF,some q,(by first|exact hpq|simpa using hpq),?_⟩
      try rw[if_pos z]
      exact⟨p',d,oo,hd,ii,ff,by simp;omega⟩
 ·simp only[evs,seval,eq_false z];exact⟨frQ F03,pm,.inl rfl,al.fr F03⟩
theorem LoP.qb{h:Heap}{b q:Nat}{l:List Int}{ks bs:List Bool}(a:LoP h b (some q) l ks bs):b≠q:=by
 obtain⟨p,vk,o,v1,ix,mk,e⟩:=a;rintro rfl;obtain⟨ws,oq,ok,_⟩:=(mk:Fl h b bs);have:=congrArg List.length (oq.uniq o);rw[cT,ok.len]at this;simp at this
theorem CB{h:Heap}{b:Nat}{pm:Option Nat}{l:List Int}{ks bs:List Bool}{i size:Int}{kn:Bool}(w:WF h)(a:LoP h b pm l ks bs)(s0:-9223372036854775808≤size)(s1:size≤9223372036854775807)(i0:-9223372036854775808≤i)(i1:i≤9223372036854775807):
 ao go 54 [.ptr b 0,.int .i64 i,.int .i64 size,.bool kn] h fun u h'=>u=.int .i64 (eZ l i size)∧(if eZ l i size=0 then LoP h' b pm (l.set i.toNat size) (ks.set i.toNat kn) bs else LoP h' b pm l ks bs)∧FrQ b pm h h':=by
 have al:=a;obtain⟨p,vk,o,v1,ix,mk,e⟩:=a;refine ah rfl rfl ?_;simp only[fn54,evs,seval,o.ld];refine aa (DR w ix s0 s1 i0 i1) ?_;rintro _ h1 ⟨F1,c,d,rfl,hc,hd,hx⟩;obtain⟨h2,e_h2⟩:∃h2,h2=halloc h1 [.nilp,.nils]:=⟨_,rfl⟩;have F_h2:Fr [] h1 h2:=e_h2▸Fr.halloc F1.wf _;have o_h2:Own h2 h1.next [.nilp,.nils]:=e_h2▸Own.new F1.wf _;simp only[evs,seval,←e_h2];refine ab (c':=[c,d]) F_h2.wf o_h2 rfl (by simp[aq,V.cells,hc,hd]) rfl ?_;rintro h3 o3 F3 n3;have F13:Fr [] h1 h3:=F_h2.fresh F3 F1.wf (Nat.le_refl _);have F03:=F1.then F13;by_cases z:eZ l i size=0
 ·simp only[evs,seval,eq_true z,o3.ld];refine ab (c':=[c,d,pv pm]) F13.wf (F03.get o) rfl (by simp[aq,V.cells,hc,hd]) rfl ?_;rintro h4 o4 F4 n4;simp only[evs,seval];have ix':=hx z;obtain⟨p',rfl⟩:=ix'.form;exact⟨⟨p',d,o4,hd,(ix'.fr F13).frb F4 (F03.get o) (by simp) (v7 (ud ix.noint)),(mk.fr F03).frb F4 (F03.get o) rfl,by simpa using e⟩,(frQ F03).b F4 w⟩
 ·simp only[evs,seval,eq_false z];exact⟨al.fr F03,frQ F03⟩
theorem CC{h:Heap}{b:Nat}{pm:Option Nat}{l:List Int}{ks bs:List Bool}{a k:Int}(w:WF h)(x:LoP h b pm l ks bs)(a0:-9223372036854775808≤a)(a1:a≤9223372036854775807)(k0:-9223372036854775808≤k)(k1:k≤9223372036854775807):
 ao go 31 [.ptr b 0,.int .i64 a,.int .i64 k] h fun u h'=>FrQ b pm h h'∧u=.int .i64 (if gm l.length a k then 4 else 0)∧(if gm l.length a k then LoP h' b pm l ks bs else LoP h' b pm (ig l a.toNat k.toNat) (ig ks a.toNat k.toNat) (ig bs a.toNat k.toNat)):=by
 have al:=x;obtain⟨p,vk,o,v1,ix,mk,e⟩:=x;refine ah rfl rfl ?_;simp only[fn31,evs,↓reduceIte,Nat.reduceEqDiff,Nat.reduceAdd,o.ld];refine aa (DT w ix a0 a1 k0 k1) ?_;rintro _ h1 ⟨F1,c,d,rfl,hc,hd,hx⟩;obtain⟨h2,e_h2⟩:∃h2,h2=halloc h1 [.nilp,.nils]:=⟨_,rfl⟩;have F_h2:Fr [] h1 h2:=e_h2▸Fr.halloc F1.wf _;have o_h2:Own h2 h1.next [.nilp,.nils]:=e_h2▸Own.new F1.wf _;simp only[evs,↓reduceIte,←e_h2];refine ab (c':=[c,d]) F_h2.wf o_h2 rfl (by simp[aq,V.cells,hc,hd]) rfl ?_;rintro h3 o3 F3 n3;have F13:Fr [] h1 h3:=F_h2.fresh F3 F1.wf (Nat.le_refl _);have F03:=F1.then F13;by_cases z:gm l.length a k
 ·simp only[evs,↓reduceIte,Nat.reduceEqDiff,if_pos z,eq_false (show¬(4:Int)=0 by omega)];exact⟨frQ F03,al.fr F03⟩
 ·obtain⟨c0,c1,c2⟩:=sM z;by_cases k00:k=0
  ·subst k00;simp only[evs,↓reduceIte,Nat.reduceEqDiff,if_neg z];refine⟨frQ F03,?_⟩;have:∀{α:Type}(r:List α),ig r a.toNat (0:Int).toNat=r:=fun r=>by simp[ig]
   rw[this,this,this];exact al.fr F03
  ·cases pm with
   |none=>have mk:bs=[]:=mk;subst mk;simp at e;omega
   |some q=>
    have fl:Fl h q bs:=mk;have qb:=al.qb;simp only[evs,↓reduceIte,Nat.reduceEqDiff,if_neg z,eq_false k00,o3.ld];refine ab (c':=[c,d,.ptr q 0]) F13.wf (F03.get o) rfl (by simp[aq,V.cells,hc,hd]) rfl ?_;rintro h4 o4 F4 n4;have ix':=hx z;obtain⟨p',rfl⟩:=ix'.form;have ix4:=(ix'.fr F13).frb F4 (F03.get o) (by simp) (v7 (ud ix.noint));have fl4:Fl h4 q bs:=Mk.frb (pm:=some q) (fl.fr F03) F4 (F03.get o) rfl;simp only[evs,↓reduceIte,Nat.reduceEqDiff,o4.ld1];have ea:(a:Int)=(a.toNat:Nat):=by omega
    have ek:(k:Int)=(k.toNat:Nat):=by omega
    have fr:=Dw (a:=a.toNat) (n:=k.toNat) F4.wf fl4 (by omega);rw[←ea,←ek]at fr;refine aa fr ?_;rintro _ h5 ⟨rfl,f5,F5⟩;simp only[evs,↓reduceIte];refine⟨((frQ F03).b F4 w).q F5 w (.inl rfl),?_⟩;try rw[if_neg z]
    exact⟨p',d,F5.own _ _ (by simpa using qb) o4,hd,ix4.frf F5 fl4,f5,by rw[fb (by omega),fb c2];omega⟩
theorem rA{h:Heap}{b:Nat}{pm:Option Nat}{l:List Int}{ks bs:List Bool}(w:WF h)(a:LoP h b pm l ks bs):ao go 53 [.ptr b 0] h fun u h'=>∃c pm',u=.ptr c 0∧h.next≤c∧(∀q,pm'=some q→h.next≤q)∧LoP h' c pm' l ks bs∧Fr [] h h':=by
 obtain⟨p,vk,o,v1,ix,mk,e⟩:=a;obtain⟨h1,e_h1⟩:∃h1,h1=halloc h [pv p,vk,.nilp]:=⟨_,rfl⟩;have F_h1:Fr [] h h1:=e_h1▸Fr.halloc w _;have o_h1:Own h1 h.next [pv p,vk,.nilp]:=e_h1▸Own.new w _;cases pm with
 |none=>
  have mk:bs=[]:=mk;refine ah rfl rfl ?_;simp only[fn53,evs,seval,o.ld,(F_h1.get o).ld1,gK,←e_h1];exact⟨h.next,none,rfl,Nat.le_refl _,by simp,⟨p,vk,o_h1,v1,ix.fr F_h1,mk,e⟩,F_h1⟩
 |some q=>
  have fl:Fl h q bs:=mk;refine ah rfl rfl ?_;simp only[fn53,evs,seval,o.ld,(F_h1.get o).ld1,aO,←e_h1];refine aa (Bj F_h1.wf (fl.fr F_h1)) ?_;rintro _ h2 ⟨c,rfl,hc,f2,F2⟩;simp only[evs,seval];refine ab (c':=[pv p,vk,.ptr c 0]) F2.wf (F2.get o_h1) rfl rfl rfl ?_;rintro h3 o3 F3 n3;simp only[evs,seval];have F02:=F_h1.then F2;exact⟨h.next,some c,rfl,Nat.le_refl _,fun q e=>by cases e;exact Nat.le_trans F_h1.next hc,⟨p,vk,o3,v1,(ix.fr F02).frb F3 (F2.get o_h1) (by simp) (v7 (ud (pm:=none) ix.noint)),Mk.frb (pm:=some c) f2 F3 (F2.get o_h1) rfl,e⟩,F02.fresh F3 w (Nat.le_refl _)⟩
end Go.Ev.Lay
